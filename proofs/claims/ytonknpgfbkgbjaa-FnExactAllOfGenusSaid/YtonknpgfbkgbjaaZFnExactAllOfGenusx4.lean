-- Bundled by shake.py from this session's printed and written texts; Lean checks it.
import Derived.Test.YtonknpgfbkgbjaaZFnExactAllOfGenusx1
section
namespace Go.Proofs.Ytonknpgfbkgbjaa.PC
open Go.RowKit Go.Proofs.YtonknpgfbkgbjaaW.PrintWords Go.Proofs.YtonknpgfbkgbjaaW.PrintLast Go.Proofs.YtonknpgfbkgbjaaW.PrintMore
attribute [local go_sem] max2_int min2_int max_two min_two max_three min_three max_four min_four
set_option linter.unusedVariables false
set_option linter.unusedSimpArgs false
set_option maxHeartbeats 8000000
set_option maxRecDepth 100000
mutual
def spec_l3Table.l0 : Nat → List Int → Int → List Bool → Int → Option (List Bool)
 | 0, _, _, _, _ => none
 | k + 1, x0, x1, x5, x6 => if x6 ≤ x1 then (spec_l3Table.l1 k x0 x1 x5 x6 0) else (some x5)
def spec_l3Table.l1 : Nat → List Int → Int → List Bool → Int → Int → Option (List Bool)
 | 0, _, _, _, _, _ => none
 | k + 1, x0, x1, x5, x6, x7 => if x7 < (x0.length : Int) then (if 0 ≤ x7 then (if x6 ≥ (rd x0 x7) then (if 0 ≤ (wrap64 (x6 - (rd x0 x7))) then (if (wrap64 (x6 - (rd x0 x7))) < (x5.length : Int) then (if rdOf false x5 (wrap64 (x6 - (rd x0 x7))) = true then (if 0 ≤ x6 then (if x6 < (x5.length : Int) then (spec_l3Table.l1 k x0 x1 (x5.set (x6 : Int).toNat true) x6 (wrap64 (x7 + 1))) else (none)) else (none)) else (spec_l3Table.l1 k x0 x1 x5 x6 (wrap64 (x7 + 1)))) else (none)) else (none)) else (spec_l3Table.l1 k x0 x1 x5 x6 (wrap64 (x7 + 1)))) else (none)) else (spec_l3Table.l0 k x0 x1 x5 (wrap64 (x6 + 1)))
end
def spec_l3Table.f (k : Nat) (l0 : List Int) (a1 : Int) : Option (List Bool) := if 0 ≤ (wrap64 (a1 + 1)) then (if (wrap64 (a1 + 1) : Int).toNat ≤ 281474976710656 then ((some (List.replicate (wrap64 (a1 + 1) : Int).toNat false : List Bool)).bind fun y264 => (if 0 < (y264.length : Int) then (spec_l3Table.l0 k l0 a1 (y264.set (0 : Int).toNat true) 1) else (none))) else (none)) else (none)
theorem spec_l3Table.mono_l : ∀ k, (∀ y0 y1 y2 y3, LeO (spec_l3Table.l0 k y0 y1 y2 y3) (spec_l3Table.l0 (k + 1) y0 y1 y2 y3)) ∧ (∀ y0 y1 y2 y3 y4, LeO (spec_l3Table.l1 k y0 y1 y2 y3 y4) (spec_l3Table.l1 (k + 1) y0 y1 y2 y3 y4))
 | 0 => ⟨fun _ _ _ _ r h => by simp [spec_l3Table.l0] at h, fun _ _ _ _ _ r h => by simp [spec_l3Table.l1] at h⟩
 | k + 1 => by
  obtain ⟨ih0, ih1⟩ := spec_l3Table.mono_l k
  refine ⟨?_, ?_⟩
  · intro y0 y1 y2 y3
    unfold spec_l3Table.l0
    repeat' first
    | (with_reducible exact ih0 _ _ _ _)
    | (with_reducible exact ih1 _ _ _ _ _)
    | (with_reducible exact LeO.refl _)
    | (with_reducible exact LeO.none _)
    | (with_reducible refine LeO.ite ?_ ?_)
    | (with_reducible refine LeO.bind ?_ (fun _ => ?_))
    | exact ih0 _ _ _ _
    | exact ih1 _ _ _ _ _
    | exact LeO.none _
    | refine LeO.ite ?_ ?_
    | refine LeO.bind ?_ (fun _ => ?_)
  · intro y0 y1 y2 y3 y4
    unfold spec_l3Table.l1
    repeat' first
    | (with_reducible exact ih0 _ _ _ _)
    | (with_reducible exact ih1 _ _ _ _ _)
    | (with_reducible exact LeO.refl _)
    | (with_reducible exact LeO.none _)
    | (with_reducible refine LeO.ite ?_ ?_)
    | (with_reducible refine LeO.bind ?_ (fun _ => ?_))
    | exact ih0 _ _ _ _
    | exact ih1 _ _ _ _ _
    | exact LeO.none _
    | refine LeO.ite ?_ ?_
    | refine LeO.bind ?_ (fun _ => ?_)
theorem spec_l3Table.mono : ∀ a0 a1 k, LeO (spec_l3Table.f k a0 a1) (spec_l3Table.f (k + 1) a0 a1) := by
 intro a0 a1 k
 obtain ⟨ih0, ih1⟩ := spec_l3Table.mono_l k
 unfold spec_l3Table.f
 repeat' first
  | (with_reducible exact ih0 _ _ _ _)
  | (with_reducible exact ih1 _ _ _ _ _)
  | (with_reducible exact LeO.refl _)
  | (with_reducible exact LeO.none _)
  | (with_reducible refine LeO.ite ?_ ?_)
  | (with_reducible refine LeO.bind ?_ (fun _ => ?_))
  | exact ih0 _ _ _ _
  | exact ih1 _ _ _ _ _
  | exact LeO.none _
  | refine LeO.ite ?_ ?_
  | refine LeO.bind ?_ (fun _ => ?_)
theorem spec_l3Table.calls (k : Nat) (A0 : Option Addr) (c0 : Nat) (l0 : List Int) (a1 : Int) (r : List Bool) (w : World) (hr0 : Kd.C (Kd.int .i64) w A0 l0.length l0) (hc0 : l0.length ≤ c0) (h : spec_l3Table.f k l0 a1 = some r) :
 Calls Try.prog 81 #[.slice A0 l0.length c0, .int .i64 a1] w fun e w' => ∃ v0_ : Value, e = .returned (v0_) ∧ Kd.R Kd.bool 4 w' w.heap.size (fun _ => True) v0_ r ∧ Below w.heap.size w w' := by
 have HR0 := Aside0.mk hr0
 have HC0 := Aside0.mk hc0
 clear hr0 hc0
 have HB := Aside0.mk (Below.refl w.heap.size w)
 have H := h
 clear h
 unfold spec_l3Table.f at H
 obtain ⟨ji3, hji3⟩ : ∃ j_ : Int, (wrap64 (a1 + 1)) = j_ := ⟨_, rfl⟩
 replace H : (if 0 ≤ (ji3) then (if (ji3 : Int).toNat ≤ 281474976710656 then ((some (List.replicate (ji3 : Int).toNat false : List Bool)).bind fun y264 => (if 0 < (y264.length : Int) then (spec_l3Table.l0 k l0 a1 (y264.set (0 : Int).toNat true) 1) else (none))) else (none)) else (none)) = some r := by first | (rw [hji3] at H; exact H) | (simp only [hji3] at H ⊢; exact H)
 have hji3w : (IntKind.i64.wrap (a1 + 1)) = ji3 := (i64_w _).trans hji3
 obtain ⟨c4, H⟩ := ip_ H
 have c4b0 := eq_true c4
 have c4b1 : decide (0 ≤ (ji3)) = true := decide_eq_true c4
 clear c4
 obtain ⟨c5, H⟩ := ip_ H
 have c5b0 := eq_true c5
 have c5b1 : decide ((ji3 : Int).toNat ≤ 281474976710656) = true := decide_eq_true c5
 clear c5
 obtain ⟨y264, hy264⟩ : ∃ y_ : List Bool, y_ = (List.replicate (ji3 : Int).toNat false) := ⟨_, rfl⟩
 replace H : (if 0 < (y264.length : Int) then (spec_l3Table.l0 k l0 a1 (y264.set (0 : Int).toNat true) 1) else (none)) = some r := by subst hy264; exact H
 have Ny264 := Aside0.mk hy264
 clear hy264
 obtain ⟨c6, H⟩ := ip_ H
 have c6b0 : decide (0 < (y264.length : Int)) = true := decide_eq_true c6
 have c6b1 : decide (0 < y264.length) = true := decide_eq_true (by omega)
 clear c6
 obtain ⟨y267, hy267⟩ : ∃ y_ : List Bool, y_ = (y264.set (0 : Int).toNat true) := ⟨_, rfl⟩
 replace H : (spec_l3Table.l0 k l0 a1 y267 1) = some r := by subst hy267; exact H
 have Ny267 := Aside0.mk hy267
 clear hy267
 have H' := Aside0.mk H
 clear H
 go_enter Try.func81, Try.ntmps81
 go_wp2_with (first | ((with_reducible refine gate_dst (N := 10) rfl ?_); refine Kd.R_make Kd.bool _ 4 rfl (N := 10) rfl 67 _ _ rfl ji3 rfl rfl Try.underlying67 (.bool false) 1 info4 rfl (by decide) (by omega) false (ok := fun _ => True) (okp := fun _ => True) rfl (fun _ hk => hk) trivial (od_) (Nat.le_trans (Nat.mul_le_mul_right _ (od_ : ji3.toNat ≤ 281474976710656)) (by omega)) (Below.refl _ _) (Nat.le_refl _) ?_; intro v265 w8 ho9 hb hg_ hnew_; clear hg_ hnew_; (first | rw [← Ny264.out] at ho9 | (simp only [Int.reduceToNat] at ho9; rw [← Ny264.out] at ho9)); have HO266 := Aside0.mk (Kd.R_lower ho9 (below_size (bl_ HB.out))); replace HB := bo_ HB hb; clear hb ho9; have p7 : 0 ≤ (0 : Int) := (by omega); have q7 : (0 : Int) < ((y264.length : Int) : Int) := od_; have qi7 : (0 < y264.length) = True := eq_true (by omega); obtain ⟨go7, co7, eo7, gb7, gl7, cl7, HG7⟩ := Kd.R_form HO266.out (by omega); (first | cases eo7 | (injection eo7 with ea_ en_ ec_; (first | subst ea_ | (injection ea_ with ea_; subst ea_)); subst ec_; clear en_)); have GB7 := Aside0.mk gb7; have GG7 := Aside0.mk HG7; clear gb7 gl7 HG7; obtain ⟨hx7_0, hf7_0⟩ := Kd.R_celln false HO266.out (0 : Int) p7 q7; (try rw [show ((0 : Int)).toNat = 0 from rfl] at hx7_0); (try simp only [Nat.reduceMul, Nat.zero_mul, Nat.zero_add, Nat.reduceAdd] at hx7_0); (try rw [show ((0 : Int)).toNat = 0 from rfl] at hf7_0); (try simp only [Nat.reduceMul, Nat.zero_mul, Nat.zero_add, Nat.reduceAdd] at hf7_0); replace p7 := eq_true p7; replace q7 := eq_true q7; obtain ⟨hy10_, hz10_⟩ := Kd.R_celln false HO266.out (0 : Int) (by omega) (od_); (try simp only [Int.reduceToNat, Int.toNat_zero, Int.toNat_ofNat, Nat.reduceMul, Nat.zero_mul, Nat.zero_add] at hy10_ hz10_); (try rw [show ((0 : Int)).toNat = 0 from rfl] at hy10_); (try rw [show ((0 : Int)).toNat = 0 from rfl] at hz10_); have HP10 := Kd.R_putg HO266.out (0 : Int) true) | ((with_reducible refine gate_store (t := 4) (p := 12) rfl ?_); refine store_event (t := 4) (p := 12) (v := ?vo_w11) (w1 := (w8.setCell ⟨go7, (0 : Int).toNat, none⟩ (.bool true))) ?hg ?ho ?hn ?hr ?_; (case ho => rfl); (case hg => rfl); (case hn => rfl); (case hr => first | (go_simp; done) | (go_simp; rfl)); intro w11 hw; have hg : w8.grownBy w11 (some go7) := (by rw [hw]; exact HP10.2); have hp_ : Kd.R Kd.bool 4 w11 w.heap.size (fun _ => True) (.slice (some ⟨go7, 0, none⟩) y264.length co7) y267 := (by rw [hw, Ny267.out]; exact HP10.1); clear HP10; replace HO266 := Aside0.mk (hp_); replace HB := Aside0.mk ((by rw [hw]; exact below_set (HB.out) GB7.out : Below w.heap.size w w11)); clear hg hw hp_))
 go_loopg [6] k (fun kq v6 w' => ∃ (x5_1 : List Bool) (x6_1 : Int), v6 = .int .i64 x6_1 ∧ Aside0 (spec_l3Table.l0 kq l0 a1 x5_1 x6_1 = some r) ∧ Aside0 (kq ≤ k) ∧ Aside0 (Kd.R Kd.bool 4 w' w.heap.size (fun _ => True) (.slice (some ⟨go7, 0, none⟩) y264.length co7) x5_1) ∧ Aside0 (Below w.heap.size w w'))
 case atStart => exact ⟨(y267), (1), rs_, H', ⟨Nat.le_refl _⟩, ⟨re_ HO266.out⟩, ⟨bl_ HB.out⟩⟩
 case round =>
  clear H'
  try clear c4b0
  try clear c4b1
  try clear c5b0
  try clear c5b1
  try clear c6b0
  try clear c6b1
  try clear p7
  try clear q7
  try clear qi7
  try clear hx7_0
  obtain ⟨x5_1, x6_1, rfl, HA, HK1, HO_5, HB⟩ := hrel
  have hl5_1 := (Kd.R_reads' HO_5.out).1
  rw [hl5_1] at HO_5
  (try simp only [hl5_1])
  cases gk with
  | zero => exact absurd HA.out (by simp [spec_l3Table.l0])
  | succ k1 =>
   have H := HA.out
   clear HA
   simp only [spec_l3Table.l0] at H
   by_cases c12 : x6_1 ≤ a1
   rotate_left
   · rw [if_neg c12] at H
     have c12b0 : decide (x6_1 ≤ a1) = false := decide_eq_false c12
     clear c12
     obtain rfl := Option.some.inj H
     go_wp2
     go_ret
     exact ⟨_, by first | rfl | (simp [errW_none, errW_some] <;> rfl) | (simp only [← hji3]; first | rfl | (simp [errW_none, errW_some] <;> rfl)) | (simp [*, errW_none, errW_some] <;> rfl), re_ HO_5.out, bl_ HB.out⟩
   rw [if_pos c12] at H
   have c12b0 : decide (x6_1 ≤ a1) = true := decide_eq_true c12
   clear c12
   have H' := Aside0.mk H
   clear H
   go_wp2
   go_loopg [7] k1 (fun kq v7 w' => ∃ (x5_2 : List Bool) (x7_2 : Int), v7 = .int .i64 x7_2 ∧ Aside0 (spec_l3Table.l1 kq l0 a1 x5_2 x6_1 x7_2 = some r) ∧ Aside0 (kq ≤ k1) ∧ Aside0 (Kd.R Kd.bool 4 w' w.heap.size (fun _ => True) (.slice (some ⟨go7, 0, none⟩) x5_1.length co7) x5_2) ∧ Aside0 (Below w.heap.size w w'))
   case atStart => exact ⟨(x5_1), (0), rs_, H', ⟨Nat.le_refl _⟩, ⟨by (try simp only [hl5_1]); (with_reducible repeat (first | apply Kd.R_alloc | apply Kd.R_drewN | apply Kd.R_drew)); exact HO_5.out⟩, ⟨bl_ HB.out⟩⟩
   case round =>
    clear H'
    try clear c12b0
    obtain ⟨x5_2, x7_2, rfl, HA, HK2, HO_5, HB⟩ := hrel
    have hl5_2 := (Kd.R_reads' HO_5.out).1
    rw [hl5_2] at HO_5
    (try simp only [hl5_2])
    cases gk with
    | zero => exact absurd HA.out (by simp [spec_l3Table.l1])
    | succ k2 =>
     have H := HA.out
     clear HA
     simp only [spec_l3Table.l1] at H
     by_cases c13 : x7_2 < (l0.length : Int)
     rotate_left
     · rw [if_neg c13] at H
       have c13b0 : decide (x7_2 < (l0.length : Int)) = false := decide_eq_false c13
       (try (have c13h := c13b0; simp only [hl5_1, hl5_2] at c13h))
       clear c13
       have H' := Aside0.mk H
       clear H
       go_wp2
       (try simp only [← hl5_1, ← hl5_2])
       go_roundg k2
       case measure => have := HK1.out; have := HK2.out; omega
       case rel => exact ⟨(x5_2), (wrap64 (x6_1 + 1)), rs_, H', ⟨by have := HK1.out; have := HK2.out; omega⟩, ⟨by (try simp only [hl5_1]); (try simp only [hl5_2]); (with_reducible repeat (first | apply Kd.R_alloc | apply Kd.R_drewN | apply Kd.R_drew)); exact HO_5.out⟩, ⟨bl_ HB.out⟩⟩
     rw [if_pos c13] at H
     have c13b0 : decide (x7_2 < (l0.length : Int)) = true := decide_eq_true c13
     (try (have c13h := c13b0; simp only [hl5_1, hl5_2] at c13h))
     clear c13
     obtain ⟨c14b0, H⟩ := ipd_ H
     by_cases c15 : x6_1 ≥ (rd l0 x7_2)
     rotate_left
     · rw [if_neg c15] at H
       have c15b0 : decide ((rd l0 x7_2) ≤ x6_1) = false := decide_eq_false c15
       clear c15
       have H' := Aside0.mk H
       clear H
       have p268 : 0 ≤ (x7_2 : Int) := od_
       have q268 : x7_2 < (l0.length : Int) := od_
       obtain ⟨ad268, e268, hx268_0⟩ := Kd.at_int HR0.out x7_2 p268 q268
       cases e268
       (try replace hx268_0 := (HB.out.cell (World.block_lt_of_cell? w _ hx268_0)).trans hx268_0)
       replace p268 := eq_true p268
       replace q268 := eq_true q268
       go_wp2
       (try simp only [← hl5_2])
       go_roundg k2
       case measure => have := HK1.out; have := HK2.out; omega
       case rel => exact ⟨(x5_2), (wrap64 (x7_2 + 1)), rs_, H', ⟨by have := HK1.out; have := HK2.out; omega⟩, ⟨by (try simp only [hl5_1]); (try simp only [hl5_2]); (with_reducible repeat (first | apply Kd.R_alloc | apply Kd.R_drewN | apply Kd.R_drew)); exact HO_5.out⟩, ⟨bl_ HB.out⟩⟩
     rw [if_pos c15] at H
     have c15b0 : decide ((rd l0 x7_2) ≤ x6_1) = true := decide_eq_true c15
     clear c15
     obtain ⟨ji16, hji16⟩ : ∃ j_ : Int, (wrap64 (x6_1 - (rd l0 x7_2))) = j_ := ⟨_, rfl⟩
     replace H : (if 0 ≤ (ji16) then (if (ji16) < (x5_2.length : Int) then (if rdOf false x5_2 (ji16) = true then (if 0 ≤ x6_1 then (if x6_1 < (x5_2.length : Int) then (spec_l3Table.l1 k2 l0 a1 (x5_2.set (x6_1 : Int).toNat true) x6_1 (wrap64 (x7_2 + 1))) else (none)) else (none)) else (spec_l3Table.l1 k2 l0 a1 x5_2 x6_1 (wrap64 (x7_2 + 1)))) else (none)) else (none)) = some r := by first | (rw [hji16] at H; exact H) | (simp only [hji16] at H ⊢; exact H)
     have hji16w : (IntKind.i64.wrap (x6_1 - (rd l0 x7_2))) = ji16 := (i64_w _).trans hji16
     obtain ⟨c17b0, H⟩ := ipd_ H
     obtain ⟨c18, H⟩ := ip_ H
     have c18b0 : decide ((ji16) < (x5_2.length : Int)) = true := decide_eq_true c18
     (try (have c18h := c18b0; simp only [hl5_1, hl5_2] at c18h))
     clear c18
     obtain ⟨bq19, hbq19⟩ : ∃ b_ : Bool, b_ = (rdOf false x5_2 (ji16)) := ⟨_, rfl⟩
     replace H : (if bq19 = true then (if 0 ≤ x6_1 then (if x6_1 < (x5_2.length : Int) then (spec_l3Table.l1 k2 l0 a1 (x5_2.set (x6_1 : Int).toNat true) x6_1 (wrap64 (x7_2 + 1))) else (none)) else (none)) else (spec_l3Table.l1 k2 l0 a1 x5_2 x6_1 (wrap64 (x7_2 + 1)))) = some r := by rw [← hbq19] at H; exact H
     have Nbq19 := Aside0.mk hbq19
     clear hbq19
     by_cases c20 : bq19 = true
     rotate_left
     · replace c20 := Bool.eq_false_iff.mpr c20
       subst c20
       rw [if_neg (show ¬ (false = true) by decide)] at H
       have H' := Aside0.mk H
       clear H
       have p268 : 0 ≤ (x7_2 : Int) := od_
       have q268 : x7_2 < (l0.length : Int) := od_
       obtain ⟨ad268, e268, hx268_0⟩ := Kd.at_int HR0.out x7_2 p268 q268
       cases e268
       (try replace hx268_0 := (HB.out.cell (World.block_lt_of_cell? w _ hx268_0)).trans hx268_0)
       replace p268 := eq_true p268
       replace q268 := eq_true q268
       have p269 : 0 ≤ (x7_2 : Int) := od_
       have q269 : x7_2 < (l0.length : Int) := od_
       obtain ⟨ad269, e269, hx269_0⟩ := Kd.at_int HR0.out x7_2 p269 q269
       obtain rfl : ad268 = ad269 := (by injection e269)
       (try replace hx269_0 := (HB.out.cell (World.block_lt_of_cell? w _ hx269_0)).trans hx269_0)
       replace p269 := eq_true p269
       replace q269 := eq_true q269
       have p270 : 0 ≤ ((ji16) : Int) := od_
       have q270 : (ji16) < (x5_2.length : Int) := od_
       obtain ⟨ad270, e270, hx270_0⟩ := Kd.at_bool (Kd.R_reads' HO_5.out).2.2 (ji16) p270 q270
       (try rw [← Nbq19.out] at hx270_0)
       obtain rfl : (⟨go7, 0, none⟩ : Addr) = ad270 := (by injection e270)
       (first | simp only [add_plain] at hx270_0 | simp only [add_at] at hx270_0 | simp only [Addr.add, Nat.zero_add] at hx270_0 | skip)
       replace p270 := eq_true p270
       replace q270 := eq_true q270
       go_wp2
       (try simp only [← hl5_2])
       go_roundg k2
       case measure => have := HK1.out; have := HK2.out; omega
       case rel => exact ⟨(x5_2), (wrap64 (x7_2 + 1)), rs_, H', ⟨by have := HK1.out; have := HK2.out; omega⟩, ⟨by (try simp only [hl5_1]); (try simp only [hl5_2]); (with_reducible repeat (first | apply Kd.R_alloc | apply Kd.R_drewN | apply Kd.R_drew)); exact HO_5.out⟩, ⟨bl_ HB.out⟩⟩
     subst c20
     rw [if_pos rfl] at H
     obtain ⟨c21b0, H⟩ := ipd_ H
     obtain ⟨c22, H⟩ := ip_ H
     have c22b0 : decide (x6_1 < (x5_2.length : Int)) = true := decide_eq_true c22
     (try (have c22h := c22b0; simp only [hl5_1, hl5_2] at c22h))
     clear c22
     obtain ⟨y271, hy271⟩ : ∃ y_ : List Bool, y_ = (x5_2.set (x6_1 : Int).toNat true) := ⟨_, rfl⟩
     replace H : (spec_l3Table.l1 k2 l0 a1 y271 x6_1 (wrap64 (x7_2 + 1))) = some r := by subst hy271; exact H
     have Ny271 := Aside0.mk hy271
     clear hy271
     have H' := Aside0.mk H
     clear H
     have p268 : 0 ≤ (x7_2 : Int) := od_
     have q268 : x7_2 < (l0.length : Int) := od_
     obtain ⟨ad268, e268, hx268_0⟩ := Kd.at_int HR0.out x7_2 p268 q268
     cases e268
     (try replace hx268_0 := (HB.out.cell (World.block_lt_of_cell? w _ hx268_0)).trans hx268_0)
     replace p268 := eq_true p268
     replace q268 := eq_true q268
     have p269 : 0 ≤ (x7_2 : Int) := od_
     have q269 : x7_2 < (l0.length : Int) := od_
     obtain ⟨ad269, e269, hx269_0⟩ := Kd.at_int HR0.out x7_2 p269 q269
     obtain rfl : ad268 = ad269 := (by injection e269)
     (try replace hx269_0 := (HB.out.cell (World.block_lt_of_cell? w _ hx269_0)).trans hx269_0)
     replace p269 := eq_true p269
     replace q269 := eq_true q269
     have p270 : 0 ≤ ((ji16) : Int) := od_
     have q270 : (ji16) < (x5_2.length : Int) := od_
     obtain ⟨ad270, e270, hx270_0⟩ := Kd.at_bool (Kd.R_reads' HO_5.out).2.2 (ji16) p270 q270
     (try rw [← Nbq19.out] at hx270_0)
     obtain rfl : (⟨go7, 0, none⟩ : Addr) = ad270 := (by injection e270)
     (first | simp only [add_plain] at hx270_0 | simp only [add_at] at hx270_0 | simp only [Addr.add, Nat.zero_add] at hx270_0 | skip)
     replace p270 := eq_true p270
     replace q270 := eq_true q270
     have p23 : 0 ≤ (x6_1 : Int) := od_
     have q23 : (x6_1 : Int) < ((x5_2.length : Int) : Int) := od_
     obtain ⟨hx23_0, hf23_0⟩ := Kd.R_celln false HO_5.out (x6_1 : Int) p23 q23
     replace p23 := eq_true p23
     replace q23 := eq_true q23
     have HP24 := Kd.R_putg HO_5.out (x6_1 : Int) true
     go_wp2_with (first | ((with_reducible refine gate_store (t := 4) (p := 43) rfl ?_); refine store_event (t := 4) (p := 43) (v := ?vo_w25) (w1 := (wr.setCell ⟨go7, (x6_1 : Int).toNat, none⟩ (.bool true))) ?hg ?ho ?hn ?hr ?_; (case ho => rfl); (case hg => rfl); (case hn => rfl); (case hr => first | (go_simp; done) | (go_simp; rfl)); intro w25 hw; have hg : wr.grownBy w25 (some go7) := (by rw [hw]; exact HP24.2); have hp_ : Kd.R Kd.bool 4 w25 w.heap.size (fun _ => True) (.slice (some ⟨go7, 0, none⟩) x5_2.length co7) y271 := (by rw [hw, Ny271.out]; exact HP24.1); clear HP24; replace HO_5 := Aside0.mk (hp_); replace HB := Aside0.mk ((by rw [hw]; exact below_set (HB.out) GB7.out : Below w.heap.size w w25)); clear hg hw hp_))
     (try simp only [← hl5_2])
     go_roundg k2
     case measure => have := HK1.out; have := HK2.out; omega
     case rel => exact ⟨(y271), (wrap64 (x7_2 + 1)), rs_, H', ⟨by have := HK1.out; have := HK2.out; omega⟩, ⟨by (try simp only [hl5_1]); (try simp only [hl5_2]); (with_reducible repeat (first | apply Kd.R_alloc | apply Kd.R_drewN | apply Kd.R_drew)); exact HO_5.out⟩, ⟨bl_ HB.out⟩⟩
mutual
def spec_SortList.l0 : Nat → List Int → List Int → Int → Option (List Int)
 | 0, _, _, _ => none
 | k + 1, x0, x3, x4 => if x4 < (x0.length : Int) then (spec_SortList.l1 k x0 x3 x4 (x3.length : Int)) else (some x3)
def spec_SortList.l1 : Nat → List Int → List Int → Int → Int → Option (List Int)
 | 0, _, _, _, _ => none
 | k + 1, x0, x3, x4, x5 => if x5 > 0 then (if 0 ≤ (wrap64 (x5 - 1)) then (if (wrap64 (x5 - 1)) < (x3.length : Int) then (if 0 ≤ x4 then (if x4 < (x0.length : Int) then (if (rd x3 (wrap64 (x5 - 1))) > (rd x0 x4) then (spec_SortList.l1 k x0 x3 x4 (wrap64 (x5 - 1))) else (if (rd x3 (wrap64 (x5 - 1))) = (rd x0 x4) then (spec_SortList.l0 k x0 x3 (wrap64 (x4 + 1))) else ((some (([] : List Int) : List Int)).bind fun y224 => (if 0 ≤ x5 then (if x5 ≤ (x3.length : Int) then ((some (x3.drop (x5 : Int).toNat : List Int)).bind fun y227 => (if y224.length + y227.length < 17592186044416 then ((some (y224 ++ y227 : List Int)).bind fun y231 => ((some (x3.take (x5 : Int).toNat : List Int)).bind fun y234 => (if y234.length < 17592186044416 then ((some (y234 ++ [rd x0 x4] : List Int)).bind fun y238 => (if y238.length + y231.length < 17592186044416 then (spec_SortList.l0 k x0 (y238 ++ y231) (wrap64 (x4 + 1))) else (none))) else (none)))) else (none))) else (none)) else (none))))) else (none)) else (none)) else (none)) else (none)) else ((some (([] : List Int) : List Int)).bind fun y244 => (if 0 ≤ x5 then (if x5 ≤ (x3.length : Int) then ((some (x3.drop (x5 : Int).toNat : List Int)).bind fun y247 => (if y244.length + y247.length < 17592186044416 then ((some (y244 ++ y247 : List Int)).bind fun y251 => ((some (x3.take (x5 : Int).toNat : List Int)).bind fun y254 => (if 0 ≤ x4 then (if x4 < (x0.length : Int) then (if y254.length < 17592186044416 then ((some (y254 ++ [rd x0 x4] : List Int)).bind fun y258 => (if y258.length + y251.length < 17592186044416 then (spec_SortList.l0 k x0 (y258 ++ y251) (wrap64 (x4 + 1))) else (none))) else (none)) else (none)) else (none)))) else (none))) else (none)) else (none)))
end
def spec_SortList.f (k : Nat) (l0 : List Int) : Option (List Int) := spec_SortList.l0 k l0 (([] : List Int)) 0
theorem spec_SortList.mono_l : ∀ k, (∀ y0 y1 y2, LeO (spec_SortList.l0 k y0 y1 y2) (spec_SortList.l0 (k + 1) y0 y1 y2)) ∧ (∀ y0 y1 y2 y3, LeO (spec_SortList.l1 k y0 y1 y2 y3) (spec_SortList.l1 (k + 1) y0 y1 y2 y3))
 | 0 => ⟨fun _ _ _ r h => by simp [spec_SortList.l0] at h, fun _ _ _ _ r h => by simp [spec_SortList.l1] at h⟩
 | k + 1 => by
  obtain ⟨ih0, ih1⟩ := spec_SortList.mono_l k
  refine ⟨?_, ?_⟩
  · intro y0 y1 y2
    unfold spec_SortList.l0
    repeat' first
    | (with_reducible exact ih0 _ _ _)
    | (with_reducible exact ih1 _ _ _ _)
    | (with_reducible exact LeO.refl _)
    | (with_reducible exact LeO.none _)
    | (with_reducible refine LeO.ite ?_ ?_)
    | (with_reducible refine LeO.bind ?_ (fun _ => ?_))
    | exact ih0 _ _ _
    | exact ih1 _ _ _ _
    | exact LeO.none _
    | refine LeO.ite ?_ ?_
    | refine LeO.bind ?_ (fun _ => ?_)
  · intro y0 y1 y2 y3
    unfold spec_SortList.l1
    repeat' first
    | (with_reducible exact ih0 _ _ _)
    | (with_reducible exact ih1 _ _ _ _)
    | (with_reducible exact LeO.refl _)
    | (with_reducible exact LeO.none _)
    | (with_reducible refine LeO.ite ?_ ?_)
    | (with_reducible refine LeO.bind ?_ (fun _ => ?_))
    | exact ih0 _ _ _
    | exact ih1 _ _ _ _
    | exact LeO.none _
    | refine LeO.ite ?_ ?_
    | refine LeO.bind ?_ (fun _ => ?_)
theorem spec_SortList.mono : ∀ a0 k, LeO (spec_SortList.f k a0) (spec_SortList.f (k + 1) a0) := by
 intro a0 k
 obtain ⟨ih0, ih1⟩ := spec_SortList.mono_l k
 unfold spec_SortList.f
 repeat' first
  | (with_reducible exact ih0 _ _ _)
  | (with_reducible exact ih1 _ _ _ _)
  | (with_reducible exact LeO.refl _)
  | (with_reducible exact LeO.none _)
  | (with_reducible refine LeO.ite ?_ ?_)
  | (with_reducible refine LeO.bind ?_ (fun _ => ?_))
  | exact ih0 _ _ _
  | exact ih1 _ _ _ _
  | exact LeO.none _
  | refine LeO.ite ?_ ?_
  | refine LeO.bind ?_ (fun _ => ?_)
def spec_SortList.T6 : Bool × List (List Nat × List Nat) := (true, [([], []), ([0], [0]), ([1], [1]), ([2], [2]), ([2], [2]), ([4, 2], [2, 4]), ([3, 5, 2], [2, 3, 5]), ([6, 2], [2, 6]), ([2], [2]), ([2], [2]), ([8, 9, 2], [2, 8, 9]), ([10, 2], [2, 10]), ([7, 11, 2], [2, 7, 11]), ([2, 12], [2, 12])])
def spec_SortList.B6 : List Nat := [0, 1, 3, 7, 7, 23, 63, 127, 7, 7, 775, 1799, 4095, 8191]
theorem spec_SortList.tab6 : rtab .any (opsOf Try.f53 6) = spec_SortList.T6 := by kernel_rfl
theorem spec_SortList.bits6 : waitsOk spec_SortList.T6.2 spec_SortList.B6 = true := by kernel_rfl
def spec_SortList.T8 : Bool × List (List Nat × List Nat) := (true, [([], []), ([0], [0]), ([1], [1]), ([2], [2]), ([2], [2]), ([4, 2], [2, 4]), ([3, 5, 2], [2, 3, 5]), ([6, 2], [2, 6]), ([2], [2]), ([2], [2]), ([8, 9, 2], [2, 8, 9]), ([10, 2], [2, 10]), ([7, 11, 2], [2, 7, 11]), ([2, 12], [2, 12])])
def spec_SortList.B8 : List Nat := [0, 1, 3, 7, 7, 23, 63, 127, 7, 7, 775, 1799, 4095, 8191]
theorem spec_SortList.tab8 : rtab .any (opsOf Try.f53 8) = spec_SortList.T8 := by kernel_rfl
theorem spec_SortList.bits8 : waitsOk spec_SortList.T8.2 spec_SortList.B8 = true := by kernel_rfl
def spec_SortList.T10 : Bool × List (List Nat × List Nat) := (true, [([], []), ([], []), ([0, 1], [0, 1]), ([], []), ([], []), ([3, 4], [3, 4]), ([5], [5]), ([6], [6]), ([2, 7], [2, 7]), ([], []), ([8, 9, 8], [8, 9]), ([10, 10, 0, 1, 2, 3, 4, 5, 6, 7, 8, 9, 10], [0, 10])])
def spec_SortList.B10 : List Nat := [0, 0, 3, 0, 0, 24, 56, 120, 255, 0, 1023, 2047]
theorem spec_SortList.tab10 : rtab .any (opsOf Try.f53 10) = spec_SortList.T10 := by kernel_rfl
theorem spec_SortList.bits10 : waitsOk spec_SortList.T10.2 spec_SortList.B10 = true := by kernel_rfl
theorem spec_SortList.calls (k : Nat) (A0 : Option Addr) (c0 : Nat) (l0 : List Int) (r : List Int) (w : World) (hr0 : Kd.C (Kd.int .i64) w A0 l0.length l0) (hc0 : l0.length ≤ c0) (h : spec_SortList.f k l0 = some r) :
 Calls Try.prog 53 #[.slice A0 l0.length c0] w fun e w' => ∃ v0_ : Value, e = .returned (v0_) ∧ Kd.R (Kd.int .i64) 3 w' w.heap.size (fun _ => True) v0_ r ∧ Below w.heap.size w w' := by
 have HR0 := Aside0.mk hr0
 have HC0 := Aside0.mk hc0
 clear hr0 hc0
 have HB := Aside0.mk (Below.refl w.heap.size w)
 have H := h
 clear h
 unfold spec_SortList.f at H
 obtain ⟨y217, hy217⟩ : ∃ y_ : List Int, y_ = (([] : List Int)) := ⟨_, rfl⟩
 replace H : (spec_SortList.l0 k l0 y217 0) = some r := by subst hy217; exact H
 have Ny217 := Aside0.mk hy217
 clear hy217
 have H' := Aside0.mk H
 clear H
 go_enter Try.func53, Try.ntmps53
 go_wp2_with (first | ((with_reducible refine gate_dst (N := 7) rfl ?_); refine Kd.R_lit (Kd.int .i64) _ 3 ?hg (N := 7) ?hd (xs := ([] : List Int)) (inner := []) (ok := fun _ => True) (okp := fun _ => True) ?hr ?hp (fun _ hk => hk) trivial (Below.refl _ _) (Nat.le_refl _) (by simp) ?_; (case hd => rfl); (case hg => rfl); (case hr => first | (go_simp; done) | (go_simp; rfl)); (case hp => exact (Reps.none _ _)); intro v218 w2 ho3 hb hg_ hnew_; clear hg_ hnew_; (first | rw [← Ny217.out] at ho3 | (simp only [Int.reduceToNat] at ho3; rw [← Ny217.out] at ho3)); have HO219 := Aside0.mk (Kd.R_lower ho3 (below_size (bl_ HB.out))); replace HB := bo_ HB hb; clear hb ho3))
 go_loopg [3, 4] k (fun kq v3 v4 w' => ∃ (x3_1 : List Int) (x4_1 : Int), v4 = .int .i64 x4_1 ∧ Aside0 (spec_SortList.l0 kq l0 x3_1 x4_1 = some r) ∧ Aside0 (kq ≤ k) ∧ Aside0 (Kd.R (Kd.int .i64) 3 w' w.heap.size (fun _ => True) v3 x3_1) ∧ Aside0 (Below w.heap.size w w'))
 case atStart => exact ⟨(y217), (0), rs_, H', ⟨Nat.le_refl _⟩, ⟨re_ HO219.out⟩, ⟨bl_ HB.out⟩⟩
 case round =>
  clear H'
  obtain ⟨x3_1, x4_1, rfl, HA, HK1, HO_3, HB⟩ := hrel
  cases gk with
  | zero => exact absurd HA.out (by simp [spec_SortList.l0])
  | succ k1 =>
   have H := HA.out
   clear HA
   simp only [spec_SortList.l0] at H
   by_cases c4 : x4_1 < (l0.length : Int)
   rotate_left
   · rw [if_neg c4] at H
     have c4b0 : decide (x4_1 < (l0.length : Int)) = false := decide_eq_false c4
     clear c4
     obtain rfl := Option.some.inj H
     go_wp2
     go_ret
     exact ⟨_, rf_, re_ HO_3.out, bl_ HB.out⟩
   rw [if_pos c4] at H
   have c4b0 : decide (x4_1 < (l0.length : Int)) = true := decide_eq_true c4
   clear c4
   have H' := Aside0.mk H
   clear H
   obtain ⟨Ao5, co5, eo5⟩ := Kd.R_slice HO_3.out
   subst eo5
   go_wp2
   go_loopg [5] k1 (fun kq v5 w' => ∃ (x5_2 : Int), v5 = .int .i64 x5_2 ∧ Aside0 (spec_SortList.l1 kq l0 x3_1 x4_1 x5_2 = some r) ∧ Aside0 (kq ≤ k1) ∧ Aside0 (Kd.R (Kd.int .i64) 3 w' w.heap.size (fun _ => True) (.slice Ao5 x3_1.length co5) x3_1) ∧ Aside0 (Below w.heap.size w w'))
   case atStart => exact ⟨((x3_1.length : Int)), rs_, H', ⟨Nat.le_refl _⟩, ⟨re_ HO_3.out⟩, ⟨bl_ HB.out⟩⟩
   case round =>
    clear H'
    try clear c4b0
    obtain ⟨x5_2, rfl, HA, HK2, HO_3, HB⟩ := hrel
    cases gk with
    | zero => exact absurd HA.out (by simp [spec_SortList.l1])
    | succ k2 =>
     have H := HA.out
     clear HA
     simp only [spec_SortList.l1] at H
     by_cases c6 : x5_2 > 0
     rotate_left
     · rw [if_neg c6] at H
       have c6b0 : decide (0 < x5_2) = false := decide_eq_false c6
       clear c6
       obtain ⟨y244, hy244⟩ : ∃ y_ : List Int, y_ = (([] : List Int)) := ⟨_, rfl⟩
       replace H : (if 0 ≤ x5_2 then (if x5_2 ≤ (x3_1.length : Int) then ((some (x3_1.drop (x5_2 : Int).toNat : List Int)).bind fun y247 => (if y244.length + y247.length < 17592186044416 then ((some (y244 ++ y247 : List Int)).bind fun y251 => ((some (x3_1.take (x5_2 : Int).toNat : List Int)).bind fun y254 => (if 0 ≤ x4_1 then (if x4_1 < (l0.length : Int) then (if y254.length < 17592186044416 then ((some (y254 ++ [rd l0 x4_1] : List Int)).bind fun y258 => (if y258.length + y251.length < 17592186044416 then (spec_SortList.l0 k2 l0 (y258 ++ y251) (wrap64 (x4_1 + 1))) else (none))) else (none)) else (none)) else (none)))) else (none))) else (none)) else (none)) = some r := by subst hy244; exact H
       have Ny244 := Aside0.mk hy244
       clear hy244
       obtain ⟨c34, H⟩ := ip_ H
       have c34b0 := eq_true c34
       have c34b1 : decide (0 ≤ x5_2) = true := decide_eq_true c34
       clear c34
       obtain ⟨c35, H⟩ := ip_ H
       have c35b0 := eq_true c35
       have c35b1 : decide (x5_2 ≤ (x3_1.length : Int)) = true := decide_eq_true c35
       clear c35
       obtain ⟨y247, hy247⟩ : ∃ y_ : List Int, y_ = (x3_1.drop (x5_2 : Int).toNat) := ⟨_, rfl⟩
       replace H : (if y244.length + y247.length < 17592186044416 then ((some (y244 ++ y247 : List Int)).bind fun y251 => ((some (x3_1.take (x5_2 : Int).toNat : List Int)).bind fun y254 => (if 0 ≤ x4_1 then (if x4_1 < (l0.length : Int) then (if y254.length < 17592186044416 then ((some (y254 ++ [rd l0 x4_1] : List Int)).bind fun y258 => (if y258.length + y251.length < 17592186044416 then (spec_SortList.l0 k2 l0 (y258 ++ y251) (wrap64 (x4_1 + 1))) else (none))) else (none)) else (none)) else (none)))) else (none)) = some r := by subst hy247; exact H
       have Ny247 := Aside0.mk hy247
       clear hy247
       obtain ⟨c36, H⟩ := ip_ H
       have LMc36 := Aside0.mk c36
       clear c36
       obtain ⟨y251, hy251⟩ : ∃ y_ : List Int, y_ = (y244 ++ y247) := ⟨_, rfl⟩
       replace H : ((some (x3_1.take (x5_2 : Int).toNat : List Int)).bind fun y254 => (if 0 ≤ x4_1 then (if x4_1 < (l0.length : Int) then (if y254.length < 17592186044416 then ((some (y254 ++ [rd l0 x4_1] : List Int)).bind fun y258 => (if y258.length + y251.length < 17592186044416 then (spec_SortList.l0 k2 l0 (y258 ++ y251) (wrap64 (x4_1 + 1))) else (none))) else (none)) else (none)) else (none))) = some r := by subst hy251; exact H
       have Ny251 := Aside0.mk hy251
       clear hy251
       have c37b0 := eq_true (od_ : x5_2 ≤ (x3_1.length : Int))
       obtain ⟨y254, hy254⟩ : ∃ y_ : List Int, y_ = (x3_1.take (x5_2 : Int).toNat) := ⟨_, rfl⟩
       replace H : (if 0 ≤ x4_1 then (if x4_1 < (l0.length : Int) then (if y254.length < 17592186044416 then ((some (y254 ++ [rd l0 x4_1] : List Int)).bind fun y258 => (if y258.length + y251.length < 17592186044416 then (spec_SortList.l0 k2 l0 (y258 ++ y251) (wrap64 (x4_1 + 1))) else (none))) else (none)) else (none)) else (none)) = some r := by subst hy254; exact H
       have Ny254 := Aside0.mk hy254
       clear hy254
       obtain ⟨c38b0, H⟩ := ipd_ H
       obtain ⟨c39b0, H⟩ := ipd_ H
       obtain ⟨c40, H⟩ := ip_ H
       have LMc40 := Aside0.mk c40
       clear c40
       obtain ⟨y258, hy258⟩ : ∃ y_ : List Int, y_ = (y254 ++ [rd l0 x4_1]) := ⟨_, rfl⟩
       replace H : (if y258.length + y251.length < 17592186044416 then (spec_SortList.l0 k2 l0 (y258 ++ y251) (wrap64 (x4_1 + 1))) else (none)) = some r := by subst hy258; exact H
       have Ny258 := Aside0.mk hy258
       clear hy258
       obtain ⟨c41, H⟩ := ip_ H
       have LMc41 := Aside0.mk c41
       clear c41
       obtain ⟨y261, hy261⟩ : ∃ y_ : List Int, y_ = (y258 ++ y251) := ⟨_, rfl⟩
       replace H : (spec_SortList.l0 k2 l0 y261 (wrap64 (x4_1 + 1))) = some r := by subst hy261; exact H
       have Ny261 := Aside0.mk hy261
       clear hy261
       have H' := Aside0.mk H
       clear H
       try go_wp2
       replace HO_3 := Aside0.mk (Kd.R_drew HO_3.out)
       replace HB := Aside0.mk (below_drew1 HB.out)
       refine start_ (n := 14) (S := fun w' => True) (ds := []) (B_ 0 14) (by kernel_rfl) rfl rfl trivial (fun hHeld => ?_); refine with_tabW spec_SortList.tab6 spec_SortList.bits6 (fun HT_ HW_ => ?_)
       generalize wr.drew = w42 at HO_3 HB hHeld ⊢
       refine pu_ HT_ 0 16 (B_ 1 14) ?_
       refine pu_ HT_ 1 17 (B_ 3 14) ?_
       refine pu_ HT_ 2 18 (B_ 7 14) ?_
       refine pn_ HT_ 3 19 (B_ 15 14) ?_
       refine pn_ HT_ 4 20 (B_ 31 14) ?_
       refine pn_ HT_ 5 21 (B_ 63 14) ?_
       refine pn_ HT_ 6 22 (B_ 127 14) ?_
       refine pn_ HT_ 7 23 (B_ 255 14) ?_
       refine pn_ HT_ 8 24 (B_ 511 14) ?_
       refine pn_ HT_ 9 25 (B_ 1023 14) ?_
       refine pn_ HT_ 10 26 (B_ 2047 14) ?_
       refine pn_ HT_ 11 27 (B_ 4095 14) ?_
       refine pn_ HT_ 12 28 (B_ 8191 14) ?_
       refine pu_ HT_ 13 29 (B_ 16383 14) ?_
       refine done_ (done_of HT_.out (by kernel_rfl)) ?_
       try go_wp2
       replace HO_3 := Aside0.mk (Kd.R_drew HO_3.out)
       replace HB := Aside0.mk (below_drew1 HB.out)
       refine start_ (n := 14) (S := fun w' => True) (ds := []) (B_ 0 14) (by kernel_rfl) rfl rfl trivial (fun hHeld => ?_); refine with_tabW spec_SortList.tab8 spec_SortList.bits8 (fun HT_ HW_ => ?_)
       generalize w42.drew = w43 at HO_3 HB hHeld ⊢
       refine pu_ HT_ 0 32 (B_ 1 14) ?_
       refine pu_ HT_ 1 33 (B_ 3 14) ?_
       refine pu_ HT_ 2 34 (B_ 7 14) ?_
       refine pn_ HT_ 3 35 (B_ 15 14) ?_
       refine pn_ HT_ 4 36 (B_ 31 14) ?_
       refine pn_ HT_ 5 37 (B_ 63 14) ?_
       refine pn_ HT_ 6 38 (B_ 127 14) ?_
       refine pn_ HT_ 7 39 (B_ 255 14) ?_
       refine pn_ HT_ 8 40 (B_ 511 14) ?_
       refine pn_ HT_ 9 41 (B_ 1023 14) ?_
       refine pn_ HT_ 10 42 (B_ 2047 14) ?_
       refine pn_ HT_ 11 43 (B_ 4095 14) ?_
       refine pn_ HT_ 12 44 (B_ 8191 14) ?_
       refine pu_ HT_ 13 45 (B_ 16383 14) ?_
       refine done_ (done_of HT_.out (by kernel_rfl)) ?_
       try go_wp2_with (first | ((with_reducible refine gate_dst (N := 46) rfl ?_); refine Kd.R_lit (Kd.int .i64) _ 3 ?hg (N := 46) ?hd (xs := ([] : List Int)) (inner := []) (ok := fun _ => True) (okp := fun _ => True) ?hr ?hp (fun _ hk => hk) trivial (Below.refl _ _) (Nat.le_refl _) (by simp) ?_; (case hd => rfl); (case hg => rfl); (case hr => first | (go_simp; done) | (go_simp; rfl)); (case hp => exact (Reps.none _ _)); intro v245 w44 ho45 hb hg_ hnew_; clear hg_ hnew_; (first | rw [← Ny244.out] at ho45 | (simp only [Int.reduceToNat] at ho45; rw [← Ny244.out] at ho45)); have HO246 := Aside0.mk (Kd.R_lower (Kd.R_new' ho45 (Kd.R_lt (re_ HO_3.out))) (below_size (bl_ HB.out))); replace HO_3 := Aside0.mk (Kd.R_elder' (re_ HO_3.out) (Kd.R_base ho45) hb); replace HB := bo_ HB hb; clear hb ho45; have q46 : (x5_2 : Int) ≤ ((x3_1.length : Int) : Int) := od_; obtain ⟨i046, hi046, _, hsz46, _⟩ := info_parts info3; have hroom46 : x3_1.length ≤ co5 := (Kd.R_reads' HO_3.out).2.1; have hC46 : Kd.C (Kd.int .i64) _ Ao5 x3_1.length x3_1 := (Kd.R_reads' HO_3.out).2.2; have q046 : (0 : Int) ≤ (x5_2 : Int) := od_; have hcut46 := cut_from (P := Try.prog) 24 3 .i64 Try.underlying24 hi046 1 hsz46 Ao5 x3_1.length co5 x5_2 q046 q46; have hr46 := Kd.C_drop (m := (x5_2 : Int).toNat) (c := co5) hC46 (by omega) hroom46; obtain ⟨A46, hA46⟩ : ∃ A1, A1 = (if co5 = (x5_2 : Int).toNat then Ao5 else (Ao5 : Option Addr).map (·.add ((x5_2 : Int).toNat * 1))) := ⟨_, rfl⟩; obtain ⟨c46, hc46⟩ : ∃ c1, c1 = co5 - (x5_2 : Int).toNat := ⟨_, rfl⟩; have hy46 : y247.length = x3_1.length - (x5_2 : Int).toNat := (by rw [Ny247.out, List.length_drop] <;> omega); rw [show (x3_1).drop (x5_2 : Int).toNat = y247 from Ny247.out.symm] at hr46; replace hr46 : Kd.C (Kd.int .i64) _ A46 y247.length y247 := (by rw [hA46]; exact hr46); rw [← hy46, ← hA46, ← hc46] at hcut46; have HR250 := Aside0.mk hr46; have HC250 := Aside0.mk (show y247.length ≤ c46 from by rw [hy46, hc46]; exact Nat.sub_le_sub_right hroom46 _); clear hr46 hC46 hroom46 hi046 hsz46 hc46; have KY46 := Aside0.mk hy46; have KA46 := Aside0.mk hA46; clear hy46 hA46; have KL46 := Aside0.mk (show (x5_2 : Int).toNat ≤ x3_1.length from by omega); replace q46 := eq_true q46) | ((with_reducible refine gate_builtin (b := .append) (xs := #[.tmp 46, .tmp 49]) rfl ?_); at_builtin; refine Kd.R_append_rows (Kd.int .i64) (w0 := w) w.heap.size rfl (.tmp 46) (.tmp 49) 24 3 (.int .i64 0) 8 rfl Try.underlying24 info3 rfl (by decide) (by omega) v245 y244 y247 _ _ _ (fun k_ => some k_ ≠ (.slice Ao5 x3_1.length co5 : Value).ownBlock) (fun _ => False) rfl rfl ?aO ?aR (fun _ _ h => h) (fun _ h => h.elim) ?aF ?aB ?aS ?aL ?_; (case aR => repeat (first | exact (by repeat (first | (with_reducible exact HR250.out) | (with_reducible refine Kd.C_alloc ?_ _) | (with_reducible refine Kd.C_drewN ?_ _) | (with_reducible refine Kd.C_drew ?_) | exact HR250.out)) | (with_reducible refine Kd.C_alloc ?_ _) | (with_reducible refine Kd.C_drewN ?_ _) | (with_reducible refine Kd.C_drew ?_))); (case aB => exact (bl_ HB.out)); (case aF => exact (fun k_ hk => Kd.fresh' (Kd.R_lt (re_ HO_3.out)) k_ hk)); (case aO => exact (by (with_reducible repeat (first | apply Kd.R_alloc | apply Kd.R_drewN | apply Kd.R_drew)); exact Kd.R_mono HO246.out (fun _ hk => hk.2))); (case aS => exact (below_size (bl_ HB.out))); (case aL => have := LMc36.out; omega); intro v252 w47 ho hb hg hat; rw [← Ny251.out] at ho; replace HB := Aside0.mk (hb); replace HR250 := Aside0.mk ((show Kd.C (Kd.int .i64) w47 A46 y247.length y247 from by rw [Ny247.out, KA46.out]; exact Kd.C_drop (m := (x5_2 : Int).toNat) (c := co5) ((Kd.R_reads' (Kd.R_after (ok := (fun _ => True)) (re_ HO_3.out) hg hat)).2.2) KL46.out ((Kd.R_reads' (Kd.R_after (ok := (fun _ => True)) (re_ HO_3.out) hg hat)).2.1))); replace HO_3 := Aside0.mk (Kd.R_after (ok := (fun _ => True)) (re_ HO_3.out) hg hat); have HO253 := Aside0.mk (ho); clear HO246; clear ho hb hg hat))
       replace HO_3 := Aside0.mk (Kd.R_drew HO_3.out)
       replace HO253 := Aside0.mk (Kd.R_drew HO253.out)
       replace HR250 := Aside0.mk (Kd.C_drew HR250.out)
       replace HB := Aside0.mk (below_drew1 HB.out)
       have q49 : (x5_2 : Int) ≤ ((x3_1.length : Int) : Int) := od_
       obtain ⟨i049, hi049, _, hsz49, _⟩ := info_parts info3
       have hcut49 := cut_to (P := Try.prog) 24 3 .i64 Try.underlying24 hi049 Ao5 x3_1.length co5 x5_2 (od_) q49 (Kd.R_reads' HO_3.out).2.1
       have hr49 := Kd.R_take (m := (x5_2 : Int).toNat) HO_3.out (by omega)
       have hy49 : y254.length = (x5_2 : Int).toNat := (by rw [Ny254.out, List.length_take]; omega)
       rw [← Ny254.out] at hr49
       rw [← hy49] at hr49 hcut49
       clear hy49 hi049 hsz49 HO_3
       have HO256 := Aside0.mk hr49
       clear hr49
       replace q49 := eq_true q49
       have p257 : 0 ≤ (x4_1 : Int) := od_
       have q257 : x4_1 < (l0.length : Int) := od_
       obtain ⟨ad257, e257, hx257_0⟩ := Kd.at_int HR0.out x4_1 p257 q257
       have hw257_0 := hx257_0
       cases e257
       (try replace hx257_0 := (HB.out.cell (World.block_lt_of_cell? w _ hx257_0)).trans hx257_0)
       replace p257 := eq_true p257
       replace q257 := eq_true q257
       refine start_ (n := 12) (S := fun w' => w'.cell? (ad257.add (x4_1).toNat) = some (.int .i64 (rd l0 x4_1))) (ds := []) (B_ 0 12) (by kernel_rfl) rfl rfl (by first | exact hw257_0 | exact (HB.out.cell (World.block_lt_of_cell? w _ hw257_0)).trans hw257_0 | (obtain ⟨_, e_, h_⟩ := Kd.at_int HR0.out x4_1 (of_eq_true p257) (of_eq_true q257); cases e_; exact h_)) (fun hHeld => ?_); refine with_tabW spec_SortList.tab10 spec_SortList.bits10 (fun HT_ HW_ => ?_)
       generalize w47.drew = w48 at HO_3 HO253 HR250 HB HO256 hx257_0 hHeld ⊢
       refine pu_ HT_ 0 51 (B_ 1 12) ?_
       refine pu_ HT_ 1 52 (B_ 3 12) ?_
       refine pu_ HT_ 2 53 (B_ 7 12) ?_
       refine pu_ HT_ 3 54 (B_ 15 12) ?_
       refine pu_ HT_ 4 55 (B_ 31 12) ?_
       refine pu_ HT_ 5 56 (B_ 63 12) ?_
       refine pu_ HT_ 9 60 (B_ 575 12) ?_
       refine tk1_ HT_ HW_ hHeld 6 57 (B_ 639 12) ?_
       refine on_ HT_ 7 58 (B_ 767 12) (fun K hK => ?_)
       refine value_ (w1 := ?_) (v := ?_) (by rfl) rfl ?_ ?_
       rotate_left 2
       · go_simp
         constructor
         · rfl
         · rfl
       refine hK.out _ _ ((World.cell?_alloc_lt _ _ _ (World.block_lt_of_cell? _ _ (by first | exact hw257_0 | exact (HB.out.cell (World.block_lt_of_cell? w _ hw257_0)).trans hw257_0 | (obtain ⟨_, e_, h_⟩ := Kd.at_int HR0.out x4_1 (of_eq_true p257) (of_eq_true q257); cases e_; exact h_)))).trans (by first | exact hw257_0 | exact (HB.out.cell (World.block_lt_of_cell? w _ hw257_0)).trans hw257_0 | (obtain ⟨_, e_, h_⟩ := Kd.at_int HR0.out x4_1 (of_eq_true p257) (of_eq_true q257); cases e_; exact h_))) (fun hHeld => ?_)
       clear hK K
       refine norm_ (a' := ?_) ?_ ?_
       rotate_left
       · show Act.put _ (some 58) _ = _
         simp only [Act.put, z1_, z2_, z3_, i64_w, i32_w]
         rfl
       refine on_ HT_ 8 59 (B_ 1023 12) (fun K hK => ?_)
       refine Kd.R_append_step (Kd.int .i64) (w0 := w) w.heap.size (by rfl) (.tmp 53) (.tmp 58) 24 3 (.int .i64 0) 8 rfl Try.underlying24 info3 rfl (by decide) (by omega) (.slice Ao5 y254.length co5) y254 (rd l0 x4_1) [.int .i64 (rd l0 x4_1)] (fun k_ => some k_ ≠ (v252 : Value).ownBlock) (fun _ => False) rfl rfl ?aP (fun _ hk => hk.elim) ?aF ?aO ?aB ?aS ?aL ?_
       (case aP => exact rfl)
       (case aB => exact (bl_ HB.out))
       (case aF => exact (fun k_ hk => Kd.fresh' (Kd.R_lt (re_ HO253.out)) k_ hk))
       (case aO => exact (by (with_reducible repeat (first | apply Kd.R_alloc | apply Kd.R_drewN | apply Kd.R_drew)); exact Kd.R_mono HO256.out (fun _ hk => hk.2)))
       (case aS => exact (below_size (bl_ HB.out)))
       (case aL => have := LMc40.out; omega)
       intro v259 w50 ho hb hg hat
       rw [← Ny258.out] at ho
       replace HO253 := Aside0.mk (Kd.R_after (ok := (fun _ => True)) (by (with_reducible repeat (first | apply Kd.R_alloc | apply Kd.R_drewN | apply Kd.R_drew)); exact Kd.R_mono HO253.out (fun _ hk => ⟨trivial, by first | exact hk | exact (fun e_ => hk (e_.trans (own_len_ _ _ _ _ _)))⟩)) hg hat)
       replace HB := Aside0.mk (hb)
       have HO260 := Aside0.mk (ho)
       clear HO256
       clear ho hb hg hat
       obtain ⟨Ao52, co52, eo52⟩ := Kd.R_slice HO253.out
       (first | subst eo52 | (injection eo52 with f1_ f2_ f3_; have f4_ := f1_.symm; have f5_ := f3_.symm; clear f1_ f2_ f3_; subst f4_; subst f5_))
       refine hK.out _ _ (by first | exact hw257_0 | exact (HB.out.cell (World.block_lt_of_cell? w _ hw257_0)).trans hw257_0 | (obtain ⟨_, e_, h_⟩ := Kd.at_int HR0.out x4_1 (of_eq_true p257) (of_eq_true q257); cases e_; exact h_)) (fun hHeld => ?_)
       clear hK K
       refine norm_ (a' := ?_) ?_ ?_
       rotate_left
       · show Act.put _ (some 59) _ = _
         simp only [Act.put, z1_, z2_, z3_, i64_w, i32_w]
         rfl
       refine on_ HT_ 10 61 (B_ 2047 12) (fun K hK => ?_)
       refine Kd.R_append_rows_step (Kd.int .i64) (w0 := w) w.heap.size (by rfl) (.tmp 59) (.tmp 60) 24 3 (.int .i64 0) 8 rfl Try.underlying24 info3 rfl (by decide) (by omega) v259 y258 y251 _ _ _ (fun k_ => some k_ ≠ (.slice Ao52 y251.length co52 : Value).ownBlock) (fun _ => False) rfl rfl ?aO ?aR (fun _ _ h => h) (fun _ h => h.elim) ?aF ?aB ?aS ?aL ?_
       (case aR => exact ce_ ((Kd.R_reads' HO253.out).2.2))
       (case aB => exact (bl_ HB.out))
       (case aF => exact (fun k_ hk => Kd.fresh' (Kd.R_lt (re_ HO253.out)) k_ hk))
       (case aO => exact (re_ HO260.out))
       (case aS => exact (below_size (bl_ HB.out)))
       (case aL => have := LMc41.out; omega)
       intro v262 w51 ho hb hg hat
       rw [← Ny261.out] at ho
       replace HO253 := Aside0.mk (Kd.R_after (ok := (fun _ => True)) (re_ HO253.out) hg hat)
       replace HB := Aside0.mk (hb)
       have HO263 := Aside0.mk (ho)
       clear HO260
       clear ho hb hg hat
       refine hK.out _ _ (by first | exact hw257_0 | exact (HB.out.cell (World.block_lt_of_cell? w _ hw257_0)).trans hw257_0 | (obtain ⟨_, e_, h_⟩ := Kd.at_int HR0.out x4_1 (of_eq_true p257) (of_eq_true q257); cases e_; exact h_)) (fun hHeld => ?_)
       clear hK K
       refine norm_ (a' := ?_) ?_ ?_
       rotate_left
       · show Act.put _ (some 61) _ = _
         simp only [Act.put, z1_, z2_, z3_, i64_w, i32_w]
         rfl
       refine pu_ HT_ 11 3 (B_ 4095 12) ?_
       refine done_ (done_of HT_.out (by kernel_rfl)) ?_
       try go_wp2
       go_roundg k2
       case measure => have := HK1.out; have := HK2.out; omega
       case rel => exact ⟨(y261), (wrap64 (x4_1 + 1)), rs_, H', ⟨by have := HK1.out; have := HK2.out; omega⟩, ⟨by (with_reducible repeat (first | apply Kd.R_alloc | apply Kd.R_drewN | apply Kd.R_drew)); exact Kd.R_mono HO263.out (fun _ hk => trivial)⟩, ⟨bl_ HB.out⟩⟩
     rw [if_pos c6] at H
     have c6b0 : decide (0 < x5_2) = true := decide_eq_true c6
     clear c6
     obtain ⟨ji7, hji7⟩ : ∃ j_ : Int, (wrap64 (x5_2 - 1)) = j_ := ⟨_, rfl⟩
     replace H : (if 0 ≤ (ji7) then (if (ji7) < (x3_1.length : Int) then (if 0 ≤ x4_1 then (if x4_1 < (l0.length : Int) then (if (rd x3_1 (ji7)) > (rd l0 x4_1) then (spec_SortList.l1 k2 l0 x3_1 x4_1 ji7) else (if (rd x3_1 (ji7)) = (rd l0 x4_1) then (spec_SortList.l0 k2 l0 x3_1 (wrap64 (x4_1 + 1))) else ((some (([] : List Int) : List Int)).bind fun y224 => (if 0 ≤ x5_2 then (if x5_2 ≤ (x3_1.length : Int) then ((some (x3_1.drop (x5_2 : Int).toNat : List Int)).bind fun y227 => (if y224.length + y227.length < 17592186044416 then ((some (y224 ++ y227 : List Int)).bind fun y231 => ((some (x3_1.take (x5_2 : Int).toNat : List Int)).bind fun y234 => (if y234.length < 17592186044416 then ((some (y234 ++ [rd l0 x4_1] : List Int)).bind fun y238 => (if y238.length + y231.length < 17592186044416 then (spec_SortList.l0 k2 l0 (y238 ++ y231) (wrap64 (x4_1 + 1))) else (none))) else (none)))) else (none))) else (none)) else (none))))) else (none)) else (none)) else (none)) else (none)) = some r := by first | (rw [hji7] at H; exact H) | (simp only [hji7] at H ⊢; exact H)
     have hji7w : (IntKind.i64.wrap (x5_2 - 1)) = ji7 := (i64_w _).trans hji7
     obtain ⟨c8b0, H⟩ := ipd_ H
     obtain ⟨c9b0, H⟩ := ipd_ H
     obtain ⟨c10b0, H⟩ := ipd_ H
     obtain ⟨c11b0, H⟩ := ipd_ H
     by_cases c12 : (rd x3_1 (ji7)) > (rd l0 x4_1)
     · rw [if_pos c12] at H
       have c12b0 : decide ((rd l0 x4_1) < (rd x3_1 (ji7))) = true := decide_eq_true c12
       clear c12
       have H' := Aside0.mk H
       clear H
       try go_wp2
       replace HO_3 := Aside0.mk (Kd.R_drew HO_3.out)
       replace HB := Aside0.mk (below_drew1 HB.out)
       have p220 : 0 ≤ ((ji7) : Int) := od_
       have q220 : (ji7) < (x3_1.length : Int) := od_
       obtain ⟨ad220, e220, hx220_0⟩ := Kd.at_int (Kd.R_reads' HO_3.out).2.2 (ji7) p220 q220
       cases e220
       replace p220 := eq_true p220
       replace q220 := eq_true q220
       have p221 : 0 ≤ (x4_1 : Int) := od_
       have q221 : x4_1 < (l0.length : Int) := od_
       obtain ⟨ad221, e221, hx221_0⟩ := Kd.at_int HR0.out x4_1 p221 q221
       have hw221_0 := hx221_0
       cases e221
       (try replace hx221_0 := (HB.out.cell (World.block_lt_of_cell? w _ hx221_0)).trans hx221_0)
       replace p221 := eq_true p221
       replace q221 := eq_true q221
       refine start_ (n := 14) (S := fun w' => w'.cell? (ad220.add ((ji7)).toNat) = some (.int .i64 (rd x3_1 (ji7))) ∧ w'.cell? (ad221.add (x4_1).toNat) = some (.int .i64 (rd l0 x4_1))) (ds := []) (B_ 0 14) (by kernel_rfl) rfl rfl ⟨hx220_0, ((HB.out.cell (World.block_lt_of_cell? w _ hw221_0)).trans hw221_0)⟩ (fun hHeld => ?_); refine with_tabW spec_SortList.tab6 spec_SortList.bits6 (fun HT_ HW_ => ?_)
       generalize wr.drew = w13 at HO_3 HB hx220_0 hx221_0 hHeld ⊢
       refine pu_ HT_ 0 16 (B_ 1 14) ?_
       refine pu_ HT_ 1 17 (B_ 3 14) ?_
       refine pu_ HT_ 2 18 (B_ 7 14) ?_
       refine pu_ HT_ 3 19 (B_ 15 14) ?_
       refine pu_ HT_ 4 20 (B_ 31 14) ?_
       refine pu_ HT_ 5 21 (B_ 63 14) ?_
       refine pu_ HT_ 6 22 (B_ 127 14) ?_
       refine pu_ HT_ 8 24 (B_ 383 14) ?_
       refine pu_ HT_ 9 25 (B_ 895 14) ?_
       refine pu_ HT_ 10 26 (B_ 1919 14) ?_
       refine tk2_ HT_ HW_ hHeld 7 23 (B_ 2047 14) ?_
       refine tk2_ HT_ HW_ hHeld 11 27 (B_ 4095 14) ?_
       refine pu_ HT_ 12 28 (B_ 8191 14) ?_
       refine pu_ HT_ 13 29 (B_ 16383 14) ?_
       refine done_ (done_of HT_.out (by kernel_rfl)) ?_
       try go_wp2
       go_roundg k2
       case measure => have := HK1.out; have := HK2.out; omega
       case rel => exact ⟨(ji7), (by first | rfl | (simp; done) | (simp only [← hji7] <;> (first | rfl | simp)) | (simp [*]; done)), H', ⟨by have := HK1.out; have := HK2.out; omega⟩, ⟨re_ HO_3.out⟩, ⟨bl_ HB.out⟩⟩
     rw [if_neg c12] at H
     have c12b0 : decide ((rd l0 x4_1) < (rd x3_1 (ji7))) = false := decide_eq_false c12
     clear c12
     by_cases c14 : (rd x3_1 (ji7)) = (rd l0 x4_1)
     · rw [if_pos c14] at H
       have c14b0 : ((rd x3_1 (ji7)) == (rd l0 x4_1)) = true := beq_iff_eq.mpr c14
       have c14b1 : ((rd x3_1 (ji7)) != (rd l0 x4_1)) = false := bne_eq_false_iff_eq.mpr c14
       clear c14
       have H' := Aside0.mk H
       clear H
       try go_wp2
       replace HO_3 := Aside0.mk (Kd.R_drew HO_3.out)
       replace HB := Aside0.mk (below_drew1 HB.out)
       have p220 : 0 ≤ ((ji7) : Int) := od_
       have q220 : (ji7) < (x3_1.length : Int) := od_
       obtain ⟨ad220, e220, hx220_0⟩ := Kd.at_int (Kd.R_reads' HO_3.out).2.2 (ji7) p220 q220
       cases e220
       replace p220 := eq_true p220
       replace q220 := eq_true q220
       have p221 : 0 ≤ (x4_1 : Int) := od_
       have q221 : x4_1 < (l0.length : Int) := od_
       obtain ⟨ad221, e221, hx221_0⟩ := Kd.at_int HR0.out x4_1 p221 q221
       have hw221_0 := hx221_0
       cases e221
       (try replace hx221_0 := (HB.out.cell (World.block_lt_of_cell? w _ hx221_0)).trans hx221_0)
       replace p221 := eq_true p221
       replace q221 := eq_true q221
       refine start_ (n := 14) (S := fun w' => w'.cell? (ad220.add ((ji7)).toNat) = some (.int .i64 (rd x3_1 (ji7))) ∧ w'.cell? (ad221.add (x4_1).toNat) = some (.int .i64 (rd l0 x4_1))) (ds := []) (B_ 0 14) (by kernel_rfl) rfl rfl ⟨hx220_0, ((HB.out.cell (World.block_lt_of_cell? w _ hw221_0)).trans hw221_0)⟩ (fun hHeld => ?_); refine with_tabW spec_SortList.tab6 spec_SortList.bits6 (fun HT_ HW_ => ?_)
       generalize wr.drew = w15 at HO_3 HB hx220_0 hx221_0 hHeld ⊢
       refine pu_ HT_ 0 16 (B_ 1 14) ?_
       refine pu_ HT_ 1 17 (B_ 3 14) ?_
       refine pu_ HT_ 2 18 (B_ 7 14) ?_
       refine pu_ HT_ 3 19 (B_ 15 14) ?_
       refine pu_ HT_ 4 20 (B_ 31 14) ?_
       refine pu_ HT_ 5 21 (B_ 63 14) ?_
       refine pu_ HT_ 6 22 (B_ 127 14) ?_
       refine pu_ HT_ 8 24 (B_ 383 14) ?_
       refine pu_ HT_ 9 25 (B_ 895 14) ?_
       refine pu_ HT_ 10 26 (B_ 1919 14) ?_
       refine tk2_ HT_ HW_ hHeld 7 23 (B_ 2047 14) ?_
       refine tk2_ HT_ HW_ hHeld 11 27 (B_ 4095 14) ?_
       refine pu_ HT_ 12 28 (B_ 8191 14) ?_
       refine pu_ HT_ 13 29 (B_ 16383 14) ?_
       refine done_ (done_of HT_.out (by kernel_rfl)) ?_
       try go_wp2
       replace HO_3 := Aside0.mk (Kd.R_drew HO_3.out)
       replace HB := Aside0.mk (below_drew1 HB.out)
       have p222 : 0 ≤ ((ji7) : Int) := od_
       have q222 : (ji7) < (x3_1.length : Int) := od_
       obtain ⟨ad222, e222, hx222_0⟩ := Kd.at_int (Kd.R_reads' HO_3.out).2.2 (ji7) p222 q222
       obtain rfl : ad220 = ad222 := (by injection e222)
       replace p222 := eq_true p222
       replace q222 := eq_true q222
       have p223 : 0 ≤ (x4_1 : Int) := od_
       have q223 : x4_1 < (l0.length : Int) := od_
       obtain ⟨ad223, e223, hx223_0⟩ := Kd.at_int HR0.out x4_1 p223 q223
       have hw223_0 := hx223_0
       obtain rfl : ad221 = ad223 := (by injection e223)
       (try replace hx223_0 := (HB.out.cell (World.block_lt_of_cell? w _ hx223_0)).trans hx223_0)
       replace p223 := eq_true p223
       replace q223 := eq_true q223
       refine start_ (n := 14) (S := fun w' => w'.cell? (ad220.add ((ji7)).toNat) = some (.int .i64 (rd x3_1 (ji7))) ∧ w'.cell? (ad221.add (x4_1).toNat) = some (.int .i64 (rd l0 x4_1))) (ds := []) (B_ 0 14) (by kernel_rfl) rfl rfl ⟨hx222_0, ((HB.out.cell (World.block_lt_of_cell? w _ hw223_0)).trans hw223_0)⟩ (fun hHeld => ?_); refine with_tabW spec_SortList.tab8 spec_SortList.bits8 (fun HT_ HW_ => ?_)
       generalize w15.drew = w16 at HO_3 HB hx222_0 hx223_0 hHeld ⊢
       refine pu_ HT_ 0 32 (B_ 1 14) ?_
       refine pu_ HT_ 1 33 (B_ 3 14) ?_
       refine pu_ HT_ 2 34 (B_ 7 14) ?_
       refine pu_ HT_ 3 35 (B_ 15 14) ?_
       refine pu_ HT_ 4 36 (B_ 31 14) ?_
       refine pu_ HT_ 5 37 (B_ 63 14) ?_
       refine pu_ HT_ 6 38 (B_ 127 14) ?_
       refine pu_ HT_ 8 40 (B_ 383 14) ?_
       refine pu_ HT_ 9 41 (B_ 895 14) ?_
       refine pu_ HT_ 10 42 (B_ 1919 14) ?_
       refine tk2_ HT_ HW_ hHeld 7 39 (B_ 2047 14) ?_
       refine tk2_ HT_ HW_ hHeld 11 43 (B_ 4095 14) ?_
       refine pu_ HT_ 12 44 (B_ 8191 14) ?_
       refine pu_ HT_ 13 45 (B_ 16383 14) ?_
       refine done_ (done_of HT_.out (by kernel_rfl)) ?_
       try go_wp2
       go_roundg k2
       case measure => have := HK1.out; have := HK2.out; omega
       case rel => exact ⟨(x3_1), (wrap64 (x4_1 + 1)), rs_, H', ⟨by have := HK1.out; have := HK2.out; omega⟩, ⟨re_ HO_3.out⟩, ⟨bl_ HB.out⟩⟩
     rw [if_neg c14] at H
     have c14b0 : ((rd x3_1 (ji7)) == (rd l0 x4_1)) = false := beq_eq_false_iff_ne.mpr c14
     have c14b1 : ((rd x3_1 (ji7)) != (rd l0 x4_1)) = true := bne_iff_ne.mpr c14
     obtain ⟨y224, hy224⟩ : ∃ y_ : List Int, y_ = (([] : List Int)) := ⟨_, rfl⟩
     replace H : (if 0 ≤ x5_2 then (if x5_2 ≤ (x3_1.length : Int) then ((some (x3_1.drop (x5_2 : Int).toNat : List Int)).bind fun y227 => (if y224.length + y227.length < 17592186044416 then ((some (y224 ++ y227 : List Int)).bind fun y231 => ((some (x3_1.take (x5_2 : Int).toNat : List Int)).bind fun y234 => (if y234.length < 17592186044416 then ((some (y234 ++ [rd l0 x4_1] : List Int)).bind fun y238 => (if y238.length + y231.length < 17592186044416 then (spec_SortList.l0 k2 l0 (y238 ++ y231) (wrap64 (x4_1 + 1))) else (none))) else (none)))) else (none))) else (none)) else (none)) = some r := by subst hy224; exact H
     have Ny224 := Aside0.mk hy224
     clear hy224
     obtain ⟨c17, H⟩ := ip_ H
     have c17b0 := eq_true c17
     have c17b1 : decide (0 ≤ x5_2) = true := decide_eq_true c17
     clear c17
     obtain ⟨c18, H⟩ := ip_ H
     have c18b0 := eq_true c18
     have c18b1 : decide (x5_2 ≤ (x3_1.length : Int)) = true := decide_eq_true c18
     clear c18
     obtain ⟨y227, hy227⟩ : ∃ y_ : List Int, y_ = (x3_1.drop (x5_2 : Int).toNat) := ⟨_, rfl⟩
     replace H : (if y224.length + y227.length < 17592186044416 then ((some (y224 ++ y227 : List Int)).bind fun y231 => ((some (x3_1.take (x5_2 : Int).toNat : List Int)).bind fun y234 => (if y234.length < 17592186044416 then ((some (y234 ++ [rd l0 x4_1] : List Int)).bind fun y238 => (if y238.length + y231.length < 17592186044416 then (spec_SortList.l0 k2 l0 (y238 ++ y231) (wrap64 (x4_1 + 1))) else (none))) else (none)))) else (none)) = some r := by subst hy227; exact H
     have Ny227 := Aside0.mk hy227
     clear hy227
     obtain ⟨c19, H⟩ := ip_ H
     have LMc19 := Aside0.mk c19
     clear c19
     obtain ⟨y231, hy231⟩ : ∃ y_ : List Int, y_ = (y224 ++ y227) := ⟨_, rfl⟩
     replace H : ((some (x3_1.take (x5_2 : Int).toNat : List Int)).bind fun y234 => (if y234.length < 17592186044416 then ((some (y234 ++ [rd l0 x4_1] : List Int)).bind fun y238 => (if y238.length + y231.length < 17592186044416 then (spec_SortList.l0 k2 l0 (y238 ++ y231) (wrap64 (x4_1 + 1))) else (none))) else (none))) = some r := by subst hy231; exact H
     have Ny231 := Aside0.mk hy231
     clear hy231
     have c20b0 := eq_true (od_ : x5_2 ≤ (x3_1.length : Int))
     obtain ⟨y234, hy234⟩ : ∃ y_ : List Int, y_ = (x3_1.take (x5_2 : Int).toNat) := ⟨_, rfl⟩
     replace H : (if y234.length < 17592186044416 then ((some (y234 ++ [rd l0 x4_1] : List Int)).bind fun y238 => (if y238.length + y231.length < 17592186044416 then (spec_SortList.l0 k2 l0 (y238 ++ y231) (wrap64 (x4_1 + 1))) else (none))) else (none)) = some r := by subst hy234; exact H
     have Ny234 := Aside0.mk hy234
     clear hy234
     obtain ⟨c21, H⟩ := ip_ H
     have LMc21 := Aside0.mk c21
     clear c21
     obtain ⟨y238, hy238⟩ : ∃ y_ : List Int, y_ = (y234 ++ [rd l0 x4_1]) := ⟨_, rfl⟩
     replace H : (if y238.length + y231.length < 17592186044416 then (spec_SortList.l0 k2 l0 (y238 ++ y231) (wrap64 (x4_1 + 1))) else (none)) = some r := by subst hy238; exact H
     have Ny238 := Aside0.mk hy238
     clear hy238
     obtain ⟨c22, H⟩ := ip_ H
     have LMc22 := Aside0.mk c22
     clear c22
     obtain ⟨y241, hy241⟩ : ∃ y_ : List Int, y_ = (y238 ++ y231) := ⟨_, rfl⟩
     replace H : (spec_SortList.l0 k2 l0 y241 (wrap64 (x4_1 + 1))) = some r := by subst hy241; exact H
     have Ny241 := Aside0.mk hy241
     clear hy241
     have H' := Aside0.mk H
     clear H
     try go_wp2
     replace HO_3 := Aside0.mk (Kd.R_drew HO_3.out)
     replace HB := Aside0.mk (below_drew1 HB.out)
     have p220 : 0 ≤ ((ji7) : Int) := od_
     have q220 : (ji7) < (x3_1.length : Int) := od_
     obtain ⟨ad220, e220, hx220_0⟩ := Kd.at_int (Kd.R_reads' HO_3.out).2.2 (ji7) p220 q220
     cases e220
     replace p220 := eq_true p220
     replace q220 := eq_true q220
     have p221 : 0 ≤ (x4_1 : Int) := od_
     have q221 : x4_1 < (l0.length : Int) := od_
     obtain ⟨ad221, e221, hx221_0⟩ := Kd.at_int HR0.out x4_1 p221 q221
     have hw221_0 := hx221_0
     cases e221
     (try replace hx221_0 := (HB.out.cell (World.block_lt_of_cell? w _ hx221_0)).trans hx221_0)
     replace p221 := eq_true p221
     replace q221 := eq_true q221
     refine start_ (n := 14) (S := fun w' => w'.cell? (ad220.add ((ji7)).toNat) = some (.int .i64 (rd x3_1 (ji7))) ∧ w'.cell? (ad221.add (x4_1).toNat) = some (.int .i64 (rd l0 x4_1))) (ds := []) (B_ 0 14) (by kernel_rfl) rfl rfl ⟨hx220_0, ((HB.out.cell (World.block_lt_of_cell? w _ hw221_0)).trans hw221_0)⟩ (fun hHeld => ?_); refine with_tabW spec_SortList.tab6 spec_SortList.bits6 (fun HT_ HW_ => ?_)
     generalize wr.drew = w23 at HO_3 HB hx220_0 hx221_0 hHeld ⊢
     refine pu_ HT_ 0 16 (B_ 1 14) ?_
     refine pu_ HT_ 1 17 (B_ 3 14) ?_
     refine pu_ HT_ 2 18 (B_ 7 14) ?_
     refine pu_ HT_ 3 19 (B_ 15 14) ?_
     refine pu_ HT_ 4 20 (B_ 31 14) ?_
     refine pu_ HT_ 5 21 (B_ 63 14) ?_
     refine pu_ HT_ 6 22 (B_ 127 14) ?_
     refine pu_ HT_ 8 24 (B_ 383 14) ?_
     refine pu_ HT_ 9 25 (B_ 895 14) ?_
     refine pu_ HT_ 10 26 (B_ 1919 14) ?_
     refine tk2_ HT_ HW_ hHeld 7 23 (B_ 2047 14) ?_
     refine tk2_ HT_ HW_ hHeld 11 27 (B_ 4095 14) ?_
     refine pu_ HT_ 12 28 (B_ 8191 14) ?_
     refine pu_ HT_ 13 29 (B_ 16383 14) ?_
     refine done_ (done_of HT_.out (by kernel_rfl)) ?_
     try go_wp2
     replace HO_3 := Aside0.mk (Kd.R_drew HO_3.out)
     replace HB := Aside0.mk (below_drew1 HB.out)
     have p222 : 0 ≤ ((ji7) : Int) := od_
     have q222 : (ji7) < (x3_1.length : Int) := od_
     obtain ⟨ad222, e222, hx222_0⟩ := Kd.at_int (Kd.R_reads' HO_3.out).2.2 (ji7) p222 q222
     obtain rfl : ad220 = ad222 := (by injection e222)
     replace p222 := eq_true p222
     replace q222 := eq_true q222
     have p223 : 0 ≤ (x4_1 : Int) := od_
     have q223 : x4_1 < (l0.length : Int) := od_
     obtain ⟨ad223, e223, hx223_0⟩ := Kd.at_int HR0.out x4_1 p223 q223
     have hw223_0 := hx223_0
     obtain rfl : ad221 = ad223 := (by injection e223)
     (try replace hx223_0 := (HB.out.cell (World.block_lt_of_cell? w _ hx223_0)).trans hx223_0)
     replace p223 := eq_true p223
     replace q223 := eq_true q223
     refine start_ (n := 14) (S := fun w' => w'.cell? (ad220.add ((ji7)).toNat) = some (.int .i64 (rd x3_1 (ji7))) ∧ w'.cell? (ad221.add (x4_1).toNat) = some (.int .i64 (rd l0 x4_1))) (ds := []) (B_ 0 14) (by kernel_rfl) rfl rfl ⟨hx222_0, ((HB.out.cell (World.block_lt_of_cell? w _ hw223_0)).trans hw223_0)⟩ (fun hHeld => ?_); refine with_tabW spec_SortList.tab8 spec_SortList.bits8 (fun HT_ HW_ => ?_)
     generalize w23.drew = w24 at HO_3 HB hx222_0 hx223_0 hHeld ⊢
     refine pu_ HT_ 0 32 (B_ 1 14) ?_
     refine pu_ HT_ 1 33 (B_ 3 14) ?_
     refine pu_ HT_ 2 34 (B_ 7 14) ?_
     refine pu_ HT_ 3 35 (B_ 15 14) ?_
     refine pu_ HT_ 4 36 (B_ 31 14) ?_
     refine pu_ HT_ 5 37 (B_ 63 14) ?_
     refine pu_ HT_ 6 38 (B_ 127 14) ?_
     refine pu_ HT_ 8 40 (B_ 383 14) ?_
     refine pu_ HT_ 9 41 (B_ 895 14) ?_
     refine pu_ HT_ 10 42 (B_ 1919 14) ?_
     refine tk2_ HT_ HW_ hHeld 7 39 (B_ 2047 14) ?_
     refine tk2_ HT_ HW_ hHeld 11 43 (B_ 4095 14) ?_
     refine pu_ HT_ 12 44 (B_ 8191 14) ?_
     refine pu_ HT_ 13 45 (B_ 16383 14) ?_
     refine done_ (done_of HT_.out (by kernel_rfl)) ?_
     try go_wp2_with (first | ((with_reducible refine gate_dst (N := 46) rfl ?_); refine Kd.R_lit (Kd.int .i64) _ 3 ?hg (N := 46) ?hd (xs := ([] : List Int)) (inner := []) (ok := fun _ => True) (okp := fun _ => True) ?hr ?hp (fun _ hk => hk) trivial (Below.refl _ _) (Nat.le_refl _) (by simp) ?_; (case hd => rfl); (case hg => rfl); (case hr => first | (go_simp; done) | (go_simp; rfl)); (case hp => exact (Reps.none _ _)); intro v225 w25 ho26 hb hg_ hnew_; clear hg_ hnew_; (first | rw [← Ny224.out] at ho26 | (simp only [Int.reduceToNat] at ho26; rw [← Ny224.out] at ho26)); have HO226 := Aside0.mk (Kd.R_lower (Kd.R_new' ho26 (Kd.R_lt (re_ HO_3.out))) (below_size (bl_ HB.out))); replace HO_3 := Aside0.mk (Kd.R_elder' (re_ HO_3.out) (Kd.R_base ho26) hb); replace HB := bo_ HB hb; clear hb ho26; have q27 : (x5_2 : Int) ≤ ((x3_1.length : Int) : Int) := od_; obtain ⟨i027, hi027, _, hsz27, _⟩ := info_parts info3; have hroom27 : x3_1.length ≤ co5 := (Kd.R_reads' HO_3.out).2.1; have hC27 : Kd.C (Kd.int .i64) _ (some ad220) x3_1.length x3_1 := (Kd.R_reads' HO_3.out).2.2; have q027 : (0 : Int) ≤ (x5_2 : Int) := od_; have hcut27 := cut_from (P := Try.prog) 24 3 .i64 Try.underlying24 hi027 1 hsz27 (some ad220) x3_1.length co5 x5_2 q027 q27; have hr27 := Kd.C_drop (m := (x5_2 : Int).toNat) (c := co5) hC27 (by omega) hroom27; obtain ⟨A27, hA27⟩ : ∃ A1, A1 = (if co5 = (x5_2 : Int).toNat then (some ad220) else ((some ad220) : Option Addr).map (·.add ((x5_2 : Int).toNat * 1))) := ⟨_, rfl⟩; obtain ⟨c27, hc27⟩ : ∃ c1, c1 = co5 - (x5_2 : Int).toNat := ⟨_, rfl⟩; have hy27 : y227.length = x3_1.length - (x5_2 : Int).toNat := (by rw [Ny227.out, List.length_drop] <;> omega); rw [show (x3_1).drop (x5_2 : Int).toNat = y227 from Ny227.out.symm] at hr27; replace hr27 : Kd.C (Kd.int .i64) _ A27 y227.length y227 := (by rw [hA27]; exact hr27); rw [← hy27, ← hA27, ← hc27] at hcut27; have HR230 := Aside0.mk hr27; have HC230 := Aside0.mk (show y227.length ≤ c27 from by rw [hy27, hc27]; exact Nat.sub_le_sub_right hroom27 _); clear hr27 hC27 hroom27 hi027 hsz27 hc27; have KY27 := Aside0.mk hy27; have KA27 := Aside0.mk hA27; clear hy27 hA27; have KL27 := Aside0.mk (show (x5_2 : Int).toNat ≤ x3_1.length from by omega); replace q27 := eq_true q27) | ((with_reducible refine gate_builtin (b := .append) (xs := #[.tmp 46, .tmp 49]) rfl ?_); at_builtin; refine Kd.R_append_rows (Kd.int .i64) (w0 := w) w.heap.size rfl (.tmp 46) (.tmp 49) 24 3 (.int .i64 0) 8 rfl Try.underlying24 info3 rfl (by decide) (by omega) v225 y224 y227 _ _ _ (fun k_ => some k_ ≠ (.slice (some ad220) x3_1.length co5 : Value).ownBlock) (fun _ => False) rfl rfl ?aO ?aR (fun _ _ h => h) (fun _ h => h.elim) ?aF ?aB ?aS ?aL ?_; (case aR => repeat (first | exact (by repeat (first | (with_reducible exact HR230.out) | (with_reducible refine Kd.C_alloc ?_ _) | (with_reducible refine Kd.C_drewN ?_ _) | (with_reducible refine Kd.C_drew ?_) | exact HR230.out)) | (with_reducible refine Kd.C_alloc ?_ _) | (with_reducible refine Kd.C_drewN ?_ _) | (with_reducible refine Kd.C_drew ?_))); (case aB => exact (bl_ HB.out)); (case aF => exact (fun k_ hk => Kd.fresh' (Kd.R_lt (re_ HO_3.out)) k_ hk)); (case aO => exact (by (with_reducible repeat (first | apply Kd.R_alloc | apply Kd.R_drewN | apply Kd.R_drew)); exact Kd.R_mono HO226.out (fun _ hk => hk.2))); (case aS => exact (below_size (bl_ HB.out))); (case aL => have := LMc19.out; omega); intro v232 w28 ho hb hg hat; rw [← Ny231.out] at ho; replace HB := Aside0.mk (hb); replace HR230 := Aside0.mk ((show Kd.C (Kd.int .i64) w28 A27 y227.length y227 from by rw [Ny227.out, KA27.out]; exact Kd.C_drop (m := (x5_2 : Int).toNat) (c := co5) ((Kd.R_reads' (Kd.R_after (ok := (fun _ => True)) (re_ HO_3.out) hg hat)).2.2) KL27.out ((Kd.R_reads' (Kd.R_after (ok := (fun _ => True)) (re_ HO_3.out) hg hat)).2.1))); replace HO_3 := Aside0.mk (Kd.R_after (ok := (fun _ => True)) (re_ HO_3.out) hg hat); have HO233 := Aside0.mk (ho); clear HO226; clear ho hb hg hat))
     replace HO_3 := Aside0.mk (Kd.R_drew HO_3.out)
     replace HO233 := Aside0.mk (Kd.R_drew HO233.out)
     replace HR230 := Aside0.mk (Kd.C_drew HR230.out)
     replace HB := Aside0.mk (below_drew1 HB.out)
     have q30 : (x5_2 : Int) ≤ ((x3_1.length : Int) : Int) := od_
     obtain ⟨i030, hi030, _, hsz30, _⟩ := info_parts info3
     have hcut30 := cut_to (P := Try.prog) 24 3 .i64 Try.underlying24 hi030 (some ad220) x3_1.length co5 x5_2 (od_) q30 (Kd.R_reads' HO_3.out).2.1
     have hr30 := Kd.R_take (m := (x5_2 : Int).toNat) HO_3.out (by omega)
     have hy30 : y234.length = (x5_2 : Int).toNat := (by rw [Ny234.out, List.length_take]; omega)
     rw [← Ny234.out] at hr30
     rw [← hy30] at hr30 hcut30
     clear hy30 hi030 hsz30 HO_3
     have HO236 := Aside0.mk hr30
     clear hr30
     replace q30 := eq_true q30
     have p237 : 0 ≤ (x4_1 : Int) := od_
     have q237 : x4_1 < (l0.length : Int) := od_
     obtain ⟨ad237, e237, hx237_0⟩ := Kd.at_int HR0.out x4_1 p237 q237
     have hw237_0 := hx237_0
     obtain rfl : ad221 = ad237 := (by injection e237)
     (try replace hx237_0 := (HB.out.cell (World.block_lt_of_cell? w _ hx237_0)).trans hx237_0)
     replace p237 := eq_true p237
     replace q237 := eq_true q237
     refine start_ (n := 12) (S := fun w' => w'.cell? (ad221.add (x4_1).toNat) = some (.int .i64 (rd l0 x4_1))) (ds := []) (B_ 0 12) (by kernel_rfl) rfl rfl (by first | exact hw237_0 | exact (HB.out.cell (World.block_lt_of_cell? w _ hw237_0)).trans hw237_0 | (obtain ⟨_, e_, h_⟩ := Kd.at_int HR0.out x4_1 (of_eq_true p237) (of_eq_true q237); cases e_; exact h_)) (fun hHeld => ?_); refine with_tabW spec_SortList.tab10 spec_SortList.bits10 (fun HT_ HW_ => ?_)
     generalize w28.drew = w29 at HO_3 HO233 HR230 HB HO236 hx237_0 hHeld ⊢
     refine pu_ HT_ 0 51 (B_ 1 12) ?_
     refine pu_ HT_ 1 52 (B_ 3 12) ?_
     refine pu_ HT_ 2 53 (B_ 7 12) ?_
     refine pu_ HT_ 3 54 (B_ 15 12) ?_
     refine pu_ HT_ 4 55 (B_ 31 12) ?_
     refine pu_ HT_ 5 56 (B_ 63 12) ?_
     refine pu_ HT_ 9 60 (B_ 575 12) ?_
     refine tk1_ HT_ HW_ hHeld 6 57 (B_ 639 12) ?_
     refine on_ HT_ 7 58 (B_ 767 12) (fun K hK => ?_)
     refine value_ (w1 := ?_) (v := ?_) (by rfl) rfl ?_ ?_
     rotate_left 2
     · go_simp
       constructor
       · rfl
       · rfl
     refine hK.out _ _ ((World.cell?_alloc_lt _ _ _ (World.block_lt_of_cell? _ _ (by first | exact hw237_0 | exact (HB.out.cell (World.block_lt_of_cell? w _ hw237_0)).trans hw237_0 | (obtain ⟨_, e_, h_⟩ := Kd.at_int HR0.out x4_1 (of_eq_true p237) (of_eq_true q237); cases e_; exact h_)))).trans (by first | exact hw237_0 | exact (HB.out.cell (World.block_lt_of_cell? w _ hw237_0)).trans hw237_0 | (obtain ⟨_, e_, h_⟩ := Kd.at_int HR0.out x4_1 (of_eq_true p237) (of_eq_true q237); cases e_; exact h_))) (fun hHeld => ?_)
     clear hK K
     refine norm_ (a' := ?_) ?_ ?_
     rotate_left
     · show Act.put _ (some 58) _ = _
       simp only [Act.put, z1_, z2_, z3_, i64_w, i32_w]
       rfl
     refine on_ HT_ 8 59 (B_ 1023 12) (fun K hK => ?_)
     refine Kd.R_append_step (Kd.int .i64) (w0 := w) w.heap.size (by rfl) (.tmp 53) (.tmp 58) 24 3 (.int .i64 0) 8 rfl Try.underlying24 info3 rfl (by decide) (by omega) (.slice (some ad220) y234.length co5) y234 (rd l0 x4_1) [.int .i64 (rd l0 x4_1)] (fun k_ => some k_ ≠ (v232 : Value).ownBlock) (fun _ => False) rfl rfl ?aP (fun _ hk => hk.elim) ?aF ?aO ?aB ?aS ?aL ?_
     (case aP => exact rfl)
     (case aB => exact (bl_ HB.out))
     (case aF => exact (fun k_ hk => Kd.fresh' (Kd.R_lt (re_ HO233.out)) k_ hk))
     (case aO => exact (by (with_reducible repeat (first | apply Kd.R_alloc | apply Kd.R_drewN | apply Kd.R_drew)); exact Kd.R_mono HO236.out (fun _ hk => hk.2)))
     (case aS => exact (below_size (bl_ HB.out)))
     (case aL => have := LMc21.out; omega)
     intro v239 w31 ho hb hg hat
     rw [← Ny238.out] at ho
     replace HO233 := Aside0.mk (Kd.R_after (ok := (fun _ => True)) (by (with_reducible repeat (first | apply Kd.R_alloc | apply Kd.R_drewN | apply Kd.R_drew)); exact Kd.R_mono HO233.out (fun _ hk => ⟨trivial, by first | exact hk | exact (fun e_ => hk (e_.trans (own_len_ _ _ _ _ _)))⟩)) hg hat)
     replace HB := Aside0.mk (hb)
     have HO240 := Aside0.mk (ho)
     clear HO236
     clear ho hb hg hat
     obtain ⟨Ao33, co33, eo33⟩ := Kd.R_slice HO233.out
     (first | subst eo33 | (injection eo33 with f1_ f2_ f3_; have f4_ := f1_.symm; have f5_ := f3_.symm; clear f1_ f2_ f3_; subst f4_; subst f5_))
     refine hK.out _ _ (by first | exact hw237_0 | exact (HB.out.cell (World.block_lt_of_cell? w _ hw237_0)).trans hw237_0 | (obtain ⟨_, e_, h_⟩ := Kd.at_int HR0.out x4_1 (of_eq_true p237) (of_eq_true q237); cases e_; exact h_)) (fun hHeld => ?_)
     clear hK K
     refine norm_ (a' := ?_) ?_ ?_
     rotate_left
     · show Act.put _ (some 59) _ = _
       simp only [Act.put, z1_, z2_, z3_, i64_w, i32_w]
       rfl
     refine on_ HT_ 10 61 (B_ 2047 12) (fun K hK => ?_)
     refine Kd.R_append_rows_step (Kd.int .i64) (w0 := w) w.heap.size (by rfl) (.tmp 59) (.tmp 60) 24 3 (.int .i64 0) 8 rfl Try.underlying24 info3 rfl (by decide) (by omega) v239 y238 y231 _ _ _ (fun k_ => some k_ ≠ (.slice Ao33 y231.length co33 : Value).ownBlock) (fun _ => False) rfl rfl ?aO ?aR (fun _ _ h => h) (fun _ h => h.elim) ?aF ?aB ?aS ?aL ?_
     (case aR => exact ce_ ((Kd.R_reads' HO233.out).2.2))
     (case aB => exact (bl_ HB.out))
     (case aF => exact (fun k_ hk => Kd.fresh' (Kd.R_lt (re_ HO233.out)) k_ hk))
     (case aO => exact (re_ HO240.out))
     (case aS => exact (below_size (bl_ HB.out)))
     (case aL => have := LMc22.out; omega)
     intro v242 w32 ho hb hg hat
     rw [← Ny241.out] at ho
     replace HO233 := Aside0.mk (Kd.R_after (ok := (fun _ => True)) (re_ HO233.out) hg hat)
     replace HB := Aside0.mk (hb)
     have HO243 := Aside0.mk (ho)
     clear HO240
     clear ho hb hg hat
     refine hK.out _ _ (by first | exact hw237_0 | exact (HB.out.cell (World.block_lt_of_cell? w _ hw237_0)).trans hw237_0 | (obtain ⟨_, e_, h_⟩ := Kd.at_int HR0.out x4_1 (of_eq_true p237) (of_eq_true q237); cases e_; exact h_)) (fun hHeld => ?_)
     clear hK K
     refine norm_ (a' := ?_) ?_ ?_
     rotate_left
     · show Act.put _ (some 61) _ = _
       simp only [Act.put, z1_, z2_, z3_, i64_w, i32_w]
       rfl
     refine pu_ HT_ 11 3 (B_ 4095 12) ?_
     refine done_ (done_of HT_.out (by kernel_rfl)) ?_
     try go_wp2
     go_roundg k2
     case measure => have := HK1.out; have := HK2.out; omega
     case rel => exact ⟨(y241), (wrap64 (x4_1 + 1)), rs_, H', ⟨by have := HK1.out; have := HK2.out; omega⟩, ⟨by (with_reducible repeat (first | apply Kd.R_alloc | apply Kd.R_drewN | apply Kd.R_drew)); exact Kd.R_mono HO243.out (fun _ hk => trivial)⟩, ⟨bl_ HB.out⟩⟩
def spec_l3Minimal.l0 : Nat → List Int → List Int → Int → Option (List Int)
 | 0, _, _, _ => none
 | k + 1, x3, x4, x5 => if x5 < (x4.length : Int) then (if x5 = 0 then (if 0 ≤ x5 then (if x3.length < 17592186044416 then (spec_l3Minimal.l0 k (x3 ++ [rd x4 x5]) x4 (wrap64 (x5 + 1))) else (none)) else (none)) else (if 0 ≤ x5 then (if x5 ≤ (x4.length : Int) then ((spec_l3Table.f k (x4.take (x5 : Int).toNat) (rd x4 x5)).bind fun t287 => (if 0 ≤ (rd x4 x5) then (if (rd x4 x5) < (t287.length : Int) then (if (rdOf false t287 (rd x4 x5) = true) then (spec_l3Minimal.l0 k x3 x4 (wrap64 (x5 + 1))) else (if x3.length < 17592186044416 then (spec_l3Minimal.l0 k (x3 ++ [rd x4 x5]) x4 (wrap64 (x5 + 1))) else (none))) else (none)) else (none))) else (none)) else (none))) else (some x3)
def spec_l3Minimal.f (k : Nat) (l0 : List Int) : Option (List Int) := (spec_SortList.f k l0).bind fun t275 => (spec_l3Minimal.l0 k (([] : List Int)) t275 0)
theorem spec_l3Minimal.mono_l : ∀ k, (∀ y0 y1 y2, LeO (spec_l3Minimal.l0 k y0 y1 y2) (spec_l3Minimal.l0 (k + 1) y0 y1 y2))
 | 0 => fun _ _ _ r h => by simp [spec_l3Minimal.l0] at h
 | k + 1 => by
  have ih0 := spec_l3Minimal.mono_l k
  · intro y0 y1 y2
    unfold spec_l3Minimal.l0
    repeat' first
    | (with_reducible exact ih0 _ _ _)
    | (with_reducible exact spec_SortList.mono _ _)
    | (with_reducible exact spec_l3Table.mono _ _ _)
    | (with_reducible exact LeO.refl _)
    | (with_reducible exact LeO.none _)
    | (with_reducible refine LeO.ite ?_ ?_)
    | (with_reducible refine LeO.bind ?_ (fun _ => ?_))
    | exact ih0 _ _ _
    | exact LeO.none _
    | refine LeO.ite ?_ ?_
    | refine LeO.bind ?_ (fun _ => ?_)
theorem spec_l3Minimal.mono : ∀ a0 k, LeO (spec_l3Minimal.f k a0) (spec_l3Minimal.f (k + 1) a0) := by
 intro a0 k
 have ih0 := spec_l3Minimal.mono_l k
 unfold spec_l3Minimal.f
 repeat' first
  | (with_reducible exact ih0 _ _ _)
  | (with_reducible exact spec_SortList.mono _ _)
  | (with_reducible exact spec_l3Table.mono _ _ _)
  | (with_reducible exact LeO.refl _)
  | (with_reducible exact LeO.none _)
  | (with_reducible refine LeO.ite ?_ ?_)
  | (with_reducible refine LeO.bind ?_ (fun _ => ?_))
  | exact ih0 _ _ _
  | exact LeO.none _
  | refine LeO.ite ?_ ?_
  | refine LeO.bind ?_ (fun _ => ?_)
def spec_l3Minimal.T6 : Bool × List (List Nat × List Nat) := (true, [([], []), ([0], [0]), ([1], [1]), ([2], [2]), ([2], [2]), ([3, 4, 2], [2, 3, 4]), ([2], [2]), ([2], [2]), ([6, 7, 2], [2, 6, 7]), ([8, 2], [2, 8]), ([5, 9, 2, 2], [2, 5, 9]), ([2], [2]), ([2], [2]), ([11, 12, 2], [2, 11, 12]), ([13, 2], [2, 13]), ([10, 14, 2], [2, 10, 14]), ([15, 2], [2, 15]), ([16, 2], [2, 16]), ([2, 17], [2, 17])])
def spec_l3Minimal.B6 : List Nat := [0, 1, 3, 7, 7, 31, 7, 7, 199, 455, 1023, 7, 7, 6151, 14343, 32767, 65535, 131071, 262143]
theorem spec_l3Minimal.tab6 : rtab .any (opsOf Try.f50 6) = spec_l3Minimal.T6 := by kernel_rfl
theorem spec_l3Minimal.bits6 : waitsOk spec_l3Minimal.T6.2 spec_l3Minimal.B6 = true := by kernel_rfl
theorem spec_l3Minimal.calls (k : Nat) (A0 : Option Addr) (c0 : Nat) (l0 : List Int) (r : List Int) (w : World) (hr0 : Kd.C (Kd.int .i64) w A0 l0.length l0) (hc0 : l0.length ≤ c0) (h : spec_l3Minimal.f k l0 = some r) :
 Calls Try.prog 50 #[.slice A0 l0.length c0] w fun e w' => ∃ v0_ : Value, e = .returned (v0_) ∧ Kd.R (Kd.int .i64) 3 w' w.heap.size (fun _ => True) v0_ r ∧ Below w.heap.size w w' := by
 have HR0 := Aside0.mk hr0
 have HC0 := Aside0.mk hc0
 clear hr0 hc0
 have HB := Aside0.mk (Below.refl w.heap.size w)
 have H := h
 clear h
 unfold spec_l3Minimal.f at H
 obtain ⟨y272, hy272⟩ : ∃ y_ : List Int, y_ = (([] : List Int)) := ⟨_, rfl⟩
 replace H : ((spec_SortList.f k l0).bind fun t275 => (spec_l3Minimal.l0 k y272 t275 0)) = some r := by subst hy272; exact H
 have Ny272 := Aside0.mk hy272
 clear hy272
 obtain ⟨t275, A2, H⟩ := ob_ H
 have H' := Aside0.mk H
 clear H
 go_enter Try.func50, Try.ntmps50
 go_wp2_with (first | ((with_reducible refine gate_dst (N := 6) rfl ?_); refine Kd.R_lit (Kd.int .i64) _ 3 ?hg (N := 6) ?hd (xs := ([] : List Int)) (inner := []) (ok := fun _ => True) (okp := fun _ => True) ?hr ?hp (fun _ hk => hk) trivial (Below.refl _ _) (Nat.le_refl _) (by simp) ?_; (case hd => rfl); (case hg => rfl); (case hr => first | (go_simp; done) | (go_simp; rfl)); (case hp => exact (Reps.none _ _)); intro v273 w3 ho4 hb hg_ hnew_; clear hg_ hnew_; (first | rw [← Ny272.out] at ho4 | (simp only [Int.reduceToNat] at ho4; rw [← Ny272.out] at ho4)); have HO274 := Aside0.mk (Kd.R_lower ho4 (below_size (bl_ HB.out))); replace HB := bo_ HB hb; clear hb ho4) | ((with_reducible refine gate_callee (f := 53) rfl ?_); refine gL_ (some 8) Try.func53 #[.slice A0 l0.length c0] ?_; (with_reducible refine (spec_SortList.calls k _ _ l0 t275 _ ?side1 ?side2 A2.out).mono ?_); (case side1 => exact ch_ HR0 HB); (case side2 => exact HC0.out); rintro e w5 ⟨v276, rfl, ho0, hb⟩; refine ⟨_, rfl, ?_⟩; have HO277 := Aside0.mk (Kd.R_lower (Kd.R_new' ho0 (Kd.R_lt (re_ HO274.out))) (below_size (bl_ HB.out))); replace HO274 := Aside0.mk (Kd.R_elder' (re_ HO274.out) (Kd.R_base ho0) hb); replace HB := bo_ HB hb; (try clear hb); (try clear ho0)))
 go_loopg [3, 5] k (fun kq v3 v5 w' => ∃ (x3_1 : List Int) (x5_1 : Int), v5 = .int .i64 x5_1 ∧ Aside0 (spec_l3Minimal.l0 kq x3_1 t275 x5_1 = some r) ∧ Aside0 (kq ≤ k) ∧ Aside0 (Kd.R (Kd.int .i64) 3 w' w.heap.size (fun k_ => some k_ ≠ (v276 : Value).ownBlock) v3 x3_1) ∧ Aside0 (Kd.R (Kd.int .i64) 3 w' w.heap.size (fun k_ => some k_ ≠ (v3 : Value).ownBlock) v276 t275) ∧ Aside0 (Below w.heap.size w w'))
 case atStart => exact ⟨(y272), (0), rs_, H', ⟨Nat.le_refl _⟩, ⟨by (with_reducible repeat (first | apply Kd.R_alloc | apply Kd.R_drewN | apply Kd.R_drew)); exact Kd.R_mono HO274.out (fun _ hk => hk.2)⟩, ⟨by (with_reducible repeat (first | apply Kd.R_alloc | apply Kd.R_drewN | apply Kd.R_drew)); exact Kd.R_mono HO277.out (fun _ hk => hk.2)⟩, ⟨bl_ HB.out⟩⟩
 case round =>
  clear H'
  obtain ⟨x3_1, x5_1, rfl, HA, HK1, HO_3, HO_4, HB⟩ := hrel
  cases gk with
  | zero => exact absurd HA.out (by simp [spec_l3Minimal.l0])
  | succ k1 =>
   have H := HA.out
   clear HA
   simp only [spec_l3Minimal.l0] at H
   by_cases c6 : x5_1 < (t275.length : Int)
   rotate_left
   · rw [if_neg c6] at H
     have c6b0 : decide (x5_1 < (t275.length : Int)) = false := decide_eq_false c6
     clear c6
     obtain rfl := Option.some.inj H
     obtain ⟨Ao32, co32, eo32⟩ := Kd.R_slice HO_4.out
     subst eo32
     go_wp2
     go_ret
     exact ⟨_, rf_, by (with_reducible repeat (first | apply Kd.R_alloc | apply Kd.R_drewN | apply Kd.R_drew)); exact Kd.R_mono HO_3.out (fun _ hk => trivial), bl_ HB.out⟩
   rw [if_pos c6] at H
   have c6b0 : decide (x5_1 < (t275.length : Int)) = true := decide_eq_true c6
   clear c6
   by_cases c7 : x5_1 = 0
   · rw [if_pos c7] at H
     have c7b0 : (x5_1 == 0) = true := beq_iff_eq.mpr c7
     have c7b1 : (x5_1 != 0) = false := bne_eq_false_iff_eq.mpr c7
     clear c7
     obtain ⟨c8b0, H⟩ := ipd_ H
     obtain ⟨c9, H⟩ := ip_ H
     have LMc9 := Aside0.mk c9
     clear c9
     obtain ⟨y279, hy279⟩ : ∃ y_ : List Int, y_ = (x3_1 ++ [rd t275 x5_1]) := ⟨_, rfl⟩
     replace H : (spec_l3Minimal.l0 k1 y279 t275 (wrap64 (x5_1 + 1))) = some r := by subst hy279; exact H
     have Ny279 := Aside0.mk hy279
     clear hy279
     have H' := Aside0.mk H
     clear H
     obtain ⟨Ao10, co10, eo10⟩ := Kd.R_slice HO_4.out
     subst eo10
     try go_wp2
     replace HO_3 := Aside0.mk (Kd.R_drew HO_3.out)
     replace HO_4 := Aside0.mk (Kd.R_drew HO_4.out)
     replace HB := Aside0.mk (below_drew1 HB.out)
     refine start_ (n := 19) (S := fun w' => True) (ds := []) (B_ 0 19) (by kernel_rfl) rfl rfl trivial (fun hHeld => ?_); refine with_tabW spec_l3Minimal.tab6 spec_l3Minimal.bits6 (fun HT_ HW_ => ?_)
     generalize wr.drew = w11 at HO_3 HO_4 HB hHeld ⊢
     refine pu_ HT_ 0 15 (B_ 1 19) ?_
     refine pu_ HT_ 1 16 (B_ 3 19) ?_
     refine pu_ HT_ 2 17 (B_ 7 19) ?_
     refine pn_ HT_ 3 18 (B_ 15 19) ?_
     refine pn_ HT_ 4 19 (B_ 31 19) ?_
     refine pn_ HT_ 5 20 (B_ 63 19) ?_
     refine pn_ HT_ 6 21 (B_ 127 19) ?_
     refine pn_ HT_ 7 22 (B_ 255 19) ?_
     refine pn_ HT_ 8 23 (B_ 511 19) ?_
     refine pn_ HT_ 9 24 (B_ 1023 19) ?_
     refine pn_ HT_ 10 25 (B_ 2047 19) ?_
     refine pn_ HT_ 11 26 (B_ 4095 19) ?_
     refine pn_ HT_ 12 27 (B_ 8191 19) ?_
     refine pn_ HT_ 13 28 (B_ 16383 19) ?_
     refine pn_ HT_ 14 29 (B_ 32767 19) ?_
     refine pn_ HT_ 15 30 (B_ 65535 19) ?_
     refine pn_ HT_ 16 31 (B_ 131071 19) ?_
     refine pn_ HT_ 17 32 (B_ 262143 19) ?_
     refine pu_ HT_ 18 33 (B_ 524287 19) ?_
     refine done_ (done_of HT_.out (by kernel_rfl)) ?_
     have p278 : 0 ≤ (x5_1 : Int) := od_
     have q278 : x5_1 < (t275.length : Int) := od_
     obtain ⟨ad278, e278, hx278_0⟩ := Kd.at_int (Kd.R_reads' HO_4.out).2.2 x5_1 p278 q278
     cases e278
     replace p278 := eq_true p278
     replace q278 := eq_true q278
     try go_wp2_with (first | ((with_reducible refine gate_builtin (b := .append) (xs := #[.tmp 34, .tmp 39]) rfl ?_); at_builtin; refine Kd.R_append (Kd.int .i64) (w0 := w) w.heap.size rfl (.tmp 34) (.tmp 39) 24 3 (.int .i64 0) 8 rfl Try.underlying24 info3 rfl (by decide) (by omega) u3 x3_1 (rd t275 x5_1) [.int .i64 (rd t275 x5_1)] (fun k_ => some k_ ≠ (.slice (some ad278) t275.length co10 : Value).ownBlock) (fun _ => False) rfl rfl ?aP (fun _ hk => hk.elim) ?aF ?aO ?aB ?aS ?aL ?_; (case aP => exact rfl); (case aB => exact (bl_ HB.out)); (case aF => exact (fun k_ hk => Kd.fresh' (Kd.R_lt (re_ HO_4.out)) k_ hk)); (case aO => exact (re_ HO_3.out)); (case aS => exact (below_size (bl_ HB.out))); (case aL => have := LMc9.out; omega); intro v280 w12 ho hb hg hat; rw [← Ny279.out] at ho; replace HO_4 := Aside0.mk (Kd.R_after (ok := (fun _ => True)) (by (with_reducible repeat (first | apply Kd.R_alloc | apply Kd.R_drewN | apply Kd.R_drew)); exact Kd.R_mono HO_4.out (fun _ hk => ⟨trivial, hk⟩)) hg hat); replace HB := Aside0.mk (hb); have HO281 := Aside0.mk (ho); clear HO_3; clear ho hb hg hat))
     go_roundg k1
     case measure => have := HK1.out; omega
     case rel => exact ⟨(y279), (wrap64 (x5_1 + 1)), rs_, H', ⟨by have := HK1.out; omega⟩, ⟨re_ HO281.out⟩, ⟨by (with_reducible repeat (first | apply Kd.R_alloc | apply Kd.R_drewN | apply Kd.R_drew)); exact Kd.R_mono HO_4.out (fun _ hk => hk.2)⟩, ⟨bl_ HB.out⟩⟩
   rw [if_neg c7] at H
   have c7b0 : (x5_1 == 0) = false := beq_eq_false_iff_ne.mpr c7
   have c7b1 : (x5_1 != 0) = true := bne_iff_ne.mpr c7
   obtain ⟨c13, H⟩ := ip_ H
   have c13b0 := eq_true c13
   have c13b1 : decide (0 ≤ x5_1) = true := decide_eq_true c13
   clear c13
   obtain ⟨c14, H⟩ := ip_ H
   have c14b0 := eq_true c14
   have c14b1 : decide (x5_1 ≤ (t275.length : Int)) = true := decide_eq_true c14
   clear c14
   obtain ⟨y282, hy282⟩ : ∃ y_ : List Int, y_ = (t275.take (x5_1 : Int).toNat) := ⟨_, rfl⟩
   replace H : ((spec_l3Table.f k1 y282 (rd t275 x5_1)).bind fun t287 => (if 0 ≤ (rd t275 x5_1) then (if (rd t275 x5_1) < (t287.length : Int) then (if (rdOf false t287 (rd t275 x5_1) = true) then (spec_l3Minimal.l0 k1 x3_1 t275 (wrap64 (x5_1 + 1))) else (if x3_1.length < 17592186044416 then (spec_l3Minimal.l0 k1 (x3_1 ++ [rd t275 x5_1]) t275 (wrap64 (x5_1 + 1))) else (none))) else (none)) else (none))) = some r := by subst hy282; exact H
   have Ny282 := Aside0.mk hy282
   clear hy282
   obtain ⟨t287, A15, H⟩ := ob_ H
   obtain ⟨c16b0, H⟩ := ipd_ H
   obtain ⟨c17b0, H⟩ := ipd_ H
   obtain ⟨bq18, hbq18⟩ : ∃ b_ : Bool, b_ = (rdOf false t287 (rd t275 x5_1)) := ⟨_, rfl⟩
   replace H : (if (bq18 = true) then (spec_l3Minimal.l0 k1 x3_1 t275 (wrap64 (x5_1 + 1))) else (if x3_1.length < 17592186044416 then (spec_l3Minimal.l0 k1 (x3_1 ++ [rd t275 x5_1]) t275 (wrap64 (x5_1 + 1))) else (none))) = some r := by rw [← hbq18] at H; exact H
   have Nbq18 := Aside0.mk hbq18
   clear hbq18
   by_cases c19 : (bq18 = true)
   · subst c19
     rw [if_pos rfl] at H
     have H' := Aside0.mk H
     clear H
     obtain ⟨Ao20, co20, eo20⟩ := Kd.R_slice HO_4.out
     subst eo20
     try go_wp2
     replace HO_3 := Aside0.mk (Kd.R_drew HO_3.out)
     replace HO_4 := Aside0.mk (Kd.R_drew HO_4.out)
     replace HB := Aside0.mk (below_drew1 HB.out)
     have q22 : (x5_1 : Int) ≤ ((t275.length : Int) : Int) := od_
     obtain ⟨i022, hi022, _, hsz22, _⟩ := info_parts info3
     have hroom22 : t275.length ≤ co20 := (Kd.R_reads' HO_4.out).2.1
     have hC22 : Kd.C (Kd.int .i64) _ Ao20 t275.length t275 := (Kd.R_reads' HO_4.out).2.2
     have hcut22 := cut_to (P := Try.prog) 24 3 .i64 Try.underlying24 hi022 Ao20 t275.length co20 x5_1 (od_) q22 hroom22
     have hr22 := Kd.C_take (m := (x5_1 : Int).toNat) hC22 (by omega)
     have hy22 : y282.length = (x5_1 : Int).toNat := (by rw [Ny282.out, List.length_take]; omega)
     rw [← Ny282.out] at hr22
     rw [← hy22] at hcut22
     have HR285 := Aside0.mk hr22
     have HC285 := Aside0.mk (show y282.length ≤ co20 from by omega)
     clear hr22 hC22 hroom22 hi022 hsz22
     have KY22 := Aside0.mk hy22
     clear hy22
     have KL22 := Aside0.mk (show (x5_1 : Int).toNat ≤ t275.length from by omega)
     replace q22 := eq_true q22
     have p286 : 0 ≤ (x5_1 : Int) := od_
     have q286 : x5_1 < (t275.length : Int) := od_
     obtain ⟨ad286, e286, hx286_0⟩ := Kd.at_int (Kd.R_reads' HO_4.out).2.2 x5_1 p286 q286
     cases e286
     replace p286 := eq_true p286
     replace q286 := eq_true q286
     have p290 : 0 ≤ (x5_1 : Int) := od_
     have q290 : x5_1 < (t275.length : Int) := od_
     obtain ⟨ad290, e290, hx290_0⟩ := Kd.at_int (Kd.R_reads' HO_4.out).2.2 x5_1 p290 q290
     obtain rfl : ad286 = ad290 := (by injection e290)
     replace p290 := eq_true p290
     replace q290 := eq_true q290
     refine start_ (n := 19) (S := fun w' => w'.cell? (ad286.add (x5_1).toNat) = some (.int .i64 (rd t275 x5_1)) ∧ w'.cell? (ad286.add (x5_1).toNat) = some (.int .i64 (rd t275 x5_1)) ∧ True) (ds := []) (B_ 0 19) (by kernel_rfl) rfl rfl ⟨hx286_0, hx290_0, trivial⟩ (fun hHeld => ?_); refine with_tabW spec_l3Minimal.tab6 spec_l3Minimal.bits6 (fun HT_ HW_ => ?_)
     generalize wr.drew = w21 at HO_3 HO_4 HB HR285 hx286_0 hx290_0 hHeld ⊢
     refine pu_ HT_ 0 15 (B_ 1 19) ?_
     refine pu_ HT_ 1 16 (B_ 3 19) ?_
     refine pu_ HT_ 2 17 (B_ 7 19) ?_
     refine pu_ HT_ 3 18 (B_ 15 19) ?_
     refine pu_ HT_ 4 19 (B_ 31 19) ?_
     refine pu_ HT_ 5 20 (B_ 63 19) ?_
     refine pu_ HT_ 6 21 (B_ 127 19) ?_
     refine pu_ HT_ 7 22 (B_ 255 19) ?_
     refine pu_ HT_ 8 23 (B_ 511 19) ?_
     refine pu_ HT_ 11 26 (B_ 2559 19) ?_
     refine pu_ HT_ 12 27 (B_ 6655 19) ?_
     refine pu_ HT_ 13 28 (B_ 14847 19) ?_
     refine tk3_ HT_ HW_ hHeld 9 24 (B_ 15359 19) ?_
     refine tk3_ HT_ HW_ hHeld 14 29 (B_ 31743 19) ?_
     refine on_ HT_ 10 25 (B_ 32767 19) (fun K hK => ?_)
     refine goes_ Try.func81 (by kernel_rfl) rfl #[.slice (some ad286) y282.length co20, .int .i64 (rd t275 x5_1)] (by rfl) rfl rfl (by (try simp only [List.map_toArray, List.map_cons, List.map_nil]); first | done | rfl | (simp only [List.length_drop, List.length_take]; rfl)) ?_
     with_reducible refine (spec_l3Table.calls k1 _ _ y282 (rd t275 x5_1) t287 _ ?side1 ?side2 A15.out).mono ?_
     (case side1 => repeat (first | exact (by repeat (first | (with_reducible exact HR285.out) | (with_reducible refine Kd.C_alloc ?_ _) | (with_reducible refine Kd.C_drewN ?_ _) | (with_reducible refine Kd.C_drew ?_) | exact HR285.out)) | (with_reducible refine Kd.C_alloc ?_ _) | (with_reducible refine Kd.C_drewN ?_ _) | (with_reducible refine Kd.C_drew ?_)))
     (case side2 => exact HC285.out)
     rintro e w23 ⟨v288, rfl, ho0, hb⟩
     have HS0_ := (hb.cell (World.block_lt_of_cell? _ _ (hHeld.1))).trans (hHeld.1)
     have HS1_ := (hb.cell (World.block_lt_of_cell? _ _ (hHeld.2.1))).trans (hHeld.2.1)
     refine ⟨_, rfl, ?_⟩
     replace HO_3 := Aside0.mk (Kd.R_below (re_ HO_3.out) hb)
     replace HO_4 := Aside0.mk (Kd.R_below (re_ HO_4.out) hb)
     have HO289 := Aside0.mk (Kd.R_lower ho0 (below_size (bl_ HB.out)))
     replace HR285 := Aside0.mk (Kd.C_below (by repeat (first | (with_reducible exact HR285.out) | (with_reducible refine Kd.C_alloc ?_ _) | (with_reducible refine Kd.C_drewN ?_ _) | (with_reducible refine Kd.C_drew ?_) | exact HR285.out)) hb)
     replace HB := bo_ HB hb
     (try clear hb)
     (try clear ho0)
     obtain ⟨Ao24, co24, eo24⟩ := Kd.R_slice HO289.out
     (first | subst eo24 | (injection eo24 with f1_ f2_ f3_; have f4_ := f1_.symm; have f5_ := f3_.symm; clear f1_ f2_ f3_; subst f4_; subst f5_))
     have p291 : 0 ≤ ((rd t275 x5_1) : Int) := od_
     have q291 : (rd t275 x5_1) < (t287.length : Int) := od_
     obtain ⟨ad291, e291, hx291_0⟩ := Kd.at_bool (Kd.R_reads' HO289.out).2.2 (rd t275 x5_1) p291 q291
     (try rw [← Nbq18.out] at hx291_0)
     cases e291
     replace p291 := eq_true p291
     replace q291 := eq_true q291
     refine hK.out _ _ ⟨HS0_, HS1_, trivial⟩ (fun _ => ?_); refine restart_ (S' := fun w' => w'.cell? (ad286.add (x5_1).toNat) = some (.int .i64 (rd t275 x5_1)) ∧ w'.cell? (ad286.add (x5_1).toNat) = some (.int .i64 (rd t275 x5_1)) ∧ w'.cell? (ad291.add ((rd t275 x5_1)).toNat) = some (.bool true)) (fun _ h => ⟨h.1, h.2.1, trivial⟩) ⟨HS0_, HS1_, hx291_0⟩ (fun hHeld => ?_)
     clear hK K
     refine norm_ (a' := ?_) ?_ ?_
     rotate_left
     · show Act.put _ (some 25) _ = _
       simp only [Act.put, z1_, z2_, z3_, i64_w, i32_w]
       rfl
     refine pu_ HT_ 15 30 (B_ 65535 19) ?_
     refine tk3_ HT_ HW_ hHeld 16 31 (B_ 131071 19) ?_
     refine pu_ HT_ 17 32 (B_ 262143 19) ?_
     refine pu_ HT_ 18 33 (B_ 524287 19) ?_
     refine done_ (done_of HT_.out (by kernel_rfl)) ?_
     try go_wp2
     go_roundg k1
     case measure => have := HK1.out; omega
     case rel => exact ⟨(x3_1), (wrap64 (x5_1 + 1)), rs_, H', ⟨by have := HK1.out; omega⟩, ⟨re_ HO_3.out⟩, ⟨re_ HO_4.out⟩, ⟨bl_ HB.out⟩⟩
   replace c19 := Bool.eq_false_iff.mpr c19
   subst c19
   rw [if_neg (show ¬ (false = true) by decide)] at H
   obtain ⟨c25, H⟩ := ip_ H
   have LMc25 := Aside0.mk c25
   clear c25
   obtain ⟨y293, hy293⟩ : ∃ y_ : List Int, y_ = (x3_1 ++ [rd t275 x5_1]) := ⟨_, rfl⟩
   replace H : (spec_l3Minimal.l0 k1 y293 t275 (wrap64 (x5_1 + 1))) = some r := by subst hy293; exact H
   have Ny293 := Aside0.mk hy293
   clear hy293
   have H' := Aside0.mk H
   clear H
   obtain ⟨Ao26, co26, eo26⟩ := Kd.R_slice HO_4.out
   subst eo26
   try go_wp2
   replace HO_3 := Aside0.mk (Kd.R_drew HO_3.out)
   replace HO_4 := Aside0.mk (Kd.R_drew HO_4.out)
   replace HB := Aside0.mk (below_drew1 HB.out)
   have q28 : (x5_1 : Int) ≤ ((t275.length : Int) : Int) := od_
   obtain ⟨i028, hi028, _, hsz28, _⟩ := info_parts info3
   have hroom28 : t275.length ≤ co26 := (Kd.R_reads' HO_4.out).2.1
   have hC28 : Kd.C (Kd.int .i64) _ Ao26 t275.length t275 := (Kd.R_reads' HO_4.out).2.2
   have hcut28 := cut_to (P := Try.prog) 24 3 .i64 Try.underlying24 hi028 Ao26 t275.length co26 x5_1 (od_) q28 hroom28
   have hr28 := Kd.C_take (m := (x5_1 : Int).toNat) hC28 (by omega)
   have hy28 : y282.length = (x5_1 : Int).toNat := (by rw [Ny282.out, List.length_take]; omega)
   rw [← Ny282.out] at hr28
   rw [← hy28] at hcut28
   have HR285 := Aside0.mk hr28
   have HC285 := Aside0.mk (show y282.length ≤ co26 from by omega)
   clear hr28 hC28 hroom28 hi028 hsz28
   have KY28 := Aside0.mk hy28
   clear hy28
   have KL28 := Aside0.mk (show (x5_1 : Int).toNat ≤ t275.length from by omega)
   replace q28 := eq_true q28
   have p286 : 0 ≤ (x5_1 : Int) := od_
   have q286 : x5_1 < (t275.length : Int) := od_
   obtain ⟨ad286, e286, hx286_0⟩ := Kd.at_int (Kd.R_reads' HO_4.out).2.2 x5_1 p286 q286
   cases e286
   replace p286 := eq_true p286
   replace q286 := eq_true q286
   have p290 : 0 ≤ (x5_1 : Int) := od_
   have q290 : x5_1 < (t275.length : Int) := od_
   obtain ⟨ad290, e290, hx290_0⟩ := Kd.at_int (Kd.R_reads' HO_4.out).2.2 x5_1 p290 q290
   obtain rfl : ad286 = ad290 := (by injection e290)
   replace p290 := eq_true p290
   replace q290 := eq_true q290
   refine start_ (n := 19) (S := fun w' => w'.cell? (ad286.add (x5_1).toNat) = some (.int .i64 (rd t275 x5_1)) ∧ w'.cell? (ad286.add (x5_1).toNat) = some (.int .i64 (rd t275 x5_1)) ∧ True) (ds := []) (B_ 0 19) (by kernel_rfl) rfl rfl ⟨hx286_0, hx290_0, trivial⟩ (fun hHeld => ?_); refine with_tabW spec_l3Minimal.tab6 spec_l3Minimal.bits6 (fun HT_ HW_ => ?_)
   generalize wr.drew = w27 at HO_3 HO_4 HB HR285 hx286_0 hx290_0 hHeld ⊢
   refine pu_ HT_ 0 15 (B_ 1 19) ?_
   refine pu_ HT_ 1 16 (B_ 3 19) ?_
   refine pu_ HT_ 2 17 (B_ 7 19) ?_
   refine pu_ HT_ 3 18 (B_ 15 19) ?_
   refine pu_ HT_ 4 19 (B_ 31 19) ?_
   refine pu_ HT_ 5 20 (B_ 63 19) ?_
   refine pu_ HT_ 6 21 (B_ 127 19) ?_
   refine pu_ HT_ 7 22 (B_ 255 19) ?_
   refine pu_ HT_ 8 23 (B_ 511 19) ?_
   refine pu_ HT_ 11 26 (B_ 2559 19) ?_
   refine pu_ HT_ 12 27 (B_ 6655 19) ?_
   refine pu_ HT_ 13 28 (B_ 14847 19) ?_
   refine tk3_ HT_ HW_ hHeld 9 24 (B_ 15359 19) ?_
   refine tk3_ HT_ HW_ hHeld 14 29 (B_ 31743 19) ?_
   refine on_ HT_ 10 25 (B_ 32767 19) (fun K hK => ?_)
   refine goes_ Try.func81 (by kernel_rfl) rfl #[.slice (some ad286) y282.length co26, .int .i64 (rd t275 x5_1)] (by rfl) rfl rfl (by (try simp only [List.map_toArray, List.map_cons, List.map_nil]); first | done | rfl | (simp only [List.length_drop, List.length_take]; rfl)) ?_
   with_reducible refine (spec_l3Table.calls k1 _ _ y282 (rd t275 x5_1) t287 _ ?side1 ?side2 A15.out).mono ?_
   (case side1 => repeat (first | exact (by repeat (first | (with_reducible exact HR285.out) | (with_reducible refine Kd.C_alloc ?_ _) | (with_reducible refine Kd.C_drewN ?_ _) | (with_reducible refine Kd.C_drew ?_) | exact HR285.out)) | (with_reducible refine Kd.C_alloc ?_ _) | (with_reducible refine Kd.C_drewN ?_ _) | (with_reducible refine Kd.C_drew ?_)))
   (case side2 => exact HC285.out)
   rintro e w29 ⟨v288, rfl, ho0, hb⟩
   have HS0_ := (hb.cell (World.block_lt_of_cell? _ _ (hHeld.1))).trans (hHeld.1)
   have HS1_ := (hb.cell (World.block_lt_of_cell? _ _ (hHeld.2.1))).trans (hHeld.2.1)
   refine ⟨_, rfl, ?_⟩
   replace HO_3 := Aside0.mk (Kd.R_below (re_ HO_3.out) hb)
   replace HO_4 := Aside0.mk (Kd.R_below (re_ HO_4.out) hb)
   have HO289 := Aside0.mk (Kd.R_lower ho0 (below_size (bl_ HB.out)))
   replace HR285 := Aside0.mk (Kd.C_below (by repeat (first | (with_reducible exact HR285.out) | (with_reducible refine Kd.C_alloc ?_ _) | (with_reducible refine Kd.C_drewN ?_ _) | (with_reducible refine Kd.C_drew ?_) | exact HR285.out)) hb)
   replace HB := bo_ HB hb
   (try clear hb)
   (try clear ho0)
   obtain ⟨Ao30, co30, eo30⟩ := Kd.R_slice HO289.out
   (first | subst eo30 | (injection eo30 with f1_ f2_ f3_; have f4_ := f1_.symm; have f5_ := f3_.symm; clear f1_ f2_ f3_; subst f4_; subst f5_))
   have p291 : 0 ≤ ((rd t275 x5_1) : Int) := od_
   have q291 : (rd t275 x5_1) < (t287.length : Int) := od_
   obtain ⟨ad291, e291, hx291_0⟩ := Kd.at_bool (Kd.R_reads' HO289.out).2.2 (rd t275 x5_1) p291 q291
   (try rw [← Nbq18.out] at hx291_0)
   cases e291
   replace p291 := eq_true p291
   replace q291 := eq_true q291
   refine hK.out _ _ ⟨HS0_, HS1_, trivial⟩ (fun _ => ?_); refine restart_ (S' := fun w' => w'.cell? (ad286.add (x5_1).toNat) = some (.int .i64 (rd t275 x5_1)) ∧ w'.cell? (ad286.add (x5_1).toNat) = some (.int .i64 (rd t275 x5_1)) ∧ w'.cell? (ad291.add ((rd t275 x5_1)).toNat) = some (.bool false)) (fun _ h => ⟨h.1, h.2.1, trivial⟩) ⟨HS0_, HS1_, hx291_0⟩ (fun hHeld => ?_)
   clear hK K
   refine norm_ (a' := ?_) ?_ ?_
   rotate_left
   · show Act.put _ (some 25) _ = _
     simp only [Act.put, z1_, z2_, z3_, i64_w, i32_w]
     rfl
   refine pu_ HT_ 15 30 (B_ 65535 19) ?_
   refine tk3_ HT_ HW_ hHeld 16 31 (B_ 131071 19) ?_
   refine pu_ HT_ 17 32 (B_ 262143 19) ?_
   refine pu_ HT_ 18 33 (B_ 524287 19) ?_
   refine done_ (done_of HT_.out (by kernel_rfl)) ?_
   have p292 : 0 ≤ (x5_1 : Int) := od_
   have q292 : x5_1 < (t275.length : Int) := od_
   obtain ⟨ad292, e292, hx292_0⟩ := Kd.at_int (Kd.R_reads' HO_4.out).2.2 x5_1 p292 q292
   obtain rfl : ad286 = ad292 := (by injection e292)
   replace p292 := eq_true p292
   replace q292 := eq_true q292
   try go_wp2_with (first | ((with_reducible refine gate_builtin (b := .append) (xs := #[.tmp 34, .tmp 39]) rfl ?_); at_builtin; refine Kd.R_append (Kd.int .i64) (w0 := w) w.heap.size rfl (.tmp 34) (.tmp 39) 24 3 (.int .i64 0) 8 rfl Try.underlying24 info3 rfl (by decide) (by omega) u3 x3_1 (rd t275 x5_1) [.int .i64 (rd t275 x5_1)] (fun k_ => some k_ ≠ (.slice (some ad286) t275.length co26 : Value).ownBlock) (fun _ => False) rfl rfl ?aP (fun _ hk => hk.elim) ?aF ?aO ?aB ?aS ?aL ?_; (case aP => exact rfl); (case aB => exact (bl_ HB.out)); (case aF => exact (fun k_ hk => Kd.fresh' (Kd.R_lt (re_ HO_4.out)) k_ hk)); (case aO => exact (re_ HO_3.out)); (case aS => exact (below_size (bl_ HB.out))); (case aL => have := LMc25.out; omega); intro v294 w31 ho hb hg hat; rw [← Ny293.out] at ho; replace HO289 := Aside0.mk (Kd.R_over' (re_ HO289.out) (Kd.R_typed (re_ HO_3.out)) (by decide) hg); replace HB := Aside0.mk (hb); replace HR285 := Aside0.mk ((show Kd.C (Kd.int .i64) w31 (some ad286) y282.length y282 from by rw [Ny282.out]; exact Kd.C_take (m := (x5_1 : Int).toNat) ((Kd.R_reads' (Kd.R_after (ok := (fun _ => True)) (by (with_reducible repeat (first | apply Kd.R_alloc | apply Kd.R_drewN | apply Kd.R_drew)); exact Kd.R_mono HO_4.out (fun _ hk => ⟨trivial, hk⟩)) hg hat)).2.2) KL28.out)); replace HO_4 := Aside0.mk (Kd.R_after (ok := (fun _ => True)) (by (with_reducible repeat (first | apply Kd.R_alloc | apply Kd.R_drewN | apply Kd.R_drew)); exact Kd.R_mono HO_4.out (fun _ hk => ⟨trivial, hk⟩)) hg hat); have HO295 := Aside0.mk (ho); clear HO_3; clear ho hb hg hat))
   go_roundg k1
   case measure => have := HK1.out; omega
   case rel => exact ⟨(y293), (wrap64 (x5_1 + 1)), rs_, H', ⟨by have := HK1.out; omega⟩, ⟨re_ HO295.out⟩, ⟨by (with_reducible repeat (first | apply Kd.R_alloc | apply Kd.R_drewN | apply Kd.R_drew)); exact Kd.R_mono HO_4.out (fun _ hk => hk.2)⟩, ⟨bl_ HB.out⟩⟩
def spec_l3Ends.l0 : Nat → List Int → List Bool → Int → Option (Bool)
 | 0, _, _, _ => none
 | k + 1, x0, x3, x4 => if 0 < (x0.length : Int) then (if x4 < (wrap64 (200 + (rd x0 0))) then (if 0 ≤ x4 then (if x4 < (x3.length : Int) then (if rdOf false x3 x4 = true then (spec_l3Ends.l0 k x0 x3 (wrap64 (x4 + 1))) else (some false)) else (none)) else (none)) else (some true)) else (none)
def spec_l3Ends.f (k : Nat) (l0 : List Int) : Option (Bool) := (spec_l3Table.f k l0 260).bind fun t296 => (spec_l3Ends.l0 k l0 t296 200)
theorem spec_l3Ends.mono_l : ∀ k, (∀ y0 y1 y2, LeO (spec_l3Ends.l0 k y0 y1 y2) (spec_l3Ends.l0 (k + 1) y0 y1 y2))
 | 0 => fun _ _ _ r h => by simp [spec_l3Ends.l0] at h
 | k + 1 => by
  have ih0 := spec_l3Ends.mono_l k
  · intro y0 y1 y2
    unfold spec_l3Ends.l0
    repeat' first
    | (with_reducible exact ih0 _ _ _)
    | (with_reducible exact spec_l3Table.mono _ _ _)
    | (with_reducible exact LeO.refl _)
    | (with_reducible exact LeO.none _)
    | (with_reducible refine LeO.ite ?_ ?_)
    | (with_reducible refine LeO.bind ?_ (fun _ => ?_))
    | exact ih0 _ _ _
    | exact LeO.none _
    | refine LeO.ite ?_ ?_
    | refine LeO.bind ?_ (fun _ => ?_)
theorem spec_l3Ends.mono : ∀ a0 k, LeO (spec_l3Ends.f k a0) (spec_l3Ends.f (k + 1) a0) := by
 intro a0 k
 have ih0 := spec_l3Ends.mono_l k
 unfold spec_l3Ends.f
 repeat' first
  | (with_reducible exact ih0 _ _ _)
  | (with_reducible exact spec_l3Table.mono _ _ _)
  | (with_reducible exact LeO.refl _)
  | (with_reducible exact LeO.none _)
  | (with_reducible refine LeO.ite ?_ ?_)
  | (with_reducible refine LeO.bind ?_ (fun _ => ?_))
  | exact ih0 _ _ _
  | exact LeO.none _
  | refine LeO.ite ?_ ?_
  | refine LeO.bind ?_ (fun _ => ?_)
theorem spec_l3Ends.calls (k : Nat) (A0 : Option Addr) (c0 : Nat) (l0 : List Int) (r : Bool) (w : World) (hr0 : Kd.C (Kd.int .i64) w A0 l0.length l0) (hc0 : l0.length ≤ c0) (h : spec_l3Ends.f k l0 = some r) :
 Calls Try.prog 51 #[.slice A0 l0.length c0] w fun e w' => e = .returned (.bool r) ∧ Below w.heap.size w w' := by
 have HR0 := Aside0.mk hr0
 have HC0 := Aside0.mk hc0
 clear hr0 hc0
 have HB := Aside0.mk (Below.refl w.heap.size w)
 have H := h
 clear h
 unfold spec_l3Ends.f at H
 obtain ⟨t296, A2, H⟩ := ob_ H
 have H' := Aside0.mk H
 clear H
 go_enter Try.func51, Try.ntmps51
 go_wp2_with (first | ((with_reducible refine gate_callee (f := 81) rfl ?_); refine gL_ (some 6) Try.func81 #[.slice A0 l0.length c0, .int .i64 260] ?_; (with_reducible refine (spec_l3Table.calls k _ _ l0 260 t296 _ ?side1 ?side2 A2.out).mono ?_); (case side1 => exact ce_ (HR0.out)); (case side2 => exact HC0.out); rintro e w3 ⟨v297, rfl, ho0, hb⟩; refine ⟨_, rfl, ?_⟩; have HO298 := Aside0.mk (Kd.R_lower ho0 (below_size (bl_ HB.out))); replace HB := bo_ HB hb; (try clear hb); (try clear ho0)))
 go_loopg [4] k (fun kq v4 w' => ∃ (x4_1 : Int), v4 = .int .i64 x4_1 ∧ Aside0 (spec_l3Ends.l0 kq l0 t296 x4_1 = some r) ∧ Aside0 (kq ≤ k) ∧ Aside0 (Kd.R Kd.bool 4 w' w.heap.size (fun _ => True) v297 t296) ∧ Aside0 (Below w.heap.size w w'))
 case atStart => exact ⟨(200), rs_, H', ⟨Nat.le_refl _⟩, ⟨re_ HO298.out⟩, ⟨bl_ HB.out⟩⟩
 case round =>
  clear H'
  obtain ⟨x4_1, rfl, HA, HK1, HO_3, HB⟩ := hrel
  cases gk with
  | zero => exact absurd HA.out (by simp [spec_l3Ends.l0])
  | succ k1 =>
   have H := HA.out
   clear HA
   simp only [spec_l3Ends.l0] at H
   obtain ⟨c4, H⟩ := ip_ H
   have c4b0 : decide (0 < (l0.length : Int)) = true := decide_eq_true c4
   have c4b1 : decide (0 < l0.length) = true := decide_eq_true (by omega)
   clear c4
   by_cases c5 : x4_1 < (wrap64 (200 + (rd l0 0)))
   rotate_left
   · rw [if_neg c5] at H
     have c5b0 : decide (x4_1 < (wrap64 (200 + (rd l0 0)))) = false := decide_eq_false c5
     clear c5
     obtain rfl := Option.some.inj H
     have p299 : 0 ≤ (0 : Int) := (by omega)
     have q299 : 0 < (l0.length : Int) := od_
     obtain ⟨ad299, e299, hx299_0⟩ := Kd.at_int HR0.out 0 p299 q299
     cases e299
     have qi299 : (0 < l0.length) = True := eq_true (by omega)
     (try rw [show ((0 : Int)).toNat = 0 from rfl] at hx299_0)
     (try rw [Addr.add_zero'] at hx299_0)
     (try replace hx299_0 := (HB.out.cell (World.block_lt_of_cell? w _ hx299_0)).trans hx299_0)
     replace p299 := eq_true p299
     replace q299 := eq_true q299
     go_wp2
     go_ret
     exact ⟨rf_, bl_ HB.out⟩
   rw [if_pos c5] at H
   have c5b0 : decide (x4_1 < (wrap64 (200 + (rd l0 0)))) = true := decide_eq_true c5
   clear c5
   obtain ⟨c6b0, H⟩ := ipd_ H
   obtain ⟨c7b0, H⟩ := ipd_ H
   obtain ⟨bq8, hbq8⟩ : ∃ b_ : Bool, b_ = (rdOf false t296 x4_1) := ⟨_, rfl⟩
   replace H : (if bq8 = true then (spec_l3Ends.l0 k1 l0 t296 (wrap64 (x4_1 + 1))) else (some false)) = some r := by rw [← hbq8] at H; exact H
   have Nbq8 := Aside0.mk hbq8
   clear hbq8
   by_cases c9 : bq8 = true
   rotate_left
   · replace c9 := Bool.eq_false_iff.mpr c9
     subst c9
     rw [if_neg (show ¬ (false = true) by decide)] at H
     obtain rfl := Option.some.inj H
     have p299 : 0 ≤ (0 : Int) := (by omega)
     have q299 : 0 < (l0.length : Int) := od_
     obtain ⟨ad299, e299, hx299_0⟩ := Kd.at_int HR0.out 0 p299 q299
     cases e299
     have qi299 : (0 < l0.length) = True := eq_true (by omega)
     (try rw [show ((0 : Int)).toNat = 0 from rfl] at hx299_0)
     (try rw [Addr.add_zero'] at hx299_0)
     (try replace hx299_0 := (HB.out.cell (World.block_lt_of_cell? w _ hx299_0)).trans hx299_0)
     replace p299 := eq_true p299
     replace q299 := eq_true q299
     obtain ⟨Ao11, co11, eo11⟩ := Kd.R_slice HO_3.out
     subst eo11
     have p300 : 0 ≤ (x4_1 : Int) := od_
     have q300 : x4_1 < (t296.length : Int) := od_
     obtain ⟨ad300, e300, hx300_0⟩ := Kd.at_bool (Kd.R_reads' HO_3.out).2.2 x4_1 p300 q300
     (try rw [← Nbq8.out] at hx300_0)
     cases e300
     replace p300 := eq_true p300
     replace q300 := eq_true q300
     go_wp2
     go_ret
     exact ⟨rf_, bl_ HB.out⟩
   subst c9
   rw [if_pos rfl] at H
   have H' := Aside0.mk H
   clear H
   have p299 : 0 ≤ (0 : Int) := (by omega)
   have q299 : 0 < (l0.length : Int) := od_
   obtain ⟨ad299, e299, hx299_0⟩ := Kd.at_int HR0.out 0 p299 q299
   cases e299
   have qi299 : (0 < l0.length) = True := eq_true (by omega)
   (try rw [show ((0 : Int)).toNat = 0 from rfl] at hx299_0)
   (try rw [Addr.add_zero'] at hx299_0)
   (try replace hx299_0 := (HB.out.cell (World.block_lt_of_cell? w _ hx299_0)).trans hx299_0)
   replace p299 := eq_true p299
   replace q299 := eq_true q299
   obtain ⟨Ao10, co10, eo10⟩ := Kd.R_slice HO_3.out
   subst eo10
   have p300 : 0 ≤ (x4_1 : Int) := od_
   have q300 : x4_1 < (t296.length : Int) := od_
   obtain ⟨ad300, e300, hx300_0⟩ := Kd.at_bool (Kd.R_reads' HO_3.out).2.2 x4_1 p300 q300
   (try rw [← Nbq8.out] at hx300_0)
   cases e300
   replace p300 := eq_true p300
   replace q300 := eq_true q300
   go_wp2
   go_roundg k1
   case measure => have := HK1.out; omega
   case rel => exact ⟨(wrap64 (x4_1 + 1)), rs_, H', ⟨by have := HK1.out; omega⟩, ⟨re_ HO_3.out⟩, ⟨bl_ HB.out⟩⟩
end Go.Proofs.Ytonknpgfbkgbjaa.PC
end
