-- Bundled by shake.py from this session's printed and written texts; Lean checks it.
import Derived.Test.YteaiehpgigaoaaaGreatDoorZFnExamplesx1
import Derived.Test.YteaiehpgigaoaaaGreatDoorZFnExamplesx2
section
namespace Go.Proofs.YteaiehpgigaoaaaGreatDoor.PB
open Go.RowKit Go.Proofs.YteaiehpgigaoaaaGreatDoorW.PrintWords Go.Proofs.YteaiehpgigaoaaaGreatDoorW.PrintLast Go.Proofs.YteaiehpgigaoaaaGreatDoorW.PrintMore
attribute [local go_sem] max2_int min2_int max_two min_two max_three min_three max_four min_four
set_option linter.unusedVariables false
set_option linter.unusedSimpArgs false
set_option maxHeartbeats 8000000
set_option maxRecDepth 100000
mutual
def spec_l3Table.l0 : Nat → List Int → Int → List Bool → Int → Option (List Bool)
 | 0, _, _, _, _ => none
 | k + 1, x0, x1, x5, x6 => if x6 ≤ x1 then (spec_l3Table.l1 k x0 x1 x5 x6 0) else (some x5)
def spec_l3Table.l1 : Nat → List Int → Int → List Bool → Int → Int → Option (List Bool)
 | 0, _, _, _, _, _ => none
 | k + 1, x0, x1, x5, x6, x7 => if x7 < (x0.length : Int) then (if 0 ≤ x7 then (if x6 ≥ (rd x0 x7) then (if 0 ≤ (wrap64 (x6 - (rd x0 x7))) then (if (wrap64 (x6 - (rd x0 x7))) < (x5.length : Int) then (if rdOf false x5 (wrap64 (x6 - (rd x0 x7))) = true then (if 0 ≤ x6 then (if x6 < (x5.length : Int) then (spec_l3Table.l1 k x0 x1 (x5.set (x6 : Int).toNat true) x6 (wrap64 (x7 + 1))) else (none)) else (none)) else (spec_l3Table.l1 k x0 x1 x5 x6 (wrap64 (x7 + 1)))) else (none)) else (none)) else (spec_l3Table.l1 k x0 x1 x5 x6 (wrap64 (x7 + 1)))) else (none)) else (spec_l3Table.l0 k x0 x1 x5 (wrap64 (x6 + 1)))
end
def spec_l3Table.f (k : Nat) (l0 : List Int) (a1 : Int) : Option (List Bool) := if 0 ≤ (wrap64 (a1 + 1)) then (if (wrap64 (a1 + 1) : Int).toNat ≤ 281474976710656 then ((some (List.replicate (wrap64 (a1 + 1) : Int).toNat false : List Bool)).bind fun y196 => (if 0 < (y196.length : Int) then (spec_l3Table.l0 k l0 a1 (y196.set (0 : Int).toNat true) 1) else (none))) else (none)) else (none)
theorem spec_l3Table.mono_l : ∀ k, (∀ y0 y1 y2 y3, LeO (spec_l3Table.l0 k y0 y1 y2 y3) (spec_l3Table.l0 (k + 1) y0 y1 y2 y3)) ∧ (∀ y0 y1 y2 y3 y4, LeO (spec_l3Table.l1 k y0 y1 y2 y3 y4) (spec_l3Table.l1 (k + 1) y0 y1 y2 y3 y4))
 | 0 => ⟨fun _ _ _ _ r h => by simp [spec_l3Table.l0] at h, fun _ _ _ _ _ r h => by simp [spec_l3Table.l1] at h⟩
 | k + 1 => by
  obtain ⟨ih0, ih1⟩ := spec_l3Table.mono_l k
  refine ⟨?_, ?_⟩
  · intro y0 y1 y2 y3
    unfold spec_l3Table.l0
    repeat' first
    | (with_reducible exact ih0 _ _ _ _)
    | (with_reducible exact ih1 _ _ _ _ _)
    | (with_reducible exact LeO.refl _)
    | (with_reducible exact LeO.none _)
    | (with_reducible refine LeO.ite ?_ ?_)
    | (with_reducible refine LeO.bind ?_ (fun _ => ?_))
    | exact ih0 _ _ _ _
    | exact ih1 _ _ _ _ _
    | exact LeO.none _
    | refine LeO.ite ?_ ?_
    | refine LeO.bind ?_ (fun _ => ?_)
  · intro y0 y1 y2 y3 y4
    unfold spec_l3Table.l1
    repeat' first
    | (with_reducible exact ih0 _ _ _ _)
    | (with_reducible exact ih1 _ _ _ _ _)
    | (with_reducible exact LeO.refl _)
    | (with_reducible exact LeO.none _)
    | (with_reducible refine LeO.ite ?_ ?_)
    | (with_reducible refine LeO.bind ?_ (fun _ => ?_))
    | exact ih0 _ _ _ _
    | exact ih1 _ _ _ _ _
    | exact LeO.none _
    | refine LeO.ite ?_ ?_
    | refine LeO.bind ?_ (fun _ => ?_)
theorem spec_l3Table.mono : ∀ a0 a1 k, LeO (spec_l3Table.f k a0 a1) (spec_l3Table.f (k + 1) a0 a1) := by
 intro a0 a1 k
 obtain ⟨ih0, ih1⟩ := spec_l3Table.mono_l k
 unfold spec_l3Table.f
 repeat' first
  | (with_reducible exact ih0 _ _ _ _)
  | (with_reducible exact ih1 _ _ _ _ _)
  | (with_reducible exact LeO.refl _)
  | (with_reducible exact LeO.none _)
  | (with_reducible refine LeO.ite ?_ ?_)
  | (with_reducible refine LeO.bind ?_ (fun _ => ?_))
  | exact ih0 _ _ _ _
  | exact ih1 _ _ _ _ _
  | exact LeO.none _
  | refine LeO.ite ?_ ?_
  | refine LeO.bind ?_ (fun _ => ?_)
theorem spec_l3Table.calls (k : Nat) (A0 : Option Addr) (c0 : Nat) (l0 : List Int) (a1 : Int) (r : List Bool) (w : World) (hr0 : Kd.C (Kd.int .i64) w A0 l0.length l0) (hc0 : l0.length ≤ c0) (h : spec_l3Table.f k l0 a1 = some r) :
 Calls Tryz.prog 101 #[.slice A0 l0.length c0, .int .i64 a1] w fun e w' => ∃ v0_ : Value, e = .returned (v0_) ∧ Kd.R Kd.bool 4 w' w.heap.size (fun _ => True) v0_ r ∧ Below w.heap.size w w' := by
 have HR0 := Aside0.mk hr0
 have HC0 := Aside0.mk hc0
 clear hr0 hc0
 have HB := Aside0.mk (Below.refl w.heap.size w)
 have H := h
 clear h
 unfold spec_l3Table.f at H
 obtain ⟨ji3, hji3⟩ : ∃ j_ : Int, (wrap64 (a1 + 1)) = j_ := ⟨_, rfl⟩
 replace H : (if 0 ≤ (ji3) then (if (ji3 : Int).toNat ≤ 281474976710656 then ((some (List.replicate (ji3 : Int).toNat false : List Bool)).bind fun y196 => (if 0 < (y196.length : Int) then (spec_l3Table.l0 k l0 a1 (y196.set (0 : Int).toNat true) 1) else (none))) else (none)) else (none)) = some r := by first | (rw [hji3] at H; exact H) | (simp only [hji3] at H ⊢; exact H)
 have hji3w : (IntKind.i64.wrap (a1 + 1)) = ji3 := (i64_w _).trans hji3
 by_cases c4 : 0 ≤ (ji3)
 · rw [if_pos c4] at H
   have c4b0 := eq_true c4
   have c4b1 : decide (0 ≤ (ji3)) = true := decide_eq_true c4
   clear c4
   by_cases c5 : (ji3 : Int).toNat ≤ 281474976710656
   · rw [if_pos c5] at H
     have c5b0 := eq_true c5
     have c5b1 : decide ((ji3 : Int).toNat ≤ 281474976710656) = true := decide_eq_true c5
     clear c5
     obtain ⟨y196, hy196⟩ : ∃ y_ : List Bool, y_ = (List.replicate (ji3 : Int).toNat false) := ⟨_, rfl⟩
     replace H : (if 0 < (y196.length : Int) then (spec_l3Table.l0 k l0 a1 (y196.set (0 : Int).toNat true) 1) else (none)) = some r := by subst hy196; exact H
     have Ny196 := Aside0.mk hy196
     clear hy196
     by_cases c6 : 0 < (y196.length : Int)
     · rw [if_pos c6] at H
       have c6b0 : decide (0 < (y196.length : Int)) = true := decide_eq_true c6
       have c6b1 : decide (0 < y196.length) = true := decide_eq_true (by omega)
       clear c6
       obtain ⟨y199, hy199⟩ : ∃ y_ : List Bool, y_ = (y196.set (0 : Int).toNat true) := ⟨_, rfl⟩
       replace H : (spec_l3Table.l0 k l0 a1 y199 1) = some r := by subst hy199; exact H
       have Ny199 := Aside0.mk hy199
       clear hy199
       have H' := Aside0.mk H
       clear H
       go_enter Tryz.func101, Tryz.ntmps101
       go_wp2_with (first | ((with_reducible refine gate_dst (N := 10) rfl ?_); refine Kd.R_make Kd.bool _ 4 rfl (N := 10) rfl 63 _ _ rfl ji3 rfl rfl Tryz.underlying63 (.bool false) 1 info4 rfl (by decide) (by omega) false (ok := fun _ => True) (okp := fun _ => True) rfl (fun _ hk => hk) trivial (od_) (Nat.le_trans (Nat.mul_le_mul_right _ (od_ : ji3.toNat ≤ 281474976710656)) (by omega)) (Below.refl _ _) (Nat.le_refl _) ?_; intro v197 w8 ho9 hb hg_ hnew_; clear hg_ hnew_; (first | rw [← Ny196.out] at ho9 | (simp only [Int.reduceToNat] at ho9; rw [← Ny196.out] at ho9)); have HO198 := Aside0.mk (Kd.R_lower ho9 (below_size (bl_ HB.out))); replace HB := bo_ HB hb; clear hb ho9; have p7 : 0 ≤ (0 : Int) := (by omega); have q7 : (0 : Int) < ((y196.length : Int) : Int) := od_; have qi7 : (0 < y196.length) = True := eq_true (by omega); obtain ⟨go7, co7, eo7, gb7, gl7, cl7, HG7⟩ := Kd.R_form HO198.out (by omega); (first | cases eo7 | (injection eo7 with ea_ en_ ec_; (first | subst ea_ | (injection ea_ with ea_; subst ea_)); subst ec_; clear en_)); have GB7 := Aside0.mk gb7; have GG7 := Aside0.mk HG7; clear gb7 gl7 HG7; obtain ⟨hx7_0, hf7_0⟩ := Kd.R_celln false HO198.out (0 : Int) p7 q7; (try rw [show ((0 : Int)).toNat = 0 from rfl] at hx7_0); (try simp only [Nat.reduceMul, Nat.zero_mul, Nat.zero_add, Nat.reduceAdd] at hx7_0); (try rw [show ((0 : Int)).toNat = 0 from rfl] at hf7_0); (try simp only [Nat.reduceMul, Nat.zero_mul, Nat.zero_add, Nat.reduceAdd] at hf7_0); replace p7 := eq_true p7; replace q7 := eq_true q7; obtain ⟨hy10_, hz10_⟩ := Kd.R_celln false HO198.out (0 : Int) (by omega) (od_); (try simp only [Int.reduceToNat, Int.toNat_zero, Int.toNat_ofNat, Nat.reduceMul, Nat.zero_mul, Nat.zero_add] at hy10_ hz10_); (try rw [show ((0 : Int)).toNat = 0 from rfl] at hy10_); (try rw [show ((0 : Int)).toNat = 0 from rfl] at hz10_); have HP10 := Kd.R_putg HO198.out (0 : Int) true) | ((with_reducible refine gate_store (t := 4) (p := 12) rfl ?_); refine store_event (t := 4) (p := 12) (v := ?vo_w11) (w1 := (w8.setCell ⟨go7, (0 : Int).toNat, none⟩ (.bool true))) ?hg ?ho ?hn ?hr ?_; (case ho => rfl); (case hg => rfl); (case hn => rfl); (case hr => first | (go_simp; done) | (go_simp; rfl)); intro w11 hw; have hg : w8.grownBy w11 (some go7) := (by rw [hw]; exact HP10.2); have hp_ : Kd.R Kd.bool 4 w11 w.heap.size (fun _ => True) (.slice (some ⟨go7, 0, none⟩) y196.length co7) y199 := (by rw [hw, Ny199.out]; exact HP10.1); clear HP10; replace HO198 := Aside0.mk (hp_); replace HB := Aside0.mk ((by rw [hw]; exact below_set (HB.out) GB7.out : Below w.heap.size w w11)); clear hg hw hp_))
       go_loopg [6] k (fun kq v6 w' => ∃ (x5_1 : List Bool) (x6_1 : Int), v6 = .int .i64 x6_1 ∧ Aside0 (spec_l3Table.l0 kq l0 a1 x5_1 x6_1 = some r) ∧ Aside0 (kq ≤ k) ∧ Aside0 (Kd.R Kd.bool 4 w' w.heap.size (fun _ => True) (.slice (some ⟨go7, 0, none⟩) y196.length co7) x5_1) ∧ Aside0 (Below w.heap.size w w'))
       case atStart => exact ⟨(y199), (1), rs_, H', ⟨Nat.le_refl _⟩, ⟨re_ HO198.out⟩, ⟨bl_ HB.out⟩⟩
       case round =>
        clear H'
        try clear c1
        try clear p2
        try clear c4
        try clear c4b0
        try clear c4b1
        try clear c5
        try clear c5b0
        try clear c5b1
        try clear c6
        try clear c6b0
        try clear c6b1
        try clear p6
        try clear p7
        try clear q7
        try clear hx7
        try clear qi7
        try clear hf7
        try clear c10
        try clear hx7_0
        try clear p7
        try clear q7
        obtain ⟨x5_1, x6_1, rfl, HA, HK1, HO_5, HB⟩ := hrel
        have hl5_1 := (Kd.R_reads' HO_5.out).1
        rw [hl5_1] at HO_5
        (try simp only [hl5_1])
        cases gk with
        | zero => exact absurd HA.out (by simp [spec_l3Table.l0])
        | succ k1 =>
         have H := HA.out
         clear HA
         simp only [spec_l3Table.l0] at H
         by_cases c12 : x6_1 ≤ a1
         · rw [if_pos c12] at H
           have c12b0 : decide (x6_1 ≤ a1) = true := decide_eq_true c12
           clear c12
           have H' := Aside0.mk H
           clear H
           go_wp2
           go_loopg [7] k1 (fun kq v7 w' => ∃ (x5_2 : List Bool) (x7_2 : Int), v7 = .int .i64 x7_2 ∧ Aside0 (spec_l3Table.l1 kq l0 a1 x5_2 x6_1 x7_2 = some r) ∧ Aside0 (kq ≤ k1) ∧ Aside0 (Kd.R Kd.bool 4 w' w.heap.size (fun _ => True) (.slice (some ⟨go7, 0, none⟩) x5_1.length co7) x5_2) ∧ Aside0 (Below w.heap.size w w'))
           case atStart => exact ⟨(x5_1), (0), rs_, H', ⟨Nat.le_refl _⟩, ⟨by (try simp only [hl5_1]); (with_reducible repeat (first | apply Kd.R_alloc | apply Kd.R_drewN | apply Kd.R_drew)); exact HO_5.out⟩, ⟨bl_ HB.out⟩⟩
           case round =>
            clear H'
            try clear c1
            try clear p2
            try clear c4
            try clear c4b0
            try clear c4b1
            try clear c5
            try clear c5b0
            try clear c5b1
            try clear c6
            try clear c6b0
            try clear c6b1
            try clear p6
            try clear p7
            try clear q7
            try clear hx7
            try clear qi7
            try clear hf7
            try clear c10
            try clear c12
            try clear c12b0
            try clear hx7_0
            try clear p2
            try clear p6
            try clear p7
            try clear q7
            obtain ⟨x5_2, x7_2, rfl, HA, HK2, HO_5, HB⟩ := hrel
            have hl5_2 := (Kd.R_reads' HO_5.out).1
            rw [hl5_2] at HO_5
            (try simp only [hl5_2])
            cases gk with
            | zero => exact absurd HA.out (by simp [spec_l3Table.l1])
            | succ k2 =>
             have H := HA.out
             clear HA
             simp only [spec_l3Table.l1] at H
             by_cases c13 : x7_2 < (l0.length : Int)
             · rw [if_pos c13] at H
               have c13b0 : decide (x7_2 < (l0.length : Int)) = true := decide_eq_true c13
               (try (have c13h := c13b0; simp only [hl5_1, hl5_2] at c13h))
               clear c13
               by_cases c14 : 0 ≤ x7_2
               · rw [if_pos c14] at H
                 have c14b0 : decide (0 ≤ x7_2) = true := decide_eq_true c14
                 clear c14
                 by_cases c15 : x6_1 ≥ (rd l0 x7_2)
                 · rw [if_pos c15] at H
                   have c15b0 : decide ((rd l0 x7_2) ≤ x6_1) = true := decide_eq_true c15
                   clear c15
                   obtain ⟨ji16, hji16⟩ : ∃ j_ : Int, (wrap64 (x6_1 - (rd l0 x7_2))) = j_ := ⟨_, rfl⟩
                   replace H : (if 0 ≤ (ji16) then (if (ji16) < (x5_2.length : Int) then (if rdOf false x5_2 (ji16) = true then (if 0 ≤ x6_1 then (if x6_1 < (x5_2.length : Int) then (spec_l3Table.l1 k2 l0 a1 (x5_2.set (x6_1 : Int).toNat true) x6_1 (wrap64 (x7_2 + 1))) else (none)) else (none)) else (spec_l3Table.l1 k2 l0 a1 x5_2 x6_1 (wrap64 (x7_2 + 1)))) else (none)) else (none)) = some r := by first | (rw [hji16] at H; exact H) | (simp only [hji16] at H ⊢; exact H)
                   have hji16w : (IntKind.i64.wrap (x6_1 - (rd l0 x7_2))) = ji16 := (i64_w _).trans hji16
                   by_cases c17 : 0 ≤ (ji16)
                   · rw [if_pos c17] at H
                     have c17b0 : decide (0 ≤ (ji16)) = true := decide_eq_true c17
                     clear c17
                     by_cases c18 : (ji16) < (x5_2.length : Int)
                     · rw [if_pos c18] at H
                       have c18b0 : decide ((ji16) < (x5_2.length : Int)) = true := decide_eq_true c18
                       (try (have c18h := c18b0; simp only [hl5_1, hl5_2] at c18h))
                       clear c18
                       obtain ⟨bq19, hbq19⟩ : ∃ b_ : Bool, b_ = (rdOf false x5_2 (ji16)) := ⟨_, rfl⟩
                       replace H : (if bq19 = true then (if 0 ≤ x6_1 then (if x6_1 < (x5_2.length : Int) then (spec_l3Table.l1 k2 l0 a1 (x5_2.set (x6_1 : Int).toNat true) x6_1 (wrap64 (x7_2 + 1))) else (none)) else (none)) else (spec_l3Table.l1 k2 l0 a1 x5_2 x6_1 (wrap64 (x7_2 + 1)))) = some r := by rw [← hbq19] at H; exact H
                       have Nbq19 := Aside0.mk hbq19
                       clear hbq19
                       by_cases c20 : bq19 = true
                       · subst c20
                         rw [if_pos rfl] at H
                         by_cases c21 : 0 ≤ x6_1
                         · rw [if_pos c21] at H
                           have c21b0 : decide (0 ≤ x6_1) = true := decide_eq_true c21
                           clear c21
                           by_cases c22 : x6_1 < (x5_2.length : Int)
                           · rw [if_pos c22] at H
                             have c22b0 : decide (x6_1 < (x5_2.length : Int)) = true := decide_eq_true c22
                             (try (have c22h := c22b0; simp only [hl5_1, hl5_2] at c22h))
                             clear c22
                             obtain ⟨y203, hy203⟩ : ∃ y_ : List Bool, y_ = (x5_2.set (x6_1 : Int).toNat true) := ⟨_, rfl⟩
                             replace H : (spec_l3Table.l1 k2 l0 a1 y203 x6_1 (wrap64 (x7_2 + 1))) = some r := by subst hy203; exact H
                             have Ny203 := Aside0.mk hy203
                             clear hy203
                             have H' := Aside0.mk H
                             clear H
                             have p200 : 0 ≤ (x7_2 : Int) := od_
                             have q200 : x7_2 < (l0.length : Int) := od_
                             obtain ⟨ad200, e200, hx200_0⟩ := Kd.at_int HR0.out x7_2 p200 q200
                             cases e200
                             (try replace hx200_0 := (HB.out.cell (World.block_lt_of_cell? w _ hx200_0)).trans hx200_0)
                             replace p200 := eq_true p200
                             replace q200 := eq_true q200
                             have p201 : 0 ≤ (x7_2 : Int) := od_
                             have q201 : x7_2 < (l0.length : Int) := od_
                             obtain ⟨ad201, e201, hx201_0⟩ := Kd.at_int HR0.out x7_2 p201 q201
                             obtain rfl : ad200 = ad201 := (by injection e201)
                             (try replace hx201_0 := (HB.out.cell (World.block_lt_of_cell? w _ hx201_0)).trans hx201_0)
                             replace p201 := eq_true p201
                             replace q201 := eq_true q201
                             have p202 : 0 ≤ ((ji16) : Int) := od_
                             have q202 : (ji16) < (x5_2.length : Int) := od_
                             obtain ⟨ad202, e202, hx202_0⟩ := Kd.at_bool (Kd.R_reads' HO_5.out).2.2 (ji16) p202 q202
                             (try rw [← Nbq19.out] at hx202_0)
                             obtain rfl : (⟨go7, 0, none⟩ : Addr) = ad202 := (by injection e202)
                             (first | simp only [add_plain] at hx202_0 | simp only [add_at] at hx202_0 | simp only [Addr.add, Nat.zero_add] at hx202_0 | skip)
                             replace p202 := eq_true p202
                             replace q202 := eq_true q202
                             have p23 : 0 ≤ (x6_1 : Int) := od_
                             have q23 : (x6_1 : Int) < ((x5_2.length : Int) : Int) := od_
                             obtain ⟨hx23_0, hf23_0⟩ := Kd.R_celln false HO_5.out (x6_1 : Int) p23 q23
                             replace p23 := eq_true p23
                             replace q23 := eq_true q23
                             have HP24 := Kd.R_putg HO_5.out (x6_1 : Int) true
                             go_wp2_with (first | ((with_reducible refine gate_store (t := 4) (p := 43) rfl ?_); refine store_event (t := 4) (p := 43) (v := ?vo_w25) (w1 := (wr.setCell ⟨go7, (x6_1 : Int).toNat, none⟩ (.bool true))) ?hg ?ho ?hn ?hr ?_; (case ho => rfl); (case hg => rfl); (case hn => rfl); (case hr => first | (go_simp; done) | (go_simp; rfl)); intro w25 hw; have hg : wr.grownBy w25 (some go7) := (by rw [hw]; exact HP24.2); have hp_ : Kd.R Kd.bool 4 w25 w.heap.size (fun _ => True) (.slice (some ⟨go7, 0, none⟩) x5_2.length co7) y203 := (by rw [hw, Ny203.out]; exact HP24.1); clear HP24; replace HO_5 := Aside0.mk (hp_); replace HB := Aside0.mk ((by rw [hw]; exact below_set (HB.out) GB7.out : Below w.heap.size w w25)); clear hg hw hp_))
                             (try simp only [← hl5_2])
                             go_roundg k2
                             case measure => have := HK1.out; have := HK2.out; omega
                             case rel => exact ⟨(y203), (wrap64 (x7_2 + 1)), rs_, H', ⟨by have := HK1.out; have := HK2.out; omega⟩, ⟨by (try simp only [hl5_1]); (try simp only [hl5_2]); (with_reducible repeat (first | apply Kd.R_alloc | apply Kd.R_drewN | apply Kd.R_drew)); exact HO_5.out⟩, ⟨bl_ HB.out⟩⟩
                           · rw [if_neg c22] at H
                             cases H
                         · rw [if_neg c21] at H
                           cases H
                       · replace c20 := Bool.eq_false_iff.mpr c20
                         subst c20
                         rw [if_neg (show ¬ (false = true) by decide)] at H
                         have H' := Aside0.mk H
                         clear H
                         have p200 : 0 ≤ (x7_2 : Int) := od_
                         have q200 : x7_2 < (l0.length : Int) := od_
                         obtain ⟨ad200, e200, hx200_0⟩ := Kd.at_int HR0.out x7_2 p200 q200
                         cases e200
                         (try replace hx200_0 := (HB.out.cell (World.block_lt_of_cell? w _ hx200_0)).trans hx200_0)
                         replace p200 := eq_true p200
                         replace q200 := eq_true q200
                         have p201 : 0 ≤ (x7_2 : Int) := od_
                         have q201 : x7_2 < (l0.length : Int) := od_
                         obtain ⟨ad201, e201, hx201_0⟩ := Kd.at_int HR0.out x7_2 p201 q201
                         obtain rfl : ad200 = ad201 := (by injection e201)
                         (try replace hx201_0 := (HB.out.cell (World.block_lt_of_cell? w _ hx201_0)).trans hx201_0)
                         replace p201 := eq_true p201
                         replace q201 := eq_true q201
                         have p202 : 0 ≤ ((ji16) : Int) := od_
                         have q202 : (ji16) < (x5_2.length : Int) := od_
                         obtain ⟨ad202, e202, hx202_0⟩ := Kd.at_bool (Kd.R_reads' HO_5.out).2.2 (ji16) p202 q202
                         (try rw [← Nbq19.out] at hx202_0)
                         obtain rfl : (⟨go7, 0, none⟩ : Addr) = ad202 := (by injection e202)
                         (first | simp only [add_plain] at hx202_0 | simp only [add_at] at hx202_0 | simp only [Addr.add, Nat.zero_add] at hx202_0 | skip)
                         replace p202 := eq_true p202
                         replace q202 := eq_true q202
                         go_wp2
                         (try simp only [← hl5_2])
                         go_roundg k2
                         case measure => have := HK1.out; have := HK2.out; omega
                         case rel => exact ⟨(x5_2), (wrap64 (x7_2 + 1)), rs_, H', ⟨by have := HK1.out; have := HK2.out; omega⟩, ⟨by (try simp only [hl5_1]); (try simp only [hl5_2]); (with_reducible repeat (first | apply Kd.R_alloc | apply Kd.R_drewN | apply Kd.R_drew)); exact HO_5.out⟩, ⟨bl_ HB.out⟩⟩
                     · rw [if_neg c18] at H
                       cases H
                   · rw [if_neg c17] at H
                     cases H
                 · rw [if_neg c15] at H
                   have c15b0 : decide ((rd l0 x7_2) ≤ x6_1) = false := decide_eq_false c15
                   clear c15
                   have H' := Aside0.mk H
                   clear H
                   have p200 : 0 ≤ (x7_2 : Int) := od_
                   have q200 : x7_2 < (l0.length : Int) := od_
                   obtain ⟨ad200, e200, hx200_0⟩ := Kd.at_int HR0.out x7_2 p200 q200
                   cases e200
                   (try replace hx200_0 := (HB.out.cell (World.block_lt_of_cell? w _ hx200_0)).trans hx200_0)
                   replace p200 := eq_true p200
                   replace q200 := eq_true q200
                   go_wp2
                   (try simp only [← hl5_2])
                   go_roundg k2
                   case measure => have := HK1.out; have := HK2.out; omega
                   case rel => exact ⟨(x5_2), (wrap64 (x7_2 + 1)), rs_, H', ⟨by have := HK1.out; have := HK2.out; omega⟩, ⟨by (try simp only [hl5_1]); (try simp only [hl5_2]); (with_reducible repeat (first | apply Kd.R_alloc | apply Kd.R_drewN | apply Kd.R_drew)); exact HO_5.out⟩, ⟨bl_ HB.out⟩⟩
               · rw [if_neg c14] at H
                 cases H
             · rw [if_neg c13] at H
               have c13b0 : decide (x7_2 < (l0.length : Int)) = false := decide_eq_false c13
               (try (have c13h := c13b0; simp only [hl5_1, hl5_2] at c13h))
               clear c13
               have H' := Aside0.mk H
               clear H
               go_wp2
               (try simp only [← hl5_1, ← hl5_2])
               go_roundg k2
               case measure => have := HK1.out; have := HK2.out; omega
               case rel => exact ⟨(x5_2), (wrap64 (x6_1 + 1)), rs_, H', ⟨by have := HK1.out; have := HK2.out; omega⟩, ⟨by (try simp only [hl5_1]); (try simp only [hl5_2]); (with_reducible repeat (first | apply Kd.R_alloc | apply Kd.R_drewN | apply Kd.R_drew)); exact HO_5.out⟩, ⟨bl_ HB.out⟩⟩
         · rw [if_neg c12] at H
           have c12b0 : decide (x6_1 ≤ a1) = false := decide_eq_false c12
           clear c12
           obtain rfl := Option.some.inj H
           go_wp2
           go_ret
           exact ⟨_, by first | rfl | (simp [errW_none, errW_some] <;> rfl) | (simp only [← hji3]; first | rfl | (simp [errW_none, errW_some] <;> rfl)) | (simp [*, errW_none, errW_some] <;> rfl), re_ HO_5.out, bl_ HB.out⟩
     · rw [if_neg c6] at H
       cases H
   · rw [if_neg c5] at H
     cases H
 · rw [if_neg c4] at H
   cases H
def spec_l3Minimal.l0 : Nat → List Int → List Int → Int → Option (List Int)
 | 0, _, _, _ => none
 | k + 1, x3, x4, x5 => if x5 < (x4.length : Int) then (if x5 = 0 then (if 0 ≤ x5 then (if x3.length < 17592186044416 then (spec_l3Minimal.l0 k (x3 ++ [rd x4 x5]) x4 (wrap64 (x5 + 1))) else (none)) else (none)) else (if 0 ≤ x5 then (if x5 ≤ (x4.length : Int) then ((spec_l3Table.f k (x4.take (x5 : Int).toNat) (rd x4 x5)).bind fun t219 => (if 0 ≤ (rd x4 x5) then (if (rd x4 x5) < (t219.length : Int) then (if (rdOf false t219 (rd x4 x5) = true) then (spec_l3Minimal.l0 k x3 x4 (wrap64 (x5 + 1))) else (if x3.length < 17592186044416 then (spec_l3Minimal.l0 k (x3 ++ [rd x4 x5]) x4 (wrap64 (x5 + 1))) else (none))) else (none)) else (none))) else (none)) else (none))) else (some x3)
def spec_l3Minimal.f (k : Nat) (l0 : List Int) : Option (List Int) := (spec_SortList.f k l0).bind fun t207 => (spec_l3Minimal.l0 k (([] : List Int)) t207 0)
theorem spec_l3Minimal.mono_l : ∀ k, (∀ y0 y1 y2, LeO (spec_l3Minimal.l0 k y0 y1 y2) (spec_l3Minimal.l0 (k + 1) y0 y1 y2))
 | 0 => fun _ _ _ r h => by simp [spec_l3Minimal.l0] at h
 | k + 1 => by
  have ih0 := spec_l3Minimal.mono_l k
  · intro y0 y1 y2
    unfold spec_l3Minimal.l0
    repeat' first
    | (with_reducible exact ih0 _ _ _)
    | (with_reducible exact spec_SortList.mono _ _)
    | (with_reducible exact spec_l3Table.mono _ _ _)
    | (with_reducible exact LeO.refl _)
    | (with_reducible exact LeO.none _)
    | (with_reducible refine LeO.ite ?_ ?_)
    | (with_reducible refine LeO.bind ?_ (fun _ => ?_))
    | exact ih0 _ _ _
    | exact LeO.none _
    | refine LeO.ite ?_ ?_
    | refine LeO.bind ?_ (fun _ => ?_)
theorem spec_l3Minimal.mono : ∀ a0 k, LeO (spec_l3Minimal.f k a0) (spec_l3Minimal.f (k + 1) a0) := by
 intro a0 k
 have ih0 := spec_l3Minimal.mono_l k
 unfold spec_l3Minimal.f
 repeat' first
  | (with_reducible exact ih0 _ _ _)
  | (with_reducible exact spec_SortList.mono _ _)
  | (with_reducible exact spec_l3Table.mono _ _ _)
  | (with_reducible exact LeO.refl _)
  | (with_reducible exact LeO.none _)
  | (with_reducible refine LeO.ite ?_ ?_)
  | (with_reducible refine LeO.bind ?_ (fun _ => ?_))
  | exact ih0 _ _ _
  | exact LeO.none _
  | refine LeO.ite ?_ ?_
  | refine LeO.bind ?_ (fun _ => ?_)
def spec_l3Minimal.T6 : Bool × List (List Nat × List Nat) := (true, [([], []), ([0], [0]), ([1], [1]), ([2], [2]), ([2], [2]), ([3, 4, 2], [2, 3, 4]), ([2], [2]), ([2], [2]), ([6, 7, 2], [2, 6, 7]), ([8, 2], [2, 8]), ([5, 9, 2, 2], [2, 5, 9]), ([2], [2]), ([2], [2]), ([11, 12, 2], [2, 11, 12]), ([13, 2], [2, 13]), ([10, 14, 2], [2, 10, 14]), ([15, 2], [2, 15]), ([16, 2], [2, 16]), ([2, 17], [2, 17])])
def spec_l3Minimal.B6 : List Nat := [0, 1, 3, 7, 7, 31, 7, 7, 199, 455, 1023, 7, 7, 6151, 14343, 32767, 65535, 131071, 262143]
theorem spec_l3Minimal.tab6 : rtab .any (opsOf Tryz.f70 6) = spec_l3Minimal.T6 := by kernel_rfl
theorem spec_l3Minimal.bits6 : waitsOk spec_l3Minimal.T6.2 spec_l3Minimal.B6 = true := by kernel_rfl
theorem spec_l3Minimal.calls (k : Nat) (A0 : Option Addr) (c0 : Nat) (l0 : List Int) (r : List Int) (w : World) (hr0 : Kd.C (Kd.int .i64) w A0 l0.length l0) (hc0 : l0.length ≤ c0) (h : spec_l3Minimal.f k l0 = some r) :
 Calls Tryz.prog 70 #[.slice A0 l0.length c0] w fun e w' => ∃ v0_ : Value, e = .returned (v0_) ∧ Kd.R (Kd.int .i64) 3 w' w.heap.size (fun _ => True) v0_ r ∧ Below w.heap.size w w' := by
 have HR0 := Aside0.mk hr0
 have HC0 := Aside0.mk hc0
 clear hr0 hc0
 have HB := Aside0.mk (Below.refl w.heap.size w)
 have H := h
 clear h
 unfold spec_l3Minimal.f at H
 obtain ⟨y204, hy204⟩ : ∃ y_ : List Int, y_ = (([] : List Int)) := ⟨_, rfl⟩
 replace H : ((spec_SortList.f k l0).bind fun t207 => (spec_l3Minimal.l0 k y204 t207 0)) = some r := by subst hy204; exact H
 have Ny204 := Aside0.mk hy204
 clear hy204
 obtain ⟨t207, A2, H⟩ := ob_ H
 have H' := Aside0.mk H
 clear H
 go_enter Tryz.func70, Tryz.ntmps70
 go_wp2_with (first | ((with_reducible refine gate_dst (N := 6) rfl ?_); refine Kd.R_lit (Kd.int .i64) _ 3 ?hg (N := 6) ?hd (xs := ([] : List Int)) (inner := []) (ok := fun _ => True) (okp := fun _ => True) ?hr ?hp (fun _ hk => hk) trivial (Below.refl _ _) (Nat.le_refl _) (by simp) ?_; (case hd => rfl); (case hg => rfl); (case hr => first | (go_simp; done) | (go_simp; rfl)); (case hp => exact (Reps.none _ _)); intro v205 w3 ho4 hb hg_ hnew_; clear hg_ hnew_; (first | rw [← Ny204.out] at ho4 | (simp only [Int.reduceToNat] at ho4; rw [← Ny204.out] at ho4)); have HO206 := Aside0.mk (Kd.R_lower ho4 (below_size (bl_ HB.out))); replace HB := bo_ HB hb; clear hb ho4) | ((with_reducible refine gate_callee (f := 100) rfl ?_); refine gL_ (some 8) Tryz.func100 #[.slice A0 l0.length c0] ?_; (with_reducible refine (spec_SortList.calls k _ _ l0 t207 _ ?side1 ?side2 A2.out).mono ?_); (case side1 => exact ch_ HR0 HB); (case side2 => exact HC0.out); rintro e w5 ⟨v208, rfl, ho0, hb⟩; refine ⟨_, rfl, ?_⟩; have HO209 := Aside0.mk (Kd.R_lower (Kd.R_new' ho0 (Kd.R_lt (re_ HO206.out))) (below_size (bl_ HB.out))); replace HO206 := Aside0.mk (Kd.R_elder' (re_ HO206.out) (Kd.R_base ho0) hb); replace HB := bo_ HB hb; (try clear hb); (try clear ho0)))
 go_loopg [3, 5] k (fun kq v3 v5 w' => ∃ (x3_1 : List Int) (x5_1 : Int), v5 = .int .i64 x5_1 ∧ Aside0 (spec_l3Minimal.l0 kq x3_1 t207 x5_1 = some r) ∧ Aside0 (kq ≤ k) ∧ Aside0 (Kd.R (Kd.int .i64) 3 w' w.heap.size (fun k_ => some k_ ≠ (v208 : Value).ownBlock) v3 x3_1) ∧ Aside0 (Kd.R (Kd.int .i64) 3 w' w.heap.size (fun k_ => some k_ ≠ (v3 : Value).ownBlock) v208 t207) ∧ Aside0 (Below w.heap.size w w'))
 case atStart => exact ⟨(y204), (0), rs_, H', ⟨Nat.le_refl _⟩, ⟨by (with_reducible repeat (first | apply Kd.R_alloc | apply Kd.R_drewN | apply Kd.R_drew)); exact Kd.R_mono HO206.out (fun _ hk => hk.2)⟩, ⟨by (with_reducible repeat (first | apply Kd.R_alloc | apply Kd.R_drewN | apply Kd.R_drew)); exact Kd.R_mono HO209.out (fun _ hk => hk.2)⟩, ⟨bl_ HB.out⟩⟩
 case round =>
  clear H'
  try clear c1
  try clear p2
  obtain ⟨x3_1, x5_1, rfl, HA, HK1, HO_3, HO_4, HB⟩ := hrel
  cases gk with
  | zero => exact absurd HA.out (by simp [spec_l3Minimal.l0])
  | succ k1 =>
   have H := HA.out
   clear HA
   simp only [spec_l3Minimal.l0] at H
   by_cases c6 : x5_1 < (t207.length : Int)
   · rw [if_pos c6] at H
     have c6b0 : decide (x5_1 < (t207.length : Int)) = true := decide_eq_true c6
     clear c6
     by_cases c7 : x5_1 = 0
     · rw [if_pos c7] at H
       have c7b0 : (x5_1 == 0) = true := beq_iff_eq.mpr c7
       have c7b1 : (x5_1 != 0) = false := bne_eq_false_iff_eq.mpr c7
       clear c7
       by_cases c8 : 0 ≤ x5_1
       · rw [if_pos c8] at H
         have c8b0 : decide (0 ≤ x5_1) = true := decide_eq_true c8
         clear c8
         by_cases c9 : x3_1.length < 17592186044416
         · rw [if_pos c9] at H
           have LMc9 := Aside0.mk c9
           clear c9
           obtain ⟨y211, hy211⟩ : ∃ y_ : List Int, y_ = (x3_1 ++ [rd t207 x5_1]) := ⟨_, rfl⟩
           replace H : (spec_l3Minimal.l0 k1 y211 t207 (wrap64 (x5_1 + 1))) = some r := by subst hy211; exact H
           have Ny211 := Aside0.mk hy211
           clear hy211
           have H' := Aside0.mk H
           clear H
           obtain ⟨Ao10, co10, eo10⟩ := Kd.R_slice HO_4.out
           subst eo10
           try go_wp2
           replace HO_3 := Aside0.mk (Kd.R_drew HO_3.out)
           replace HO_4 := Aside0.mk (Kd.R_drew HO_4.out)
           replace HB := Aside0.mk (below_drew1 HB.out)
           refine start_ (n := 19) (S := fun w' => True) (ds := []) (B_ 0 19) (by kernel_rfl) rfl rfl trivial (fun hHeld => ?_); refine with_tabW spec_l3Minimal.tab6 spec_l3Minimal.bits6 (fun HT_ HW_ => ?_)
           generalize wr.drew = w11 at HO_3 HO_4 HB hHeld ⊢
           refine pu_ HT_ 0 15 (B_ 1 19) ?_
           refine pu_ HT_ 1 16 (B_ 3 19) ?_
           refine pu_ HT_ 2 17 (B_ 7 19) ?_
           refine pn_ HT_ 3 18 (B_ 15 19) ?_
           refine pn_ HT_ 4 19 (B_ 31 19) ?_
           refine pn_ HT_ 5 20 (B_ 63 19) ?_
           refine pn_ HT_ 6 21 (B_ 127 19) ?_
           refine pn_ HT_ 7 22 (B_ 255 19) ?_
           refine pn_ HT_ 8 23 (B_ 511 19) ?_
           refine pn_ HT_ 9 24 (B_ 1023 19) ?_
           refine pn_ HT_ 10 25 (B_ 2047 19) ?_
           refine pn_ HT_ 11 26 (B_ 4095 19) ?_
           refine pn_ HT_ 12 27 (B_ 8191 19) ?_
           refine pn_ HT_ 13 28 (B_ 16383 19) ?_
           refine pn_ HT_ 14 29 (B_ 32767 19) ?_
           refine pn_ HT_ 15 30 (B_ 65535 19) ?_
           refine pn_ HT_ 16 31 (B_ 131071 19) ?_
           refine pn_ HT_ 17 32 (B_ 262143 19) ?_
           refine pu_ HT_ 18 33 (B_ 524287 19) ?_
           refine done_ (done_of HT_.out (by kernel_rfl)) ?_
           have p210 : 0 ≤ (x5_1 : Int) := od_
           have q210 : x5_1 < (t207.length : Int) := od_
           obtain ⟨ad210, e210, hx210_0⟩ := Kd.at_int (Kd.R_reads' HO_4.out).2.2 x5_1 p210 q210
           cases e210
           replace p210 := eq_true p210
           replace q210 := eq_true q210
           try go_wp2_with (first | ((with_reducible refine gate_builtin (b := .append) (xs := #[.tmp 34, .tmp 39]) rfl ?_); at_builtin; refine Kd.R_append (Kd.int .i64) (w0 := w) w.heap.size rfl (.tmp 34) (.tmp 39) 27 3 (.int .i64 0) 8 rfl Tryz.underlying27 info3 rfl (by decide) (by omega) u3 x3_1 (rd t207 x5_1) [.int .i64 (rd t207 x5_1)] (fun k_ => some k_ ≠ (.slice (some ad210) t207.length co10 : Value).ownBlock) (fun _ => False) rfl rfl ?aP (fun _ hk => hk.elim) ?aF ?aO ?aB ?aS ?aL ?_; (case aP => exact rfl); (case aB => exact (bl_ HB.out)); (case aF => exact (fun k_ hk => Kd.fresh' (Kd.R_lt (re_ HO_4.out)) k_ hk)); (case aO => exact (re_ HO_3.out)); (case aS => exact (below_size (bl_ HB.out))); (case aL => have := LMc9.out; omega); intro v212 w12 ho hb hg hat; rw [← Ny211.out] at ho; replace HO_4 := Aside0.mk (Kd.R_after (ok := (fun _ => True)) (by (with_reducible repeat (first | apply Kd.R_alloc | apply Kd.R_drewN | apply Kd.R_drew)); exact Kd.R_mono HO_4.out (fun _ hk => ⟨trivial, hk⟩)) hg hat); replace HB := Aside0.mk (hb); have HO213 := Aside0.mk (ho); clear HO_3; clear ho hb hg hat))
           go_roundg k1
           case measure => have := HK1.out; omega
           case rel => exact ⟨(y211), (wrap64 (x5_1 + 1)), rs_, H', ⟨by have := HK1.out; omega⟩, ⟨re_ HO213.out⟩, ⟨by (with_reducible repeat (first | apply Kd.R_alloc | apply Kd.R_drewN | apply Kd.R_drew)); exact Kd.R_mono HO_4.out (fun _ hk => hk.2)⟩, ⟨bl_ HB.out⟩⟩
         · rw [if_neg c9] at H
           cases H
       · rw [if_neg c8] at H
         cases H
     · rw [if_neg c7] at H
       have c7b0 : (x5_1 == 0) = false := beq_eq_false_iff_ne.mpr c7
       have c7b1 : (x5_1 != 0) = true := bne_iff_ne.mpr c7
       by_cases c13 : 0 ≤ x5_1
       · rw [if_pos c13] at H
         have c13b0 := eq_true c13
         have c13b1 : decide (0 ≤ x5_1) = true := decide_eq_true c13
         clear c13
         by_cases c14 : x5_1 ≤ (t207.length : Int)
         · rw [if_pos c14] at H
           have c14b0 := eq_true c14
           have c14b1 : decide (x5_1 ≤ (t207.length : Int)) = true := decide_eq_true c14
           clear c14
           obtain ⟨y214, hy214⟩ : ∃ y_ : List Int, y_ = (t207.take (x5_1 : Int).toNat) := ⟨_, rfl⟩
           replace H : ((spec_l3Table.f k1 y214 (rd t207 x5_1)).bind fun t219 => (if 0 ≤ (rd t207 x5_1) then (if (rd t207 x5_1) < (t219.length : Int) then (if (rdOf false t219 (rd t207 x5_1) = true) then (spec_l3Minimal.l0 k1 x3_1 t207 (wrap64 (x5_1 + 1))) else (if x3_1.length < 17592186044416 then (spec_l3Minimal.l0 k1 (x3_1 ++ [rd t207 x5_1]) t207 (wrap64 (x5_1 + 1))) else (none))) else (none)) else (none))) = some r := by subst hy214; exact H
           have Ny214 := Aside0.mk hy214
           clear hy214
           obtain ⟨t219, A15, H⟩ := ob_ H
           by_cases c16 : 0 ≤ (rd t207 x5_1)
           · rw [if_pos c16] at H
             have c16b0 : decide (0 ≤ (rd t207 x5_1)) = true := decide_eq_true c16
             clear c16
             by_cases c17 : (rd t207 x5_1) < (t219.length : Int)
             · rw [if_pos c17] at H
               have c17b0 : decide ((rd t207 x5_1) < (t219.length : Int)) = true := decide_eq_true c17
               clear c17
               obtain ⟨bq18, hbq18⟩ : ∃ b_ : Bool, b_ = (rdOf false t219 (rd t207 x5_1)) := ⟨_, rfl⟩
               replace H : (if (bq18 = true) then (spec_l3Minimal.l0 k1 x3_1 t207 (wrap64 (x5_1 + 1))) else (if x3_1.length < 17592186044416 then (spec_l3Minimal.l0 k1 (x3_1 ++ [rd t207 x5_1]) t207 (wrap64 (x5_1 + 1))) else (none))) = some r := by rw [← hbq18] at H; exact H
               have Nbq18 := Aside0.mk hbq18
               clear hbq18
               by_cases c19 : (bq18 = true)
               · subst c19
                 rw [if_pos rfl] at H
                 have H' := Aside0.mk H
                 clear H
                 obtain ⟨Ao20, co20, eo20⟩ := Kd.R_slice HO_4.out
                 subst eo20
                 try go_wp2
                 replace HO_3 := Aside0.mk (Kd.R_drew HO_3.out)
                 replace HO_4 := Aside0.mk (Kd.R_drew HO_4.out)
                 replace HB := Aside0.mk (below_drew1 HB.out)
                 have q22 : (x5_1 : Int) ≤ ((t207.length : Int) : Int) := od_
                 obtain ⟨i022, hi022, _, hsz22, _⟩ := info_parts info3
                 have hroom22 : t207.length ≤ co20 := (Kd.R_reads' HO_4.out).2.1
                 have hC22 : Kd.C (Kd.int .i64) _ Ao20 t207.length t207 := (Kd.R_reads' HO_4.out).2.2
                 have hcut22 := cut_to (P := Tryz.prog) 27 3 .i64 Tryz.underlying27 hi022 Ao20 t207.length co20 x5_1 (od_) q22 hroom22
                 have hr22 := Kd.C_take (m := (x5_1 : Int).toNat) hC22 (by omega)
                 have hy22 : y214.length = (x5_1 : Int).toNat := (by rw [Ny214.out, List.length_take]; omega)
                 rw [← Ny214.out] at hr22
                 rw [← hy22] at hcut22
                 have HR217 := Aside0.mk hr22
                 have HC217 := Aside0.mk (show y214.length ≤ co20 from by omega)
                 clear hr22 hC22 hroom22 hi022 hsz22
                 have KY22 := Aside0.mk hy22
                 clear hy22
                 have KL22 := Aside0.mk (show (x5_1 : Int).toNat ≤ t207.length from by omega)
                 replace q22 := eq_true q22
                 have p218 : 0 ≤ (x5_1 : Int) := od_
                 have q218 : x5_1 < (t207.length : Int) := od_
                 obtain ⟨ad218, e218, hx218_0⟩ := Kd.at_int (Kd.R_reads' HO_4.out).2.2 x5_1 p218 q218
                 cases e218
                 replace p218 := eq_true p218
                 replace q218 := eq_true q218
                 have p222 : 0 ≤ (x5_1 : Int) := od_
                 have q222 : x5_1 < (t207.length : Int) := od_
                 obtain ⟨ad222, e222, hx222_0⟩ := Kd.at_int (Kd.R_reads' HO_4.out).2.2 x5_1 p222 q222
                 obtain rfl : ad218 = ad222 := (by injection e222)
                 replace p222 := eq_true p222
                 replace q222 := eq_true q222
                 refine start_ (n := 19) (S := fun w' => w'.cell? (ad218.add (x5_1).toNat) = some (.int .i64 (rd t207 x5_1)) ∧ w'.cell? (ad218.add (x5_1).toNat) = some (.int .i64 (rd t207 x5_1)) ∧ True) (ds := []) (B_ 0 19) (by kernel_rfl) rfl rfl ⟨hx218_0, hx222_0, trivial⟩ (fun hHeld => ?_); refine with_tabW spec_l3Minimal.tab6 spec_l3Minimal.bits6 (fun HT_ HW_ => ?_)
                 generalize wr.drew = w21 at HO_3 HO_4 HB HR217 hx218_0 hx222_0 hHeld ⊢
                 refine pu_ HT_ 0 15 (B_ 1 19) ?_
                 refine pu_ HT_ 1 16 (B_ 3 19) ?_
                 refine pu_ HT_ 2 17 (B_ 7 19) ?_
                 refine pu_ HT_ 3 18 (B_ 15 19) ?_
                 refine pu_ HT_ 4 19 (B_ 31 19) ?_
                 refine pu_ HT_ 5 20 (B_ 63 19) ?_
                 refine pu_ HT_ 6 21 (B_ 127 19) ?_
                 refine pu_ HT_ 7 22 (B_ 255 19) ?_
                 refine pu_ HT_ 8 23 (B_ 511 19) ?_
                 refine pu_ HT_ 11 26 (B_ 2559 19) ?_
                 refine pu_ HT_ 12 27 (B_ 6655 19) ?_
                 refine pu_ HT_ 13 28 (B_ 14847 19) ?_
                 refine tk3_ HT_ HW_ hHeld 9 24 (B_ 15359 19) ?_
                 refine tk3_ HT_ HW_ hHeld 14 29 (B_ 31743 19) ?_
                 refine on_ HT_ 10 25 (B_ 32767 19) (fun K hK => ?_)
                 refine goes_ Tryz.func101 (by kernel_rfl) rfl #[.slice (some ad218) y214.length co20, .int .i64 (rd t207 x5_1)] (by rfl) rfl rfl (by (try simp only [List.map_toArray, List.map_cons, List.map_nil]); first | done | rfl | (simp only [List.length_drop, List.length_take]; rfl)) ?_
                 with_reducible refine (spec_l3Table.calls k1 _ _ y214 (rd t207 x5_1) t219 _ ?side1 ?side2 A15.out).mono ?_
                 (case side1 => repeat (first | exact (by repeat (first | (with_reducible exact HR217.out) | (with_reducible refine Kd.C_alloc ?_ _) | (with_reducible refine Kd.C_drewN ?_ _) | (with_reducible refine Kd.C_drew ?_) | exact HR217.out)) | (with_reducible refine Kd.C_alloc ?_ _) | (with_reducible refine Kd.C_drewN ?_ _) | (with_reducible refine Kd.C_drew ?_)))
                 (case side2 => exact HC217.out)
                 rintro e w23 ⟨v220, rfl, ho0, hb⟩
                 have HS0_ := (hb.cell (World.block_lt_of_cell? _ _ (hHeld.1))).trans (hHeld.1)
                 have HS1_ := (hb.cell (World.block_lt_of_cell? _ _ (hHeld.2.1))).trans (hHeld.2.1)
                 refine ⟨_, rfl, ?_⟩
                 replace HO_3 := Aside0.mk (Kd.R_below (re_ HO_3.out) hb)
                 replace HO_4 := Aside0.mk (Kd.R_below (re_ HO_4.out) hb)
                 have HO221 := Aside0.mk (Kd.R_lower ho0 (below_size (bl_ HB.out)))
                 replace HR217 := Aside0.mk (Kd.C_below (by repeat (first | (with_reducible exact HR217.out) | (with_reducible refine Kd.C_alloc ?_ _) | (with_reducible refine Kd.C_drewN ?_ _) | (with_reducible refine Kd.C_drew ?_) | exact HR217.out)) hb)
                 replace HB := bo_ HB hb
                 (try clear hb)
                 (try clear ho0)
                 obtain ⟨Ao24, co24, eo24⟩ := Kd.R_slice HO221.out
                 (first | subst eo24 | (injection eo24 with f1_ f2_ f3_; have f4_ := f1_.symm; have f5_ := f3_.symm; clear f1_ f2_ f3_; subst f4_; subst f5_))
                 have p223 : 0 ≤ ((rd t207 x5_1) : Int) := od_
                 have q223 : (rd t207 x5_1) < (t219.length : Int) := od_
                 obtain ⟨ad223, e223, hx223_0⟩ := Kd.at_bool (Kd.R_reads' HO221.out).2.2 (rd t207 x5_1) p223 q223
                 (try rw [← Nbq18.out] at hx223_0)
                 cases e223
                 replace p223 := eq_true p223
                 replace q223 := eq_true q223
                 refine hK.out _ _ ⟨HS0_, HS1_, trivial⟩ (fun _ => ?_); refine restart_ (S' := fun w' => w'.cell? (ad218.add (x5_1).toNat) = some (.int .i64 (rd t207 x5_1)) ∧ w'.cell? (ad218.add (x5_1).toNat) = some (.int .i64 (rd t207 x5_1)) ∧ w'.cell? (ad223.add ((rd t207 x5_1)).toNat) = some (.bool true)) (fun _ h => ⟨h.1, h.2.1, trivial⟩) ⟨HS0_, HS1_, hx223_0⟩ (fun hHeld => ?_)
                 clear hK K
                 refine norm_ (a' := ?_) ?_ ?_
                 rotate_left
                 · show Act.put _ (some 25) _ = _
                   simp only [Act.put, z1_, z2_, z3_, i64_w, i32_w]
                   rfl
                 refine pu_ HT_ 15 30 (B_ 65535 19) ?_
                 refine tk3_ HT_ HW_ hHeld 16 31 (B_ 131071 19) ?_
                 refine pu_ HT_ 17 32 (B_ 262143 19) ?_
                 refine pu_ HT_ 18 33 (B_ 524287 19) ?_
                 refine done_ (done_of HT_.out (by kernel_rfl)) ?_
                 try go_wp2
                 go_roundg k1
                 case measure => have := HK1.out; omega
                 case rel => exact ⟨(x3_1), (wrap64 (x5_1 + 1)), rs_, H', ⟨by have := HK1.out; omega⟩, ⟨re_ HO_3.out⟩, ⟨re_ HO_4.out⟩, ⟨bl_ HB.out⟩⟩
               · replace c19 := Bool.eq_false_iff.mpr c19
                 subst c19
                 rw [if_neg (show ¬ (false = true) by decide)] at H
                 by_cases c25 : x3_1.length < 17592186044416
                 · rw [if_pos c25] at H
                   have LMc25 := Aside0.mk c25
                   clear c25
                   obtain ⟨y225, hy225⟩ : ∃ y_ : List Int, y_ = (x3_1 ++ [rd t207 x5_1]) := ⟨_, rfl⟩
                   replace H : (spec_l3Minimal.l0 k1 y225 t207 (wrap64 (x5_1 + 1))) = some r := by subst hy225; exact H
                   have Ny225 := Aside0.mk hy225
                   clear hy225
                   have H' := Aside0.mk H
                   clear H
                   obtain ⟨Ao26, co26, eo26⟩ := Kd.R_slice HO_4.out
                   subst eo26
                   try go_wp2
                   replace HO_3 := Aside0.mk (Kd.R_drew HO_3.out)
                   replace HO_4 := Aside0.mk (Kd.R_drew HO_4.out)
                   replace HB := Aside0.mk (below_drew1 HB.out)
                   have q28 : (x5_1 : Int) ≤ ((t207.length : Int) : Int) := od_
                   obtain ⟨i028, hi028, _, hsz28, _⟩ := info_parts info3
                   have hroom28 : t207.length ≤ co26 := (Kd.R_reads' HO_4.out).2.1
                   have hC28 : Kd.C (Kd.int .i64) _ Ao26 t207.length t207 := (Kd.R_reads' HO_4.out).2.2
                   have hcut28 := cut_to (P := Tryz.prog) 27 3 .i64 Tryz.underlying27 hi028 Ao26 t207.length co26 x5_1 (od_) q28 hroom28
                   have hr28 := Kd.C_take (m := (x5_1 : Int).toNat) hC28 (by omega)
                   have hy28 : y214.length = (x5_1 : Int).toNat := (by rw [Ny214.out, List.length_take]; omega)
                   rw [← Ny214.out] at hr28
                   rw [← hy28] at hcut28
                   have HR217 := Aside0.mk hr28
                   have HC217 := Aside0.mk (show y214.length ≤ co26 from by omega)
                   clear hr28 hC28 hroom28 hi028 hsz28
                   have KY28 := Aside0.mk hy28
                   clear hy28
                   have KL28 := Aside0.mk (show (x5_1 : Int).toNat ≤ t207.length from by omega)
                   replace q28 := eq_true q28
                   have p218 : 0 ≤ (x5_1 : Int) := od_
                   have q218 : x5_1 < (t207.length : Int) := od_
                   obtain ⟨ad218, e218, hx218_0⟩ := Kd.at_int (Kd.R_reads' HO_4.out).2.2 x5_1 p218 q218
                   cases e218
                   replace p218 := eq_true p218
                   replace q218 := eq_true q218
                   have p222 : 0 ≤ (x5_1 : Int) := od_
                   have q222 : x5_1 < (t207.length : Int) := od_
                   obtain ⟨ad222, e222, hx222_0⟩ := Kd.at_int (Kd.R_reads' HO_4.out).2.2 x5_1 p222 q222
                   obtain rfl : ad218 = ad222 := (by injection e222)
                   replace p222 := eq_true p222
                   replace q222 := eq_true q222
                   refine start_ (n := 19) (S := fun w' => w'.cell? (ad218.add (x5_1).toNat) = some (.int .i64 (rd t207 x5_1)) ∧ w'.cell? (ad218.add (x5_1).toNat) = some (.int .i64 (rd t207 x5_1)) ∧ True) (ds := []) (B_ 0 19) (by kernel_rfl) rfl rfl ⟨hx218_0, hx222_0, trivial⟩ (fun hHeld => ?_); refine with_tabW spec_l3Minimal.tab6 spec_l3Minimal.bits6 (fun HT_ HW_ => ?_)
                   generalize wr.drew = w27 at HO_3 HO_4 HB HR217 hx218_0 hx222_0 hHeld ⊢
                   refine pu_ HT_ 0 15 (B_ 1 19) ?_
                   refine pu_ HT_ 1 16 (B_ 3 19) ?_
                   refine pu_ HT_ 2 17 (B_ 7 19) ?_
                   refine pu_ HT_ 3 18 (B_ 15 19) ?_
                   refine pu_ HT_ 4 19 (B_ 31 19) ?_
                   refine pu_ HT_ 5 20 (B_ 63 19) ?_
                   refine pu_ HT_ 6 21 (B_ 127 19) ?_
                   refine pu_ HT_ 7 22 (B_ 255 19) ?_
                   refine pu_ HT_ 8 23 (B_ 511 19) ?_
                   refine pu_ HT_ 11 26 (B_ 2559 19) ?_
                   refine pu_ HT_ 12 27 (B_ 6655 19) ?_
                   refine pu_ HT_ 13 28 (B_ 14847 19) ?_
                   refine tk3_ HT_ HW_ hHeld 9 24 (B_ 15359 19) ?_
                   refine tk3_ HT_ HW_ hHeld 14 29 (B_ 31743 19) ?_
                   refine on_ HT_ 10 25 (B_ 32767 19) (fun K hK => ?_)
                   refine goes_ Tryz.func101 (by kernel_rfl) rfl #[.slice (some ad218) y214.length co26, .int .i64 (rd t207 x5_1)] (by rfl) rfl rfl (by (try simp only [List.map_toArray, List.map_cons, List.map_nil]); first | done | rfl | (simp only [List.length_drop, List.length_take]; rfl)) ?_
                   with_reducible refine (spec_l3Table.calls k1 _ _ y214 (rd t207 x5_1) t219 _ ?side1 ?side2 A15.out).mono ?_
                   (case side1 => repeat (first | exact (by repeat (first | (with_reducible exact HR217.out) | (with_reducible refine Kd.C_alloc ?_ _) | (with_reducible refine Kd.C_drewN ?_ _) | (with_reducible refine Kd.C_drew ?_) | exact HR217.out)) | (with_reducible refine Kd.C_alloc ?_ _) | (with_reducible refine Kd.C_drewN ?_ _) | (with_reducible refine Kd.C_drew ?_)))
                   (case side2 => exact HC217.out)
                   rintro e w29 ⟨v220, rfl, ho0, hb⟩
                   have HS0_ := (hb.cell (World.block_lt_of_cell? _ _ (hHeld.1))).trans (hHeld.1)
                   have HS1_ := (hb.cell (World.block_lt_of_cell? _ _ (hHeld.2.1))).trans (hHeld.2.1)
                   refine ⟨_, rfl, ?_⟩
                   replace HO_3 := Aside0.mk (Kd.R_below (re_ HO_3.out) hb)
                   replace HO_4 := Aside0.mk (Kd.R_below (re_ HO_4.out) hb)
                   have HO221 := Aside0.mk (Kd.R_lower ho0 (below_size (bl_ HB.out)))
                   replace HR217 := Aside0.mk (Kd.C_below (by repeat (first | (with_reducible exact HR217.out) | (with_reducible refine Kd.C_alloc ?_ _) | (with_reducible refine Kd.C_drewN ?_ _) | (with_reducible refine Kd.C_drew ?_) | exact HR217.out)) hb)
                   replace HB := bo_ HB hb
                   (try clear hb)
                   (try clear ho0)
                   obtain ⟨Ao30, co30, eo30⟩ := Kd.R_slice HO221.out
                   (first | subst eo30 | (injection eo30 with f1_ f2_ f3_; have f4_ := f1_.symm; have f5_ := f3_.symm; clear f1_ f2_ f3_; subst f4_; subst f5_))
                   have p223 : 0 ≤ ((rd t207 x5_1) : Int) := od_
                   have q223 : (rd t207 x5_1) < (t219.length : Int) := od_
                   obtain ⟨ad223, e223, hx223_0⟩ := Kd.at_bool (Kd.R_reads' HO221.out).2.2 (rd t207 x5_1) p223 q223
                   (try rw [← Nbq18.out] at hx223_0)
                   cases e223
                   replace p223 := eq_true p223
                   replace q223 := eq_true q223
                   refine hK.out _ _ ⟨HS0_, HS1_, trivial⟩ (fun _ => ?_); refine restart_ (S' := fun w' => w'.cell? (ad218.add (x5_1).toNat) = some (.int .i64 (rd t207 x5_1)) ∧ w'.cell? (ad218.add (x5_1).toNat) = some (.int .i64 (rd t207 x5_1)) ∧ w'.cell? (ad223.add ((rd t207 x5_1)).toNat) = some (.bool false)) (fun _ h => ⟨h.1, h.2.1, trivial⟩) ⟨HS0_, HS1_, hx223_0⟩ (fun hHeld => ?_)
                   clear hK K
                   refine norm_ (a' := ?_) ?_ ?_
                   rotate_left
                   · show Act.put _ (some 25) _ = _
                     simp only [Act.put, z1_, z2_, z3_, i64_w, i32_w]
                     rfl
                   refine pu_ HT_ 15 30 (B_ 65535 19) ?_
                   refine tk3_ HT_ HW_ hHeld 16 31 (B_ 131071 19) ?_
                   refine pu_ HT_ 17 32 (B_ 262143 19) ?_
                   refine pu_ HT_ 18 33 (B_ 524287 19) ?_
                   refine done_ (done_of HT_.out (by kernel_rfl)) ?_
                   have p224 : 0 ≤ (x5_1 : Int) := od_
                   have q224 : x5_1 < (t207.length : Int) := od_
                   obtain ⟨ad224, e224, hx224_0⟩ := Kd.at_int (Kd.R_reads' HO_4.out).2.2 x5_1 p224 q224
                   obtain rfl : ad218 = ad224 := (by injection e224)
                   replace p224 := eq_true p224
                   replace q224 := eq_true q224
                   try go_wp2_with (first | ((with_reducible refine gate_builtin (b := .append) (xs := #[.tmp 34, .tmp 39]) rfl ?_); at_builtin; refine Kd.R_append (Kd.int .i64) (w0 := w) w.heap.size rfl (.tmp 34) (.tmp 39) 27 3 (.int .i64 0) 8 rfl Tryz.underlying27 info3 rfl (by decide) (by omega) u3 x3_1 (rd t207 x5_1) [.int .i64 (rd t207 x5_1)] (fun k_ => some k_ ≠ (.slice (some ad218) t207.length co26 : Value).ownBlock) (fun _ => False) rfl rfl ?aP (fun _ hk => hk.elim) ?aF ?aO ?aB ?aS ?aL ?_; (case aP => exact rfl); (case aB => exact (bl_ HB.out)); (case aF => exact (fun k_ hk => Kd.fresh' (Kd.R_lt (re_ HO_4.out)) k_ hk)); (case aO => exact (re_ HO_3.out)); (case aS => exact (below_size (bl_ HB.out))); (case aL => have := LMc25.out; omega); intro v226 w31 ho hb hg hat; rw [← Ny225.out] at ho; replace HO221 := Aside0.mk (Kd.R_over' (re_ HO221.out) (Kd.R_typed (re_ HO_3.out)) (by decide) hg); replace HB := Aside0.mk (hb); replace HR217 := Aside0.mk ((show Kd.C (Kd.int .i64) w31 (some ad218) y214.length y214 from by rw [Ny214.out]; exact Kd.C_take (m := (x5_1 : Int).toNat) ((Kd.R_reads' (Kd.R_after (ok := (fun _ => True)) (by (with_reducible repeat (first | apply Kd.R_alloc | apply Kd.R_drewN | apply Kd.R_drew)); exact Kd.R_mono HO_4.out (fun _ hk => ⟨trivial, hk⟩)) hg hat)).2.2) KL28.out)); replace HO_4 := Aside0.mk (Kd.R_after (ok := (fun _ => True)) (by (with_reducible repeat (first | apply Kd.R_alloc | apply Kd.R_drewN | apply Kd.R_drew)); exact Kd.R_mono HO_4.out (fun _ hk => ⟨trivial, hk⟩)) hg hat); have HO227 := Aside0.mk (ho); clear HO_3; clear ho hb hg hat))
                   go_roundg k1
                   case measure => have := HK1.out; omega
                   case rel => exact ⟨(y225), (wrap64 (x5_1 + 1)), rs_, H', ⟨by have := HK1.out; omega⟩, ⟨re_ HO227.out⟩, ⟨by (with_reducible repeat (first | apply Kd.R_alloc | apply Kd.R_drewN | apply Kd.R_drew)); exact Kd.R_mono HO_4.out (fun _ hk => hk.2)⟩, ⟨bl_ HB.out⟩⟩
                 · rw [if_neg c25] at H
                   cases H
             · rw [if_neg c17] at H
               cases H
           · rw [if_neg c16] at H
             cases H
         · rw [if_neg c14] at H
           cases H
       · rw [if_neg c13] at H
         cases H
   · rw [if_neg c6] at H
     have c6b0 : decide (x5_1 < (t207.length : Int)) = false := decide_eq_false c6
     clear c6
     obtain rfl := Option.some.inj H
     obtain ⟨Ao32, co32, eo32⟩ := Kd.R_slice HO_4.out
     subst eo32
     go_wp2
     go_ret
     exact ⟨_, rf_, by (with_reducible repeat (first | apply Kd.R_alloc | apply Kd.R_drewN | apply Kd.R_drew)); exact Kd.R_mono HO_3.out (fun _ hk => trivial), bl_ HB.out⟩
def spec_l3Ends.l0 : Nat → List Int → List Bool → Int → Option (Bool)
 | 0, _, _, _ => none
 | k + 1, x0, x3, x4 => if 0 < (x0.length : Int) then (if x4 < (wrap64 (200 + (rd x0 0))) then (if 0 ≤ x4 then (if x4 < (x3.length : Int) then (if rdOf false x3 x4 = true then (spec_l3Ends.l0 k x0 x3 (wrap64 (x4 + 1))) else (some false)) else (none)) else (none)) else (some true)) else (none)
def spec_l3Ends.f (k : Nat) (l0 : List Int) : Option (Bool) := (spec_l3Table.f k l0 260).bind fun t228 => (spec_l3Ends.l0 k l0 t228 200)
theorem spec_l3Ends.mono_l : ∀ k, (∀ y0 y1 y2, LeO (spec_l3Ends.l0 k y0 y1 y2) (spec_l3Ends.l0 (k + 1) y0 y1 y2))
 | 0 => fun _ _ _ r h => by simp [spec_l3Ends.l0] at h
 | k + 1 => by
  have ih0 := spec_l3Ends.mono_l k
  · intro y0 y1 y2
    unfold spec_l3Ends.l0
    repeat' first
    | (with_reducible exact ih0 _ _ _)
    | (with_reducible exact spec_l3Table.mono _ _ _)
    | (with_reducible exact LeO.refl _)
    | (with_reducible exact LeO.none _)
    | (with_reducible refine LeO.ite ?_ ?_)
    | (with_reducible refine LeO.bind ?_ (fun _ => ?_))
    | exact ih0 _ _ _
    | exact LeO.none _
    | refine LeO.ite ?_ ?_
    | refine LeO.bind ?_ (fun _ => ?_)
theorem spec_l3Ends.mono : ∀ a0 k, LeO (spec_l3Ends.f k a0) (spec_l3Ends.f (k + 1) a0) := by
 intro a0 k
 have ih0 := spec_l3Ends.mono_l k
 unfold spec_l3Ends.f
 repeat' first
  | (with_reducible exact ih0 _ _ _)
  | (with_reducible exact spec_l3Table.mono _ _ _)
  | (with_reducible exact LeO.refl _)
  | (with_reducible exact LeO.none _)
  | (with_reducible refine LeO.ite ?_ ?_)
  | (with_reducible refine LeO.bind ?_ (fun _ => ?_))
  | exact ih0 _ _ _
  | exact LeO.none _
  | refine LeO.ite ?_ ?_
  | refine LeO.bind ?_ (fun _ => ?_)
theorem spec_l3Ends.calls (k : Nat) (A0 : Option Addr) (c0 : Nat) (l0 : List Int) (r : Bool) (w : World) (hr0 : Kd.C (Kd.int .i64) w A0 l0.length l0) (hc0 : l0.length ≤ c0) (h : spec_l3Ends.f k l0 = some r) :
 Calls Tryz.prog 71 #[.slice A0 l0.length c0] w fun e w' => e = .returned (.bool r) ∧ Below w.heap.size w w' := by
 have HR0 := Aside0.mk hr0
 have HC0 := Aside0.mk hc0
 clear hr0 hc0
 have HB := Aside0.mk (Below.refl w.heap.size w)
 have H := h
 clear h
 unfold spec_l3Ends.f at H
 obtain ⟨t228, A2, H⟩ := ob_ H
 have H' := Aside0.mk H
 clear H
 go_enter Tryz.func71, Tryz.ntmps71
 go_wp2_with (first | ((with_reducible refine gate_callee (f := 101) rfl ?_); refine gL_ (some 6) Tryz.func101 #[.slice A0 l0.length c0, .int .i64 260] ?_; (with_reducible refine (spec_l3Table.calls k _ _ l0 260 t228 _ ?side1 ?side2 A2.out).mono ?_); (case side1 => exact ce_ (HR0.out)); (case side2 => exact HC0.out); rintro e w3 ⟨v229, rfl, ho0, hb⟩; refine ⟨_, rfl, ?_⟩; have HO230 := Aside0.mk (Kd.R_lower ho0 (below_size (bl_ HB.out))); replace HB := bo_ HB hb; (try clear hb); (try clear ho0)))
 go_loopg [4] k (fun kq v4 w' => ∃ (x4_1 : Int), v4 = .int .i64 x4_1 ∧ Aside0 (spec_l3Ends.l0 kq l0 t228 x4_1 = some r) ∧ Aside0 (kq ≤ k) ∧ Aside0 (Kd.R Kd.bool 4 w' w.heap.size (fun _ => True) v229 t228) ∧ Aside0 (Below w.heap.size w w'))
 case atStart => exact ⟨(200), rs_, H', ⟨Nat.le_refl _⟩, ⟨re_ HO230.out⟩, ⟨bl_ HB.out⟩⟩
 case round =>
  clear H'
  try clear c1
  try clear p2
  obtain ⟨x4_1, rfl, HA, HK1, HO_3, HB⟩ := hrel
  cases gk with
  | zero => exact absurd HA.out (by simp [spec_l3Ends.l0])
  | succ k1 =>
   have H := HA.out
   clear HA
   simp only [spec_l3Ends.l0] at H
   by_cases c4 : 0 < (l0.length : Int)
   · rw [if_pos c4] at H
     have c4b0 : decide (0 < (l0.length : Int)) = true := decide_eq_true c4
     have c4b1 : decide (0 < l0.length) = true := decide_eq_true (by omega)
     clear c4
     by_cases c5 : x4_1 < (wrap64 (200 + (rd l0 0)))
     · rw [if_pos c5] at H
       have c5b0 : decide (x4_1 < (wrap64 (200 + (rd l0 0)))) = true := decide_eq_true c5
       clear c5
       by_cases c6 : 0 ≤ x4_1
       · rw [if_pos c6] at H
         have c6b0 : decide (0 ≤ x4_1) = true := decide_eq_true c6
         clear c6
         by_cases c7 : x4_1 < (t228.length : Int)
         · rw [if_pos c7] at H
           have c7b0 : decide (x4_1 < (t228.length : Int)) = true := decide_eq_true c7
           clear c7
           obtain ⟨bq8, hbq8⟩ : ∃ b_ : Bool, b_ = (rdOf false t228 x4_1) := ⟨_, rfl⟩
           replace H : (if bq8 = true then (spec_l3Ends.l0 k1 l0 t228 (wrap64 (x4_1 + 1))) else (some false)) = some r := by rw [← hbq8] at H; exact H
           have Nbq8 := Aside0.mk hbq8
           clear hbq8
           by_cases c9 : bq8 = true
           · subst c9
             rw [if_pos rfl] at H
             have H' := Aside0.mk H
             clear H
             have p231 : 0 ≤ (0 : Int) := (by omega)
             have q231 : 0 < (l0.length : Int) := od_
             obtain ⟨ad231, e231, hx231_0⟩ := Kd.at_int HR0.out 0 p231 q231
             cases e231
             have qi231 : (0 < l0.length) = True := eq_true (by omega)
             (try rw [show ((0 : Int)).toNat = 0 from rfl] at hx231_0)
             (try rw [Addr.add_zero'] at hx231_0)
             (try replace hx231_0 := (HB.out.cell (World.block_lt_of_cell? w _ hx231_0)).trans hx231_0)
             replace p231 := eq_true p231
             replace q231 := eq_true q231
             obtain ⟨Ao10, co10, eo10⟩ := Kd.R_slice HO_3.out
             subst eo10
             have p232 : 0 ≤ (x4_1 : Int) := od_
             have q232 : x4_1 < (t228.length : Int) := od_
             obtain ⟨ad232, e232, hx232_0⟩ := Kd.at_bool (Kd.R_reads' HO_3.out).2.2 x4_1 p232 q232
             (try rw [← Nbq8.out] at hx232_0)
             cases e232
             replace p232 := eq_true p232
             replace q232 := eq_true q232
             go_wp2
             go_roundg k1
             case measure => have := HK1.out; omega
             case rel => exact ⟨(wrap64 (x4_1 + 1)), rs_, H', ⟨by have := HK1.out; omega⟩, ⟨re_ HO_3.out⟩, ⟨bl_ HB.out⟩⟩
           · replace c9 := Bool.eq_false_iff.mpr c9
             subst c9
             rw [if_neg (show ¬ (false = true) by decide)] at H
             obtain rfl := Option.some.inj H
             have p231 : 0 ≤ (0 : Int) := (by omega)
             have q231 : 0 < (l0.length : Int) := od_
             obtain ⟨ad231, e231, hx231_0⟩ := Kd.at_int HR0.out 0 p231 q231
             cases e231
             have qi231 : (0 < l0.length) = True := eq_true (by omega)
             (try rw [show ((0 : Int)).toNat = 0 from rfl] at hx231_0)
             (try rw [Addr.add_zero'] at hx231_0)
             (try replace hx231_0 := (HB.out.cell (World.block_lt_of_cell? w _ hx231_0)).trans hx231_0)
             replace p231 := eq_true p231
             replace q231 := eq_true q231
             obtain ⟨Ao11, co11, eo11⟩ := Kd.R_slice HO_3.out
             subst eo11
             have p232 : 0 ≤ (x4_1 : Int) := od_
             have q232 : x4_1 < (t228.length : Int) := od_
             obtain ⟨ad232, e232, hx232_0⟩ := Kd.at_bool (Kd.R_reads' HO_3.out).2.2 x4_1 p232 q232
             (try rw [← Nbq8.out] at hx232_0)
             cases e232
             replace p232 := eq_true p232
             replace q232 := eq_true q232
             go_wp2
             go_ret
             exact ⟨rf_, bl_ HB.out⟩
         · rw [if_neg c7] at H
           cases H
       · rw [if_neg c6] at H
         cases H
     · rw [if_neg c5] at H
       have c5b0 : decide (x4_1 < (wrap64 (200 + (rd l0 0)))) = false := decide_eq_false c5
       clear c5
       obtain rfl := Option.some.inj H
       have p231 : 0 ≤ (0 : Int) := (by omega)
       have q231 : 0 < (l0.length : Int) := od_
       obtain ⟨ad231, e231, hx231_0⟩ := Kd.at_int HR0.out 0 p231 q231
       cases e231
       have qi231 : (0 < l0.length) = True := eq_true (by omega)
       (try rw [show ((0 : Int)).toNat = 0 from rfl] at hx231_0)
       (try rw [Addr.add_zero'] at hx231_0)
       (try replace hx231_0 := (HB.out.cell (World.block_lt_of_cell? w _ hx231_0)).trans hx231_0)
       replace p231 := eq_true p231
       replace q231 := eq_true q231
       go_wp2
       go_ret
       exact ⟨rf_, bl_ HB.out⟩
   · rw [if_neg c4] at H
     cases H
def spec_IsSemigroup.f (k : Nat) (l0_0 : List Int) : Option (Bool) := (spec_l3Gens.f k l0_0).bind fun t234 => (if t234 = true then (if (l0_0.length : Int) ≤ 12 then ((spec_IsAscending.f k l0_0).bind fun t235 => (if t235 = true then ((spec_GcdOfList.f k l0_0).bind fun t236 => (if t236 = 1 then ((spec_l3Minimal.f k l0_0).bind fun t237 => ((spec_l2Same.f k t237 l0_0).bind fun t240 => (if t240 = true then ((spec_l3Ends.f k l0_0).bind fun t241 => (some t241)) else (some false)))) else (some false))) else (some false))) else (some false)) else (some false))
theorem spec_IsSemigroup.mono : ∀ a0 k, LeO (spec_IsSemigroup.f k a0) (spec_IsSemigroup.f (k + 1) a0) := by
 intro a0 k
 unfold spec_IsSemigroup.f
 repeat' first
  | (with_reducible exact spec_GcdOfList.mono _ _)
  | (with_reducible exact spec_IsAscending.mono _ _)
  | (with_reducible exact spec_l2Same.mono _ _ _)
  | (with_reducible exact spec_l3Ends.mono _ _)
  | (with_reducible exact spec_l3Gens.mono _ _)
  | (with_reducible exact spec_l3Minimal.mono _ _)
  | (with_reducible exact LeO.refl _)
  | (with_reducible exact LeO.none _)
  | (with_reducible refine LeO.ite ?_ ?_)
  | (with_reducible refine LeO.bind ?_ (fun _ => ?_))
  | exact LeO.none _
  | refine LeO.ite ?_ ?_
  | refine LeO.bind ?_ (fun _ => ?_)
def spec_IsSemigroup.T1 : Bool × List (List Nat × List Nat) := (true, [([], []), ([0], [0]), ([1], [1]), ([2, 2], [2]), ([3], [3]), ([4, 3], [3, 4]), ([5, 3], [3, 5]), ([6, 3], [3, 6]), ([3, 7], [3, 7]), ([8, 3], [8]), ([9], [9]), ([10, 9], [9, 10]), ([11, 9, 9], [9, 11]), ([9, 12], [9, 12]), ([13, 12], [13]), ([14], [14]), ([15, 14], [14, 15]), ([16, 14, 14], [14, 16]), ([17, 14], [14, 17]), ([14, 18], [14, 18]), ([19, 17], [19]), ([20], [20]), ([21, 20], [20, 21]), ([22, 20, 20], [20, 22]), ([20], [20]), ([24, 20], [20, 24]), ([23, 25, 23, 20], [20, 23, 25]), ([20, 26], [20, 26]), ([27, 26], [27]), ([28], [28]), ([29, 28], [28, 29]), ([30, 28, 28], [28, 30]), ([28, 31], [28, 31]), ([32, 31, 0, 1, 2, 3, 4, 5, 6, 7, 8, 9, 10, 11, 12, 13, 14, 15, 16, 17, 18, 19, 20, 21, 22, 23, 24, 25, 26, 27, 28, 29, 30, 31, 32], [32])])
def spec_IsSemigroup.B1 : List Nat := [0, 1, 3, 7, 15, 31, 63, 127, 255, 511, 1023, 2047, 4095, 8191, 16383, 32767, 65535, 131071, 262143, 524287, 1048575, 2097151, 4194303, 8388607, 2097151, 18874367, 67108863, 134217727, 268435455, 536870911, 1073741823, 2147483647, 4294967295, 8589934591]
theorem spec_IsSemigroup.tab1 : rtab .any (opsOf Tryz.f34 1) = spec_IsSemigroup.T1 := by kernel_rfl
theorem spec_IsSemigroup.bits1 : waitsOk spec_IsSemigroup.T1.2 spec_IsSemigroup.B1 = true := by kernel_rfl
theorem spec_IsSemigroup.calls (k : Nat) (A0_0 : Option Addr) (c0_0 : Nat) (l0_0 : List Int) (r : Bool) (w : World) (hr0_0 : Kd.C (Kd.int .i64) w A0_0 l0_0.length l0_0) (hc0_0 : l0_0.length ≤ c0_0) (h : spec_IsSemigroup.f k l0_0 = some r) :
 Calls Tryz.prog 34 #[.agg #[.slice A0_0 l0_0.length c0_0]] w fun e w' => e = .returned (.bool r) ∧ Below w.heap.size w w' := by
 have hu29 := Tryz.underlying29
 have HR0_0 := Aside0.mk hr0_0
 have HC0_0 := Aside0.mk hc0_0
 clear hr0_0 hc0_0
 have HB := Aside0.mk (Below.refl w.heap.size w)
 have H := h
 clear h
 unfold spec_IsSemigroup.f at H
 obtain ⟨t234, A2, H⟩ := ob_ H
 by_cases c3 : t234 = true
 · subst c3
   rw [if_pos rfl] at H
   by_cases c4 : (l0_0.length : Int) ≤ 12
   · rw [if_pos c4] at H
     have c4b0 : decide ((l0_0.length : Int) ≤ 12) = true := decide_eq_true c4
     have c4b1 : decide (l0_0.length ≤ 12) = true := decide_eq_true (by omega)
     clear c4
     obtain ⟨t235, A5, H⟩ := ob_ H
     by_cases c6 : t235 = true
     · subst c6
       rw [if_pos rfl] at H
       obtain ⟨t236, A7, H⟩ := ob_ H
       by_cases c8 : t236 = 1
       · rw [if_pos c8] at H
         have c8b0 : (t236 == 1) = true := beq_iff_eq.mpr c8
         have c8b1 : (t236 != 1) = false := bne_eq_false_iff_eq.mpr c8
         clear c8
         obtain ⟨t237, A9, H⟩ := ob_ H
         obtain ⟨t240, A10, H⟩ := ob_ H
         by_cases c11 : t240 = true
         · subst c11
           rw [if_pos rfl] at H
           obtain ⟨t241, A12, H⟩ := ob_ H
           obtain rfl := Option.some.inj H
           go_enter Tryz.func34, Tryz.ntmps34
           try go_wp2_with (first | ((with_reducible refine gate_dst (N := 1) rfl ?_); (try (refine gate_guard (by rfl) ?_; dsimp only)); refine bx_ 1 #[.slice A0_0 l0_0.length c0_0] 29 ?_; intro gb233 hg w13 hbox hb; have BK233 := Aside0.mk (hbox); have GW233 := gw_ hg HB; have GE233 := gw_ hg HB; replace HB := bo_ HB hb; clear hb hbox hg))
           replace BK233 := Aside0.mk (blk_drew BK233.out)
           replace HB := Aside0.mk (below_drew1 HB.out)
           refine start_ (n := 34) (S := fun w' => w'.cell? ⟨gb233, 0, none⟩ = some (.slice A0_0 l0_0.length c0_0)) (ds := []) (B_ 0 34) (by kernel_rfl) rfl rfl ((blk_cell BK233.out 0).trans rfl) (fun hHeld => ?_); refine with_tabW spec_IsSemigroup.tab1 spec_IsSemigroup.bits1 (fun HT_ HW_ => ?_)
           generalize w13.drew = w14 at BK233 HB hHeld ⊢
           refine pu_ HT_ 0 3 (B_ 1 34) ?_
           refine tk1_ HT_ HW_ hHeld 1 4 (B_ 3 34) ?_
           refine on_ HT_ 2 5 (B_ 7 34) (fun K hK => ?_)
           refine goes_ Tryz.func66 (by kernel_rfl) rfl #[.slice A0_0 l0_0.length c0_0] (by rfl) rfl rfl (by (try simp only [List.map_toArray, List.map_cons, List.map_nil]); first | done | rfl | (simp only [List.length_drop, List.length_take]; rfl)) ?_
           with_reducible refine (spec_l3Gens.calls k _ _ l0_0 true _ ?side1 ?side2 A2.out).mono ?_
           (case side1 => exact ch_ HR0_0 HB)
           (case side2 => exact HC0_0.out)
           rintro e w' ⟨rfl, ⟨nd, rfl⟩⟩
           refine ⟨_, rfl, ?_⟩
           refine hK.out _ _ ((blk_cell BK233.out 0).trans rfl) (fun hHeld => ?_)
           clear hK K
           refine norm_ (a' := ?_) ?_ ?_
           rotate_left
           · show Act.put _ (some 5) _ = _
             simp only [Act.put, z1_, z2_, z3_, i64_w, i32_w]
             rfl
           refine pu_ HT_ 3 6 (B_ 15 34) ?_
           refine pu_ HT_ 4 7 (B_ 31 34) ?_
           refine tk1_ HT_ HW_ hHeld 5 8 (B_ 63 34) ?_
           refine pu_ HT_ 6 9 (B_ 127 34) ?_
           refine pu_ HT_ 7 10 (B_ 255 34) ?_
           refine pu_ HT_ 8 11 (B_ 511 34) ?_
           refine pu_ HT_ 9 12 (B_ 1023 34) ?_
           refine pu_ HT_ 10 13 (B_ 2047 34) ?_
           refine tk1_ HT_ HW_ hHeld 11 14 (B_ 4095 34) ?_
           refine on_ HT_ 12 15 (B_ 8191 34) (fun K hK => ?_)
           refine goes_ Tryz.func67 (by kernel_rfl) rfl #[.slice A0_0 l0_0.length c0_0] (by rfl) rfl rfl (by (try simp only [List.map_toArray, List.map_cons, List.map_nil]); first | done | rfl | (simp only [List.length_drop, List.length_take]; rfl)) ?_
           with_reducible refine (spec_IsAscending.calls k _ _ l0_0 true _ ?side1 ?side2 A5.out).mono ?_
           (case side1 => repeat (first | exact (Kd.C_below HR0_0.out (bq_ HB)) | (with_reducible refine Kd.C_alloc ?_ _) | (with_reducible refine Kd.C_drewN ?_ _) | (with_reducible refine Kd.C_drew ?_)))
           (case side2 => exact HC0_0.out)
           rintro e w' ⟨rfl, ⟨nd, rfl⟩⟩
           refine ⟨_, rfl, ?_⟩
           refine hK.out _ _ ((blk_cell BK233.out 0).trans rfl) (fun hHeld => ?_)
           clear hK K
           refine norm_ (a' := ?_) ?_ ?_
           rotate_left
           · show Act.put _ (some 15) _ = _
             simp only [Act.put, z1_, z2_, z3_, i64_w, i32_w]
             rfl
           refine pu_ HT_ 13 16 (B_ 16383 34) ?_
           refine pu_ HT_ 14 17 (B_ 32767 34) ?_
           refine pu_ HT_ 15 18 (B_ 65535 34) ?_
           refine tk1_ HT_ HW_ hHeld 16 19 (B_ 131071 34) ?_
           refine on_ HT_ 17 20 (B_ 262143 34) (fun K hK => ?_)
           refine goes_ Tryz.func68 (by kernel_rfl) rfl #[.slice A0_0 l0_0.length c0_0] (by rfl) rfl rfl (by (try simp only [List.map_toArray, List.map_cons, List.map_nil]); first | done | rfl | (simp only [List.length_drop, List.length_take]; rfl)) ?_
           with_reducible refine (spec_GcdOfList.calls k _ _ l0_0 t236 _ ?side1 ?side2 A7.out).mono ?_
           (case side1 => repeat (first | exact (Kd.C_below HR0_0.out (bq_ HB)) | (with_reducible refine Kd.C_alloc ?_ _) | (with_reducible refine Kd.C_drewN ?_ _) | (with_reducible refine Kd.C_drew ?_)))
           (case side2 => exact HC0_0.out)
           rintro e w' ⟨rfl, ⟨nd, rfl⟩⟩
           refine ⟨_, rfl, ?_⟩
           refine hK.out _ _ ((blk_cell BK233.out 0).trans rfl) (fun hHeld => ?_)
           clear hK K
           refine norm_ (a' := ?_) ?_ ?_
           rotate_left
           · show Act.put _ (some 20) _ = _
             simp only [Act.put, z1_, z2_, z3_, i64_w, i32_w]
             rfl
           refine pu_ HT_ 18 21 (B_ 524287 34) ?_
           refine pu_ HT_ 19 22 (B_ 1048575 34) ?_
           refine pu_ HT_ 20 23 (B_ 2097151 34) ?_
           refine pu_ HT_ 21 24 (B_ 4194303 34) ?_
           refine pu_ HT_ 24 27 (B_ 20971519 34) ?_
           refine tk1_ HT_ HW_ hHeld 22 25 (B_ 25165823 34) ?_
           refine tk1_ HT_ HW_ hHeld 25 28 (B_ 58720255 34) ?_
           refine on_ HT_ 23 26 (B_ 67108863 34) (fun K hK => ?_)
           refine goes_ Tryz.func70 (by kernel_rfl) rfl #[.slice A0_0 l0_0.length c0_0] (by rfl) rfl rfl (by (try simp only [List.map_toArray, List.map_cons, List.map_nil]); first | done | rfl | (simp only [List.length_drop, List.length_take]; rfl)) ?_
           with_reducible refine (spec_l3Minimal.calls k _ _ l0_0 t237 _ ?side1 ?side2 A9.out).mono ?_
           (case side1 => repeat (first | exact (Kd.C_below HR0_0.out (bq_ HB)) | (with_reducible refine Kd.C_alloc ?_ _) | (with_reducible refine Kd.C_drewN ?_ _) | (with_reducible refine Kd.C_drew ?_)))
           (case side2 => exact HC0_0.out)
           rintro e w15 ⟨v238, rfl, ho0, hb⟩
           refine ⟨_, rfl, ?_⟩
           have HO239 := Aside0.mk (Kd.R_lower ho0 (below_size (bq_ HB)))
           replace BK233 := bk_ BK233 hb
           replace HB := bp_ HB hb
           (try clear hb)
           (try clear ho0)
           obtain ⟨Ao16, co16, eo16⟩ := Kd.R_slice HO239.out
           (first | subst eo16 | (injection eo16 with f1_ f2_ f3_; have f4_ := f1_.symm; have f5_ := f3_.symm; clear f1_ f2_ f3_; subst f4_; subst f5_))
           refine hK.out _ _ ((blk_cell BK233.out 0).trans rfl) (fun hHeld => ?_)
           clear hK K
           refine norm_ (a' := ?_) ?_ ?_
           rotate_left
           · show Act.put _ (some 26) _ = _
             simp only [Act.put, z1_, z2_, z3_, i64_w, i32_w]
             rfl
           refine on_ HT_ 26 29 (B_ 134217727 34) (fun K hK => ?_)
           refine goes_ Tryz.func69 (by kernel_rfl) rfl #[.slice Ao16 t237.length co16, .slice A0_0 l0_0.length c0_0] (by rfl) rfl rfl (by (try simp only [List.map_toArray, List.map_cons, List.map_nil]); first | done | rfl | (simp only [List.length_drop, List.length_take]; rfl)) ?_
           with_reducible refine (spec_l2Same.calls k _ _ t237 _ _ l0_0 true _ ?side1 ?side2 ?side3 ?side4 A10.out).mono ?_
           (case side1 => exact ce_ ((Kd.R_reads' HO239.out).2.2))
           (case side2 => exact (Kd.R_reads' HO239.out).2.1)
           (case side3 => exact ch_ HR0_0 HB)
           (case side4 => exact HC0_0.out)
           rintro e w' ⟨rfl, ⟨nd, rfl⟩⟩
           refine ⟨_, rfl, ?_⟩
           refine hK.out _ _ ((blk_cell BK233.out 0).trans rfl) (fun hHeld => ?_)
           clear hK K
           refine norm_ (a' := ?_) ?_ ?_
           rotate_left
           · show Act.put _ (some 29) _ = _
             simp only [Act.put, z1_, z2_, z3_, i64_w, i32_w]
             rfl
           refine pu_ HT_ 27 30 (B_ 268435455 34) ?_
           refine pu_ HT_ 28 31 (B_ 536870911 34) ?_
           refine pu_ HT_ 29 32 (B_ 1073741823 34) ?_
           refine tk1_ HT_ HW_ hHeld 30 33 (B_ 2147483647 34) ?_
           refine on_ HT_ 31 34 (B_ 4294967295 34) (fun K hK => ?_)
           refine goes_ Tryz.func71 (by kernel_rfl) rfl #[.slice A0_0 l0_0.length c0_0] (by rfl) rfl rfl (by (try simp only [List.map_toArray, List.map_cons, List.map_nil]); first | done | rfl | (simp only [List.length_drop, List.length_take]; rfl)) ?_
           with_reducible refine (spec_l3Ends.calls k _ _ l0_0 t241 _ ?side1 ?side2 A12.out).mono ?_
           (case side1 => repeat (first | exact (Kd.C_below HR0_0.out (bq_ HB)) | (with_reducible refine Kd.C_alloc ?_ _) | (with_reducible refine Kd.C_drewN ?_ _) | (with_reducible refine Kd.C_drew ?_)))
           (case side2 => exact HC0_0.out)
           rintro e w17 ⟨rfl, hb⟩
           refine ⟨_, rfl, ?_⟩
           replace HO239 := Aside0.mk (Kd.R_below (re_ HO239.out) hb)
           replace BK233 := bk_ BK233 hb
           replace HB := bp_ HB hb
           (try clear hb)
           refine hK.out _ _ ((blk_cell BK233.out 0).trans rfl) (fun hHeld => ?_)
           clear hK K
           refine norm_ (a' := ?_) ?_ ?_
           rotate_left
           · show Act.put _ (some 34) _ = _
             simp only [Act.put, z1_, z2_, z3_, i64_w, i32_w]
             rfl
           refine pu_ HT_ 32 35 (B_ 8589934591 34) ?_
           refine pu_ HT_ 33 2 (B_ 17179869183 34) ?_
           refine done_ (done_of HT_.out (by kernel_rfl)) ?_
           try go_wp2
           go_ret
           exact ⟨rf_, bq_ HB⟩
         · replace c11 := Bool.eq_false_iff.mpr c11
           subst c11
           rw [if_neg (show ¬ (false = true) by decide)] at H
           obtain rfl := Option.some.inj H
           go_enter Tryz.func34, Tryz.ntmps34
           try go_wp2_with (first | ((with_reducible refine gate_dst (N := 1) rfl ?_); (try (refine gate_guard (by rfl) ?_; dsimp only)); refine bx_ 1 #[.slice A0_0 l0_0.length c0_0] 29 ?_; intro gb233 hg w18 hbox hb; have BK233 := Aside0.mk (hbox); have GW233 := gw_ hg HB; have GE233 := gw_ hg HB; replace HB := bo_ HB hb; clear hb hbox hg))
           replace BK233 := Aside0.mk (blk_drew BK233.out)
           replace HB := Aside0.mk (below_drew1 HB.out)
           refine start_ (n := 34) (S := fun w' => w'.cell? ⟨gb233, 0, none⟩ = some (.slice A0_0 l0_0.length c0_0)) (ds := []) (B_ 0 34) (by kernel_rfl) rfl rfl ((blk_cell BK233.out 0).trans rfl) (fun hHeld => ?_); refine with_tabW spec_IsSemigroup.tab1 spec_IsSemigroup.bits1 (fun HT_ HW_ => ?_)
           generalize w18.drew = w19 at BK233 HB hHeld ⊢
           refine pu_ HT_ 0 3 (B_ 1 34) ?_
           refine tk1_ HT_ HW_ hHeld 1 4 (B_ 3 34) ?_
           refine on_ HT_ 2 5 (B_ 7 34) (fun K hK => ?_)
           refine goes_ Tryz.func66 (by kernel_rfl) rfl #[.slice A0_0 l0_0.length c0_0] (by rfl) rfl rfl (by (try simp only [List.map_toArray, List.map_cons, List.map_nil]); first | done | rfl | (simp only [List.length_drop, List.length_take]; rfl)) ?_
           with_reducible refine (spec_l3Gens.calls k _ _ l0_0 true _ ?side1 ?side2 A2.out).mono ?_
           (case side1 => exact ch_ HR0_0 HB)
           (case side2 => exact HC0_0.out)
           rintro e w' ⟨rfl, ⟨nd, rfl⟩⟩
           refine ⟨_, rfl, ?_⟩
           refine hK.out _ _ ((blk_cell BK233.out 0).trans rfl) (fun hHeld => ?_)
           clear hK K
           refine norm_ (a' := ?_) ?_ ?_
           rotate_left
           · show Act.put _ (some 5) _ = _
             simp only [Act.put, z1_, z2_, z3_, i64_w, i32_w]
             rfl
           refine pu_ HT_ 3 6 (B_ 15 34) ?_
           refine pu_ HT_ 4 7 (B_ 31 34) ?_
           refine tk1_ HT_ HW_ hHeld 5 8 (B_ 63 34) ?_
           refine pu_ HT_ 6 9 (B_ 127 34) ?_
           refine pu_ HT_ 7 10 (B_ 255 34) ?_
           refine pu_ HT_ 8 11 (B_ 511 34) ?_
           refine pu_ HT_ 9 12 (B_ 1023 34) ?_
           refine pu_ HT_ 10 13 (B_ 2047 34) ?_
           refine tk1_ HT_ HW_ hHeld 11 14 (B_ 4095 34) ?_
           refine on_ HT_ 12 15 (B_ 8191 34) (fun K hK => ?_)
           refine goes_ Tryz.func67 (by kernel_rfl) rfl #[.slice A0_0 l0_0.length c0_0] (by rfl) rfl rfl (by (try simp only [List.map_toArray, List.map_cons, List.map_nil]); first | done | rfl | (simp only [List.length_drop, List.length_take]; rfl)) ?_
           with_reducible refine (spec_IsAscending.calls k _ _ l0_0 true _ ?side1 ?side2 A5.out).mono ?_
           (case side1 => repeat (first | exact (Kd.C_below HR0_0.out (bq_ HB)) | (with_reducible refine Kd.C_alloc ?_ _) | (with_reducible refine Kd.C_drewN ?_ _) | (with_reducible refine Kd.C_drew ?_)))
           (case side2 => exact HC0_0.out)
           rintro e w' ⟨rfl, ⟨nd, rfl⟩⟩
           refine ⟨_, rfl, ?_⟩
           refine hK.out _ _ ((blk_cell BK233.out 0).trans rfl) (fun hHeld => ?_)
           clear hK K
           refine norm_ (a' := ?_) ?_ ?_
           rotate_left
           · show Act.put _ (some 15) _ = _
             simp only [Act.put, z1_, z2_, z3_, i64_w, i32_w]
             rfl
           refine pu_ HT_ 13 16 (B_ 16383 34) ?_
           refine pu_ HT_ 14 17 (B_ 32767 34) ?_
           refine pu_ HT_ 15 18 (B_ 65535 34) ?_
           refine tk1_ HT_ HW_ hHeld 16 19 (B_ 131071 34) ?_
           refine on_ HT_ 17 20 (B_ 262143 34) (fun K hK => ?_)
           refine goes_ Tryz.func68 (by kernel_rfl) rfl #[.slice A0_0 l0_0.length c0_0] (by rfl) rfl rfl (by (try simp only [List.map_toArray, List.map_cons, List.map_nil]); first | done | rfl | (simp only [List.length_drop, List.length_take]; rfl)) ?_
           with_reducible refine (spec_GcdOfList.calls k _ _ l0_0 t236 _ ?side1 ?side2 A7.out).mono ?_
           (case side1 => repeat (first | exact (Kd.C_below HR0_0.out (bq_ HB)) | (with_reducible refine Kd.C_alloc ?_ _) | (with_reducible refine Kd.C_drewN ?_ _) | (with_reducible refine Kd.C_drew ?_)))
           (case side2 => exact HC0_0.out)
           rintro e w' ⟨rfl, ⟨nd, rfl⟩⟩
           refine ⟨_, rfl, ?_⟩
           refine hK.out _ _ ((blk_cell BK233.out 0).trans rfl) (fun hHeld => ?_)
           clear hK K
           refine norm_ (a' := ?_) ?_ ?_
           rotate_left
           · show Act.put _ (some 20) _ = _
             simp only [Act.put, z1_, z2_, z3_, i64_w, i32_w]
             rfl
           refine pu_ HT_ 18 21 (B_ 524287 34) ?_
           refine pu_ HT_ 19 22 (B_ 1048575 34) ?_
           refine pu_ HT_ 20 23 (B_ 2097151 34) ?_
           refine pu_ HT_ 21 24 (B_ 4194303 34) ?_
           refine pu_ HT_ 24 27 (B_ 20971519 34) ?_
           refine tk1_ HT_ HW_ hHeld 22 25 (B_ 25165823 34) ?_
           refine tk1_ HT_ HW_ hHeld 25 28 (B_ 58720255 34) ?_
           refine on_ HT_ 23 26 (B_ 67108863 34) (fun K hK => ?_)
           refine goes_ Tryz.func70 (by kernel_rfl) rfl #[.slice A0_0 l0_0.length c0_0] (by rfl) rfl rfl (by (try simp only [List.map_toArray, List.map_cons, List.map_nil]); first | done | rfl | (simp only [List.length_drop, List.length_take]; rfl)) ?_
           with_reducible refine (spec_l3Minimal.calls k _ _ l0_0 t237 _ ?side1 ?side2 A9.out).mono ?_
           (case side1 => repeat (first | exact (Kd.C_below HR0_0.out (bq_ HB)) | (with_reducible refine Kd.C_alloc ?_ _) | (with_reducible refine Kd.C_drewN ?_ _) | (with_reducible refine Kd.C_drew ?_)))
           (case side2 => exact HC0_0.out)
           rintro e w20 ⟨v238, rfl, ho0, hb⟩
           refine ⟨_, rfl, ?_⟩
           have HO239 := Aside0.mk (Kd.R_lower ho0 (below_size (bq_ HB)))
           replace BK233 := bk_ BK233 hb
           replace HB := bp_ HB hb
           (try clear hb)
           (try clear ho0)
           obtain ⟨Ao21, co21, eo21⟩ := Kd.R_slice HO239.out
           (first | subst eo21 | (injection eo21 with f1_ f2_ f3_; have f4_ := f1_.symm; have f5_ := f3_.symm; clear f1_ f2_ f3_; subst f4_; subst f5_))
           refine hK.out _ _ ((blk_cell BK233.out 0).trans rfl) (fun hHeld => ?_)
           clear hK K
           refine norm_ (a' := ?_) ?_ ?_
           rotate_left
           · show Act.put _ (some 26) _ = _
             simp only [Act.put, z1_, z2_, z3_, i64_w, i32_w]
             rfl
           refine on_ HT_ 26 29 (B_ 134217727 34) (fun K hK => ?_)
           refine goes_ Tryz.func69 (by kernel_rfl) rfl #[.slice Ao21 t237.length co21, .slice A0_0 l0_0.length c0_0] (by rfl) rfl rfl (by (try simp only [List.map_toArray, List.map_cons, List.map_nil]); first | done | rfl | (simp only [List.length_drop, List.length_take]; rfl)) ?_
           with_reducible refine (spec_l2Same.calls k _ _ t237 _ _ l0_0 false _ ?side1 ?side2 ?side3 ?side4 A10.out).mono ?_
           (case side1 => exact ce_ ((Kd.R_reads' HO239.out).2.2))
           (case side2 => exact (Kd.R_reads' HO239.out).2.1)
           (case side3 => exact ch_ HR0_0 HB)
           (case side4 => exact HC0_0.out)
           rintro e w' ⟨rfl, ⟨nd, rfl⟩⟩
           refine ⟨_, rfl, ?_⟩
           refine hK.out _ _ ((blk_cell BK233.out 0).trans rfl) (fun hHeld => ?_)
           clear hK K
           refine norm_ (a' := ?_) ?_ ?_
           rotate_left
           · show Act.put _ (some 29) _ = _
             simp only [Act.put, z1_, z2_, z3_, i64_w, i32_w]
             rfl
           refine pu_ HT_ 27 30 (B_ 268435455 34) ?_
           refine pu_ HT_ 28 31 (B_ 536870911 34) ?_
           refine pn_ HT_ 29 32 (B_ 1073741823 34) ?_
           refine pn_ HT_ 30 33 (B_ 2147483647 34) ?_
           refine pn_ HT_ 31 34 (B_ 4294967295 34) ?_
           refine pu_ HT_ 32 35 (B_ 8589934591 34) ?_
           refine pu_ HT_ 33 2 (B_ 17179869183 34) ?_
           refine done_ (done_of HT_.out (by kernel_rfl)) ?_
           try go_wp2
           go_ret
           exact ⟨rf_, bq_ HB⟩
       · rw [if_neg c8] at H
         have c8b0 : (t236 == 1) = false := beq_eq_false_iff_ne.mpr c8
         have c8b1 : (t236 != 1) = true := bne_iff_ne.mpr c8
         obtain rfl := Option.some.inj H
         go_enter Tryz.func34, Tryz.ntmps34
         try go_wp2_with (first | ((with_reducible refine gate_dst (N := 1) rfl ?_); (try (refine gate_guard (by rfl) ?_; dsimp only)); refine bx_ 1 #[.slice A0_0 l0_0.length c0_0] 29 ?_; intro gb233 hg w22 hbox hb; have BK233 := Aside0.mk (hbox); have GW233 := gw_ hg HB; have GE233 := gw_ hg HB; replace HB := bo_ HB hb; clear hb hbox hg))
         replace BK233 := Aside0.mk (blk_drew BK233.out)
         replace HB := Aside0.mk (below_drew1 HB.out)
         refine start_ (n := 34) (S := fun w' => w'.cell? ⟨gb233, 0, none⟩ = some (.slice A0_0 l0_0.length c0_0)) (ds := []) (B_ 0 34) (by kernel_rfl) rfl rfl ((blk_cell BK233.out 0).trans rfl) (fun hHeld => ?_); refine with_tabW spec_IsSemigroup.tab1 spec_IsSemigroup.bits1 (fun HT_ HW_ => ?_)
         generalize w22.drew = w23 at BK233 HB hHeld ⊢
         refine pu_ HT_ 0 3 (B_ 1 34) ?_
         refine tk1_ HT_ HW_ hHeld 1 4 (B_ 3 34) ?_
         refine on_ HT_ 2 5 (B_ 7 34) (fun K hK => ?_)
         refine goes_ Tryz.func66 (by kernel_rfl) rfl #[.slice A0_0 l0_0.length c0_0] (by rfl) rfl rfl (by (try simp only [List.map_toArray, List.map_cons, List.map_nil]); first | done | rfl | (simp only [List.length_drop, List.length_take]; rfl)) ?_
         with_reducible refine (spec_l3Gens.calls k _ _ l0_0 true _ ?side1 ?side2 A2.out).mono ?_
         (case side1 => exact ch_ HR0_0 HB)
         (case side2 => exact HC0_0.out)
         rintro e w' ⟨rfl, ⟨nd, rfl⟩⟩
         refine ⟨_, rfl, ?_⟩
         refine hK.out _ _ ((blk_cell BK233.out 0).trans rfl) (fun hHeld => ?_)
         clear hK K
         refine norm_ (a' := ?_) ?_ ?_
         rotate_left
         · show Act.put _ (some 5) _ = _
           simp only [Act.put, z1_, z2_, z3_, i64_w, i32_w]
           rfl
         refine pu_ HT_ 3 6 (B_ 15 34) ?_
         refine pu_ HT_ 4 7 (B_ 31 34) ?_
         refine tk1_ HT_ HW_ hHeld 5 8 (B_ 63 34) ?_
         refine pu_ HT_ 6 9 (B_ 127 34) ?_
         refine pu_ HT_ 7 10 (B_ 255 34) ?_
         refine pu_ HT_ 8 11 (B_ 511 34) ?_
         refine pu_ HT_ 9 12 (B_ 1023 34) ?_
         refine pu_ HT_ 10 13 (B_ 2047 34) ?_
         refine tk1_ HT_ HW_ hHeld 11 14 (B_ 4095 34) ?_
         refine on_ HT_ 12 15 (B_ 8191 34) (fun K hK => ?_)
         refine goes_ Tryz.func67 (by kernel_rfl) rfl #[.slice A0_0 l0_0.length c0_0] (by rfl) rfl rfl (by (try simp only [List.map_toArray, List.map_cons, List.map_nil]); first | done | rfl | (simp only [List.length_drop, List.length_take]; rfl)) ?_
         with_reducible refine (spec_IsAscending.calls k _ _ l0_0 true _ ?side1 ?side2 A5.out).mono ?_
         (case side1 => repeat (first | exact (Kd.C_below HR0_0.out (bq_ HB)) | (with_reducible refine Kd.C_alloc ?_ _) | (with_reducible refine Kd.C_drewN ?_ _) | (with_reducible refine Kd.C_drew ?_)))
         (case side2 => exact HC0_0.out)
         rintro e w' ⟨rfl, ⟨nd, rfl⟩⟩
         refine ⟨_, rfl, ?_⟩
         refine hK.out _ _ ((blk_cell BK233.out 0).trans rfl) (fun hHeld => ?_)
         clear hK K
         refine norm_ (a' := ?_) ?_ ?_
         rotate_left
         · show Act.put _ (some 15) _ = _
           simp only [Act.put, z1_, z2_, z3_, i64_w, i32_w]
           rfl
         refine pu_ HT_ 13 16 (B_ 16383 34) ?_
         refine pu_ HT_ 14 17 (B_ 32767 34) ?_
         refine pu_ HT_ 15 18 (B_ 65535 34) ?_
         refine tk1_ HT_ HW_ hHeld 16 19 (B_ 131071 34) ?_
         refine on_ HT_ 17 20 (B_ 262143 34) (fun K hK => ?_)
         refine goes_ Tryz.func68 (by kernel_rfl) rfl #[.slice A0_0 l0_0.length c0_0] (by rfl) rfl rfl (by (try simp only [List.map_toArray, List.map_cons, List.map_nil]); first | done | rfl | (simp only [List.length_drop, List.length_take]; rfl)) ?_
         with_reducible refine (spec_GcdOfList.calls k _ _ l0_0 t236 _ ?side1 ?side2 A7.out).mono ?_
         (case side1 => repeat (first | exact (Kd.C_below HR0_0.out (bq_ HB)) | (with_reducible refine Kd.C_alloc ?_ _) | (with_reducible refine Kd.C_drewN ?_ _) | (with_reducible refine Kd.C_drew ?_)))
         (case side2 => exact HC0_0.out)
         rintro e w' ⟨rfl, ⟨nd, rfl⟩⟩
         refine ⟨_, rfl, ?_⟩
         refine hK.out _ _ ((blk_cell BK233.out 0).trans rfl) (fun hHeld => ?_)
         clear hK K
         refine norm_ (a' := ?_) ?_ ?_
         rotate_left
         · show Act.put _ (some 20) _ = _
           simp only [Act.put, z1_, z2_, z3_, i64_w, i32_w]
           rfl
         refine pu_ HT_ 18 21 (B_ 524287 34) ?_
         refine pu_ HT_ 19 22 (B_ 1048575 34) ?_
         refine pu_ HT_ 20 23 (B_ 2097151 34) ?_
         refine pn_ HT_ 21 24 (B_ 4194303 34) ?_
         refine pn_ HT_ 22 25 (B_ 8388607 34) ?_
         refine pn_ HT_ 23 26 (B_ 16777215 34) ?_
         refine pn_ HT_ 24 27 (B_ 33554431 34) ?_
         refine pn_ HT_ 25 28 (B_ 67108863 34) ?_
         refine pn_ HT_ 26 29 (B_ 134217727 34) ?_
         refine pu_ HT_ 27 30 (B_ 268435455 34) ?_
         refine pu_ HT_ 28 31 (B_ 536870911 34) ?_
         refine pn_ HT_ 29 32 (B_ 1073741823 34) ?_
         refine pn_ HT_ 30 33 (B_ 2147483647 34) ?_
         refine pn_ HT_ 31 34 (B_ 4294967295 34) ?_
         refine pu_ HT_ 32 35 (B_ 8589934591 34) ?_
         refine pu_ HT_ 33 2 (B_ 17179869183 34) ?_
         refine done_ (done_of HT_.out (by kernel_rfl)) ?_
         try go_wp2
         go_ret
         exact ⟨rf_, bq_ HB⟩
     · replace c6 := Bool.eq_false_iff.mpr c6
       subst c6
       rw [if_neg (show ¬ (false = true) by decide)] at H
       obtain rfl := Option.some.inj H
       go_enter Tryz.func34, Tryz.ntmps34
       try go_wp2_with (first | ((with_reducible refine gate_dst (N := 1) rfl ?_); (try (refine gate_guard (by rfl) ?_; dsimp only)); refine bx_ 1 #[.slice A0_0 l0_0.length c0_0] 29 ?_; intro gb233 hg w24 hbox hb; have BK233 := Aside0.mk (hbox); have GW233 := gw_ hg HB; have GE233 := gw_ hg HB; replace HB := bo_ HB hb; clear hb hbox hg))
       replace BK233 := Aside0.mk (blk_drew BK233.out)
       replace HB := Aside0.mk (below_drew1 HB.out)
       refine start_ (n := 34) (S := fun w' => w'.cell? ⟨gb233, 0, none⟩ = some (.slice A0_0 l0_0.length c0_0)) (ds := []) (B_ 0 34) (by kernel_rfl) rfl rfl ((blk_cell BK233.out 0).trans rfl) (fun hHeld => ?_); refine with_tabW spec_IsSemigroup.tab1 spec_IsSemigroup.bits1 (fun HT_ HW_ => ?_)
       generalize w24.drew = w25 at BK233 HB hHeld ⊢
       refine pu_ HT_ 0 3 (B_ 1 34) ?_
       refine tk1_ HT_ HW_ hHeld 1 4 (B_ 3 34) ?_
       refine on_ HT_ 2 5 (B_ 7 34) (fun K hK => ?_)
       refine goes_ Tryz.func66 (by kernel_rfl) rfl #[.slice A0_0 l0_0.length c0_0] (by rfl) rfl rfl (by (try simp only [List.map_toArray, List.map_cons, List.map_nil]); first | done | rfl | (simp only [List.length_drop, List.length_take]; rfl)) ?_
       with_reducible refine (spec_l3Gens.calls k _ _ l0_0 true _ ?side1 ?side2 A2.out).mono ?_
       (case side1 => exact ch_ HR0_0 HB)
       (case side2 => exact HC0_0.out)
       rintro e w' ⟨rfl, ⟨nd, rfl⟩⟩
       refine ⟨_, rfl, ?_⟩
       refine hK.out _ _ ((blk_cell BK233.out 0).trans rfl) (fun hHeld => ?_)
       clear hK K
       refine norm_ (a' := ?_) ?_ ?_
       rotate_left
       · show Act.put _ (some 5) _ = _
         simp only [Act.put, z1_, z2_, z3_, i64_w, i32_w]
         rfl
       refine pu_ HT_ 3 6 (B_ 15 34) ?_
       refine pu_ HT_ 4 7 (B_ 31 34) ?_
       refine tk1_ HT_ HW_ hHeld 5 8 (B_ 63 34) ?_
       refine pu_ HT_ 6 9 (B_ 127 34) ?_
       refine pu_ HT_ 7 10 (B_ 255 34) ?_
       refine pu_ HT_ 8 11 (B_ 511 34) ?_
       refine pu_ HT_ 9 12 (B_ 1023 34) ?_
       refine pu_ HT_ 10 13 (B_ 2047 34) ?_
       refine tk1_ HT_ HW_ hHeld 11 14 (B_ 4095 34) ?_
       refine on_ HT_ 12 15 (B_ 8191 34) (fun K hK => ?_)
       refine goes_ Tryz.func67 (by kernel_rfl) rfl #[.slice A0_0 l0_0.length c0_0] (by rfl) rfl rfl (by (try simp only [List.map_toArray, List.map_cons, List.map_nil]); first | done | rfl | (simp only [List.length_drop, List.length_take]; rfl)) ?_
       with_reducible refine (spec_IsAscending.calls k _ _ l0_0 false _ ?side1 ?side2 A5.out).mono ?_
       (case side1 => repeat (first | exact (Kd.C_below HR0_0.out (bq_ HB)) | (with_reducible refine Kd.C_alloc ?_ _) | (with_reducible refine Kd.C_drewN ?_ _) | (with_reducible refine Kd.C_drew ?_)))
       (case side2 => exact HC0_0.out)
       rintro e w' ⟨rfl, ⟨nd, rfl⟩⟩
       refine ⟨_, rfl, ?_⟩
       refine hK.out _ _ ((blk_cell BK233.out 0).trans rfl) (fun hHeld => ?_)
       clear hK K
       refine norm_ (a' := ?_) ?_ ?_
       rotate_left
       · show Act.put _ (some 15) _ = _
         simp only [Act.put, z1_, z2_, z3_, i64_w, i32_w]
         rfl
       refine pu_ HT_ 13 16 (B_ 16383 34) ?_
       refine pu_ HT_ 14 17 (B_ 32767 34) ?_
       refine pn_ HT_ 15 18 (B_ 65535 34) ?_
       refine pn_ HT_ 16 19 (B_ 131071 34) ?_
       refine pn_ HT_ 17 20 (B_ 262143 34) ?_
       refine pn_ HT_ 18 21 (B_ 524287 34) ?_
       refine pu_ HT_ 19 22 (B_ 1048575 34) ?_
       refine pu_ HT_ 20 23 (B_ 2097151 34) ?_
       refine pn_ HT_ 21 24 (B_ 4194303 34) ?_
       refine pn_ HT_ 22 25 (B_ 8388607 34) ?_
       refine pn_ HT_ 23 26 (B_ 16777215 34) ?_
       refine pn_ HT_ 24 27 (B_ 33554431 34) ?_
       refine pn_ HT_ 25 28 (B_ 67108863 34) ?_
       refine pn_ HT_ 26 29 (B_ 134217727 34) ?_
       refine pu_ HT_ 27 30 (B_ 268435455 34) ?_
       refine pu_ HT_ 28 31 (B_ 536870911 34) ?_
       refine pn_ HT_ 29 32 (B_ 1073741823 34) ?_
       refine pn_ HT_ 30 33 (B_ 2147483647 34) ?_
       refine pn_ HT_ 31 34 (B_ 4294967295 34) ?_
       refine pu_ HT_ 32 35 (B_ 8589934591 34) ?_
       refine pu_ HT_ 33 2 (B_ 17179869183 34) ?_
       refine done_ (done_of HT_.out (by kernel_rfl)) ?_
       try go_wp2
       go_ret
       exact ⟨rf_, bq_ HB⟩
   · rw [if_neg c4] at H
     have c4b0 : decide ((l0_0.length : Int) ≤ 12) = false := decide_eq_false c4
     have c4b1 : decide (l0_0.length ≤ 12) = false := decide_eq_false (by omega)
     clear c4
     obtain rfl := Option.some.inj H
     go_enter Tryz.func34, Tryz.ntmps34
     try go_wp2_with (first | ((with_reducible refine gate_dst (N := 1) rfl ?_); (try (refine gate_guard (by rfl) ?_; dsimp only)); refine bx_ 1 #[.slice A0_0 l0_0.length c0_0] 29 ?_; intro gb233 hg w26 hbox hb; have BK233 := Aside0.mk (hbox); have GW233 := gw_ hg HB; have GE233 := gw_ hg HB; replace HB := bo_ HB hb; clear hb hbox hg))
     replace BK233 := Aside0.mk (blk_drew BK233.out)
     replace HB := Aside0.mk (below_drew1 HB.out)
     refine start_ (n := 34) (S := fun w' => w'.cell? ⟨gb233, 0, none⟩ = some (.slice A0_0 l0_0.length c0_0)) (ds := []) (B_ 0 34) (by kernel_rfl) rfl rfl ((blk_cell BK233.out 0).trans rfl) (fun hHeld => ?_); refine with_tabW spec_IsSemigroup.tab1 spec_IsSemigroup.bits1 (fun HT_ HW_ => ?_)
     generalize w26.drew = w27 at BK233 HB hHeld ⊢
     refine pu_ HT_ 0 3 (B_ 1 34) ?_
     refine tk1_ HT_ HW_ hHeld 1 4 (B_ 3 34) ?_
     refine on_ HT_ 2 5 (B_ 7 34) (fun K hK => ?_)
     refine goes_ Tryz.func66 (by kernel_rfl) rfl #[.slice A0_0 l0_0.length c0_0] (by rfl) rfl rfl (by (try simp only [List.map_toArray, List.map_cons, List.map_nil]); first | done | rfl | (simp only [List.length_drop, List.length_take]; rfl)) ?_
     with_reducible refine (spec_l3Gens.calls k _ _ l0_0 true _ ?side1 ?side2 A2.out).mono ?_
     (case side1 => exact ch_ HR0_0 HB)
     (case side2 => exact HC0_0.out)
     rintro e w' ⟨rfl, ⟨nd, rfl⟩⟩
     refine ⟨_, rfl, ?_⟩
     refine hK.out _ _ ((blk_cell BK233.out 0).trans rfl) (fun hHeld => ?_)
     clear hK K
     refine norm_ (a' := ?_) ?_ ?_
     rotate_left
     · show Act.put _ (some 5) _ = _
       simp only [Act.put, z1_, z2_, z3_, i64_w, i32_w]
       rfl
     refine pu_ HT_ 3 6 (B_ 15 34) ?_
     refine pu_ HT_ 4 7 (B_ 31 34) ?_
     refine tk1_ HT_ HW_ hHeld 5 8 (B_ 63 34) ?_
     refine pu_ HT_ 6 9 (B_ 127 34) ?_
     refine pu_ HT_ 7 10 (B_ 255 34) ?_
     refine pu_ HT_ 8 11 (B_ 511 34) ?_
     refine pu_ HT_ 9 12 (B_ 1023 34) ?_
     refine pn_ HT_ 10 13 (B_ 2047 34) ?_
     refine pn_ HT_ 11 14 (B_ 4095 34) ?_
     refine pn_ HT_ 12 15 (B_ 8191 34) ?_
     refine pu_ HT_ 13 16 (B_ 16383 34) ?_
     refine pu_ HT_ 14 17 (B_ 32767 34) ?_
     refine pn_ HT_ 15 18 (B_ 65535 34) ?_
     refine pn_ HT_ 16 19 (B_ 131071 34) ?_
     refine pn_ HT_ 17 20 (B_ 262143 34) ?_
     refine pn_ HT_ 18 21 (B_ 524287 34) ?_
     refine pu_ HT_ 19 22 (B_ 1048575 34) ?_
     refine pu_ HT_ 20 23 (B_ 2097151 34) ?_
     refine pn_ HT_ 21 24 (B_ 4194303 34) ?_
     refine pn_ HT_ 22 25 (B_ 8388607 34) ?_
     refine pn_ HT_ 23 26 (B_ 16777215 34) ?_
     refine pn_ HT_ 24 27 (B_ 33554431 34) ?_
     refine pn_ HT_ 25 28 (B_ 67108863 34) ?_
     refine pn_ HT_ 26 29 (B_ 134217727 34) ?_
     refine pu_ HT_ 27 30 (B_ 268435455 34) ?_
     refine pu_ HT_ 28 31 (B_ 536870911 34) ?_
     refine pn_ HT_ 29 32 (B_ 1073741823 34) ?_
     refine pn_ HT_ 30 33 (B_ 2147483647 34) ?_
     refine pn_ HT_ 31 34 (B_ 4294967295 34) ?_
     refine pu_ HT_ 32 35 (B_ 8589934591 34) ?_
     refine pu_ HT_ 33 2 (B_ 17179869183 34) ?_
     refine done_ (done_of HT_.out (by kernel_rfl)) ?_
     try go_wp2
     go_ret
     exact ⟨rf_, bq_ HB⟩
 · replace c3 := Bool.eq_false_iff.mpr c3
   subst c3
   rw [if_neg (show ¬ (false = true) by decide)] at H
   obtain rfl := Option.some.inj H
   go_enter Tryz.func34, Tryz.ntmps34
   try go_wp2_with (first | ((with_reducible refine gate_dst (N := 1) rfl ?_); (try (refine gate_guard (by rfl) ?_; dsimp only)); refine bx_ 1 #[.slice A0_0 l0_0.length c0_0] 29 ?_; intro gb233 hg w28 hbox hb; have BK233 := Aside0.mk (hbox); have GW233 := gw_ hg HB; have GE233 := gw_ hg HB; replace HB := bo_ HB hb; clear hb hbox hg))
   replace BK233 := Aside0.mk (blk_drew BK233.out)
   replace HB := Aside0.mk (below_drew1 HB.out)
   refine start_ (n := 34) (S := fun w' => w'.cell? ⟨gb233, 0, none⟩ = some (.slice A0_0 l0_0.length c0_0)) (ds := []) (B_ 0 34) (by kernel_rfl) rfl rfl ((blk_cell BK233.out 0).trans rfl) (fun hHeld => ?_); refine with_tabW spec_IsSemigroup.tab1 spec_IsSemigroup.bits1 (fun HT_ HW_ => ?_)
   generalize w28.drew = w29 at BK233 HB hHeld ⊢
   refine pu_ HT_ 0 3 (B_ 1 34) ?_
   refine tk1_ HT_ HW_ hHeld 1 4 (B_ 3 34) ?_
   refine on_ HT_ 2 5 (B_ 7 34) (fun K hK => ?_)
   refine goes_ Tryz.func66 (by kernel_rfl) rfl #[.slice A0_0 l0_0.length c0_0] (by rfl) rfl rfl (by (try simp only [List.map_toArray, List.map_cons, List.map_nil]); first | done | rfl | (simp only [List.length_drop, List.length_take]; rfl)) ?_
   with_reducible refine (spec_l3Gens.calls k _ _ l0_0 false _ ?side1 ?side2 A2.out).mono ?_
   (case side1 => exact ch_ HR0_0 HB)
   (case side2 => exact HC0_0.out)
   rintro e w' ⟨rfl, ⟨nd, rfl⟩⟩
   refine ⟨_, rfl, ?_⟩
   refine hK.out _ _ ((blk_cell BK233.out 0).trans rfl) (fun hHeld => ?_)
   clear hK K
   refine norm_ (a' := ?_) ?_ ?_
   rotate_left
   · show Act.put _ (some 5) _ = _
     simp only [Act.put, z1_, z2_, z3_, i64_w, i32_w]
     rfl
   refine pu_ HT_ 3 6 (B_ 15 34) ?_
   refine pn_ HT_ 4 7 (B_ 31 34) ?_
   refine pn_ HT_ 5 8 (B_ 63 34) ?_
   refine pn_ HT_ 6 9 (B_ 127 34) ?_
   refine pn_ HT_ 7 10 (B_ 255 34) ?_
   refine pu_ HT_ 8 11 (B_ 511 34) ?_
   refine pu_ HT_ 9 12 (B_ 1023 34) ?_
   refine pn_ HT_ 10 13 (B_ 2047 34) ?_
   refine pn_ HT_ 11 14 (B_ 4095 34) ?_
   refine pn_ HT_ 12 15 (B_ 8191 34) ?_
   refine pu_ HT_ 13 16 (B_ 16383 34) ?_
   refine pu_ HT_ 14 17 (B_ 32767 34) ?_
   refine pn_ HT_ 15 18 (B_ 65535 34) ?_
   refine pn_ HT_ 16 19 (B_ 131071 34) ?_
   refine pn_ HT_ 17 20 (B_ 262143 34) ?_
   refine pn_ HT_ 18 21 (B_ 524287 34) ?_
   refine pu_ HT_ 19 22 (B_ 1048575 34) ?_
   refine pu_ HT_ 20 23 (B_ 2097151 34) ?_
   refine pn_ HT_ 21 24 (B_ 4194303 34) ?_
   refine pn_ HT_ 22 25 (B_ 8388607 34) ?_
   refine pn_ HT_ 23 26 (B_ 16777215 34) ?_
   refine pn_ HT_ 24 27 (B_ 33554431 34) ?_
   refine pn_ HT_ 25 28 (B_ 67108863 34) ?_
   refine pn_ HT_ 26 29 (B_ 134217727 34) ?_
   refine pu_ HT_ 27 30 (B_ 268435455 34) ?_
   refine pu_ HT_ 28 31 (B_ 536870911 34) ?_
   refine pn_ HT_ 29 32 (B_ 1073741823 34) ?_
   refine pn_ HT_ 30 33 (B_ 2147483647 34) ?_
   refine pn_ HT_ 31 34 (B_ 4294967295 34) ?_
   refine pu_ HT_ 32 35 (B_ 8589934591 34) ?_
   refine pu_ HT_ 33 2 (B_ 17179869183 34) ?_
   refine done_ (done_of HT_.out (by kernel_rfl)) ?_
   try go_wp2
   go_ret
   exact ⟨rf_, bq_ HB⟩
end Go.Proofs.YteaiehpgigaoaaaGreatDoor.PB
end
