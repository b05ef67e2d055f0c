-- Bundled by shake.py from this session's printed and written texts; Lean checks it.
import Derived.Test.YtapdhljbhekcdaaZFnWilfx1
section
namespace Go.Proofs.Ytapdhljbhekcdaa.PD
open Go.RowKit Go.Proofs.YtapdhljbhekcdaaW.PrintWords Go.Proofs.YtapdhljbhekcdaaW.PrintLast Go.Proofs.YtapdhljbhekcdaaW.PrintMore
set_option linter.unusedVariables false
set_option linter.unusedSimpArgs false
mutual
def spec_l3Table.l0 : Nat → List Int → Int → List Bool → Int → Option (List Bool)
 | 0, _, _, _, _ => none
 | k + 1, x0, x1, x5, x6 => if x6 ≤ x1 then (spec_l3Table.l1 k x0 x1 x5 x6 0) else (some x5)
def spec_l3Table.l1 : Nat → List Int → Int → List Bool → Int → Int → Option (List Bool)
 | 0, _, _, _, _, _ => none
 | k + 1, x0, x1, x5, x6, x7 => if x7 < (x0.length : Int) then (if 0 ≤ x7 then (if x6 ≥ (rd x0 x7) then (if 0 ≤ (wrap64 (x6 - (rd x0 x7))) then (if (wrap64 (x6 - (rd x0 x7))) < (x5.length : Int) then (if rdOf false x5 (wrap64 (x6 - (rd x0 x7))) = true then (if 0 ≤ x6 then (if x6 < (x5.length : Int) then (spec_l3Table.l1 k x0 x1 (x5.set (x6 : Int).toNat true) x6 (wrap64 (x7 + 1))) else (none)) else (none)) else (spec_l3Table.l1 k x0 x1 x5 x6 (wrap64 (x7 + 1)))) else (none)) else (none)) else (spec_l3Table.l1 k x0 x1 x5 x6 (wrap64 (x7 + 1)))) else (none)) else (spec_l3Table.l0 k x0 x1 x5 (wrap64 (x6 + 1)))
end
def spec_l3Table.f (k : Nat) (l0 : List Int) (a1 : Int) : Option (List Bool) := if 0 ≤ (wrap64 (a1 + 1)) then (if (wrap64 (a1 + 1) : Int).toNat ≤ 281474976710656 then ((some (List.replicate (wrap64 (a1 + 1) : Int).toNat false : List Bool)).bind fun y115 => (if 0 < (y115.length : Int) then (spec_l3Table.l0 k l0 a1 (y115.set (0 : Int).toNat true) 1) else (none))) else (none)) else (none)
theorem spec_l3Table.mono_l : ∀ k, (∀ y0 y1 y2 y3, LeO (spec_l3Table.l0 k y0 y1 y2 y3) (spec_l3Table.l0 (k + 1) y0 y1 y2 y3)) ∧ (∀ y0 y1 y2 y3 y4, LeO (spec_l3Table.l1 k y0 y1 y2 y3 y4) (spec_l3Table.l1 (k + 1) y0 y1 y2 y3 y4))
 | 0 => ⟨fun _ _ _ _ r h => by simp [spec_l3Table.l0] at h, fun _ _ _ _ _ r h => by simp [spec_l3Table.l1] at h⟩
 | k + 1 => by
  obtain ⟨ih0, ih1⟩ := spec_l3Table.mono_l k
  refine ⟨?_, ?_⟩
  · intro y0 y1 y2 y3
    unfold spec_l3Table.l0
    repeat' first
    | (with_reducible exact ih0 _ _ _ _)
    | (with_reducible exact ih1 _ _ _ _ _)
    | (with_reducible exact LeO.refl _)
    | (with_reducible exact LeO.none _)
    | (with_reducible refine LeO.ite ?_ ?_)
    | (with_reducible refine LeO.bind ?_ (fun _ => ?_))
    | exact ih0 _ _ _ _
    | exact ih1 _ _ _ _ _
    | exact LeO.none _
    | refine LeO.ite ?_ ?_
    | refine LeO.bind ?_ (fun _ => ?_)
  · intro y0 y1 y2 y3 y4
    unfold spec_l3Table.l1
    repeat' first
    | (with_reducible exact ih0 _ _ _ _)
    | (with_reducible exact ih1 _ _ _ _ _)
    | (with_reducible exact LeO.refl _)
    | (with_reducible exact LeO.none _)
    | (with_reducible refine LeO.ite ?_ ?_)
    | (with_reducible refine LeO.bind ?_ (fun _ => ?_))
    | exact ih0 _ _ _ _
    | exact ih1 _ _ _ _ _
    | exact LeO.none _
    | refine LeO.ite ?_ ?_
    | refine LeO.bind ?_ (fun _ => ?_)
theorem spec_l3Table.mono : ∀ a0 a1 k, LeO (spec_l3Table.f k a0 a1) (spec_l3Table.f (k + 1) a0 a1) := by
 intro a0 a1 k
 obtain ⟨ih0, ih1⟩ := spec_l3Table.mono_l k
 unfold spec_l3Table.f
 repeat' first
  | (with_reducible exact ih0 _ _ _ _)
  | (with_reducible exact ih1 _ _ _ _ _)
  | (with_reducible exact LeO.refl _)
  | (with_reducible exact LeO.none _)
  | (with_reducible refine LeO.ite ?_ ?_)
  | (with_reducible refine LeO.bind ?_ (fun _ => ?_))
  | exact ih0 _ _ _ _
  | exact ih1 _ _ _ _ _
  | exact LeO.none _
  | refine LeO.ite ?_ ?_
  | refine LeO.bind ?_ (fun _ => ?_)
set_option maxHeartbeats 8000000 in
set_option maxRecDepth 100000 in
theorem spec_l3Table.calls (k : Nat) (A0 : Option Addr) (c0 : Nat) (l0 : List Int) (a1 : Int) (r : List Bool) (w : World) (hr0 : Kd.C (Kd.int .i64) w A0 l0.length l0) (hc0 : l0.length ≤ c0) (h : spec_l3Table.f k l0 a1 = some r) :
 Calls Try.prog 64 #[.slice A0 l0.length c0, .int .i64 a1] w fun e w' => ∃ v0_ : Value, e = .returned (v0_) ∧ Kd.R Kd.bool 4 w' w.heap.size (fun _ => True) v0_ r ∧ Below w.heap.size w w' := by
 have HR0 := Aside0.mk hr0
 have HC0 := Aside0.mk hc0
 clear hr0 hc0
 have HB := Aside0.mk (Below.refl w.heap.size w)
 have H : (if 0 ≤ (wrap64 (a1 + 1)) then (if (wrap64 (a1 + 1) : Int).toNat ≤ 281474976710656 then ((some (List.replicate (wrap64 (a1 + 1) : Int).toNat false : List Bool)).bind fun y115 => (if 0 < (y115.length : Int) then (spec_l3Table.l0 k l0 a1 (y115.set (0 : Int).toNat true) 1) else (none))) else (none)) else (none)) = some r := h
 clear h
 obtain ⟨ji3, hji3⟩ : ∃ j_ : Int, (wrap64 (a1 + 1)) = j_ := ⟨_, rfl⟩
 replace H : (if 0 ≤ (ji3) then (if (ji3 : Int).toNat ≤ 281474976710656 then ((some (List.replicate (ji3 : Int).toNat false : List Bool)).bind fun y115 => (if 0 < (y115.length : Int) then (spec_l3Table.l0 k l0 a1 (y115.set (0 : Int).toNat true) 1) else (none))) else (none)) else (none)) = some r := by first | (rw [hji3] at H; exact H) | (simp only [hji3] at H ⊢; exact H)
 have hji3w : (IntKind.i64.wrap (a1 + 1)) = ji3 := (i64_w _).trans hji3
 by_cases c4 : 0 ≤ (ji3)
 · rw [if_pos c4] at H
   have c4b0 := eq_true c4
   have c4b1 : decide (0 ≤ (ji3)) = true := decide_eq_true c4
   clear c4
   by_cases c5 : (ji3 : Int).toNat ≤ 281474976710656
   · rw [if_pos c5] at H
     have c5b0 := eq_true c5
     have c5b1 : decide ((ji3 : Int).toNat ≤ 281474976710656) = true := decide_eq_true c5
     clear c5
     obtain ⟨y115, hy115⟩ : ∃ y_ : List Bool, y_ = (List.replicate (ji3 : Int).toNat false) := ⟨_, rfl⟩
     replace H : (if 0 < (y115.length : Int) then (spec_l3Table.l0 k l0 a1 (y115.set (0 : Int).toNat true) 1) else (none)) = some r := by first | (rw [hy115]; with_reducible exact H) | (have H2_ := (Option.bind_some _ _).symm.trans H; rw [hy115]; with_reducible exact H2_) | (have H2_ := (Option.bind_some _ _).symm.trans H; with_reducible exact H2_) | with_reducible exact H | (rw [hy115]; exact H) | exact H
     have Ny115 := Aside0.mk hy115
     clear hy115
     by_cases c6 : 0 < (y115.length : Int)
     · rw [if_pos c6] at H
       have c6b0 : decide (0 < (y115.length : Int)) = true := decide_eq_true c6
       have c6b1 : decide (0 < y115.length) = true := decide_eq_true (by omega)
       clear c6
       obtain ⟨y118, hy118⟩ : ∃ y_ : List Bool, y_ = (y115.set (0 : Int).toNat true) := ⟨_, rfl⟩
       replace H : (spec_l3Table.l0 k l0 a1 y118 1) = some r := by first | (rw [hy118]; with_reducible exact H) | (have H2_ := (Option.bind_some _ _).symm.trans H; rw [hy118]; with_reducible exact H2_) | (have H2_ := (Option.bind_some _ _).symm.trans H; with_reducible exact H2_) | with_reducible exact H | (rw [hy118]; exact H) | exact H
       have Ny118 := Aside0.mk hy118
       clear hy118
       have H' := Aside0.mk H
       clear H
       go_enter Try.func64, Try.ntmps64
       go_wp2_with (first | ((with_reducible refine gate_dst (N := 10) rfl ?_); refine Kd.R_make Kd.bool _ 4 rfl (N := 10) rfl 52 _ _ rfl ji3 rfl rfl Try.underlying52 (.bool false) 1 info4 rfl (by decide) (by omega) false (ok := fun _ => True) (okp := fun _ => True) rfl (fun _ hk => hk) trivial (of_decide_eq_true (by first | (with_reducible assumption) | assumption)) (Nat.le_trans (Nat.mul_le_mul_right _ (of_decide_eq_true (by first | (with_reducible assumption) | assumption) : ji3.toNat ≤ 281474976710656)) (by omega)) (Below.refl _ _) (Nat.le_refl _) ?_; intro v116 w8 ho9 hb hg_ hnew_; clear hg_ hnew_; (first | rw [← Ny115.out] at ho9 | (simp only [Int.reduceToNat] at ho9; rw [← Ny115.out] at ho9)); have n0_ := Aside0.mk (Kd.R_lower ho9 (below_size (bl_ HB.out))); have n1_ := Aside0.mk (below_step (bl_ HB.out) hb); clear HB; have HO117 := n0_; have HB := n1_; clear n0_ n1_; clear hb ho9; have p7 : 0 ≤ (0 : Int) := (by omega); have q7 : (0 : Int) < ((y115.length : Int) : Int) := of_decide_eq_true (by first | (with_reducible assumption) | assumption); have qi7 : (0 < y115.length) = True := eq_true (by omega); obtain ⟨go7, co7, eo7, gb7, gl7, cl7, HG7⟩ := Kd.R_form HO117.out (by omega); (first | cases eo7 | (injection eo7 with ea_ en_ ec_; (first | subst ea_ | (injection ea_ with ea_; subst ea_)); subst ec_; clear en_)); have GB7 := Aside0.mk gb7; have GG7 := Aside0.mk HG7; clear gb7 gl7 HG7; obtain ⟨hx7_0, hf7_0⟩ := Kd.R_celln false HO117.out (0 : Int) p7 q7; (try rw [show ((0 : Int)).toNat = 0 from rfl] at hx7_0); (try simp only [Nat.reduceMul, Nat.zero_mul, Nat.zero_add, Nat.reduceAdd] at hx7_0); (try rw [show ((0 : Int)).toNat = 0 from rfl] at hf7_0); (try simp only [Nat.reduceMul, Nat.zero_mul, Nat.zero_add, Nat.reduceAdd] at hf7_0); replace p7 := eq_true p7; replace q7 := eq_true q7; obtain ⟨hy10_, hz10_⟩ := Kd.R_celln false HO117.out (0 : Int) (by omega) (of_decide_eq_true (by first | (with_reducible assumption) | assumption)); (try simp only [Int.reduceToNat, Int.toNat_zero, Int.toNat_ofNat, Nat.reduceMul, Nat.zero_mul, Nat.zero_add] at hy10_ hz10_); (try rw [show ((0 : Int)).toNat = 0 from rfl] at hy10_); (try rw [show ((0 : Int)).toNat = 0 from rfl] at hz10_); have HP10 := Kd.R_putg HO117.out (0 : Int) true) | ((with_reducible refine gate_store (t := 4) (p := 12) rfl ?_); refine store_event (t := 4) (p := 12) (v := ?vo_w11) (w1 := (w8.setCell ⟨go7, (0 : Int).toNat, none⟩ (.bool true))) ?hg ?ho ?hn ?hr ?_; (case ho => rfl); (case hg => rfl); (case hn => rfl); (case hr => first | (go_simp; done) | (go_simp; rfl)); intro w11 hw; have hg : w8.grownBy w11 (some go7) := (by rw [hw]; exact HP10.2); have hp_ : Kd.R Kd.bool 4 w11 w.heap.size (fun _ => True) (.slice (some ⟨go7, 0, none⟩) y115.length co7) y118 := (by rw [hw, Ny118.out]; exact HP10.1); clear HP10; have n0_ := Aside0.mk (hp_); have n1_ := Aside0.mk ((by rw [hw]; exact below_set (HB.out) GB7.out : Below w.heap.size w w11)); clear HO117; clear HB; have HO117 := n0_; have HB := n1_; clear n0_ n1_; clear hg hw hp_))
       go_loopg [6] k (fun kq v6 w' => ∃ (x5_1 : List Bool) (x6_1 : Int), v6 = .int .i64 x6_1 ∧ Aside0 (spec_l3Table.l0 kq l0 a1 x5_1 x6_1 = some r) ∧ Aside0 (kq ≤ k) ∧ Aside0 (Kd.R Kd.bool 4 w' w.heap.size (fun _ => True) (.slice (some ⟨go7, 0, none⟩) y115.length co7) x5_1) ∧ Aside0 (Below w.heap.size w w'))
       case atStart => exact ⟨(y118), (1), (by first | rfl | (simp; done) | (simp [*]; done)), H', ⟨Nat.le_refl _⟩, ⟨re_ HO117.out⟩, ⟨bl_ HB.out⟩⟩
       case round =>
        clear H'
        try clear p2
        try clear c4
        try clear c4b0
        try clear c4b1
        try clear c5
        try clear c5b0
        try clear c5b1
        try clear c6
        try clear c6b0
        try clear c6b1
        try clear p6
        try clear p7
        try clear q7
        try clear hx7
        try clear qi7
        try clear hf7
        try clear hx7_0
        try clear p7
        try clear q7
        obtain ⟨x5_1, x6_1, rfl, HA, HK1, HO_5, HB⟩ := hrel
        have hl5_1 := (Kd.R_reads' HO_5.out).1
        rw [hl5_1] at HO_5
        (try simp only [hl5_1])
        cases gk with
        | zero => exact absurd HA.out (by simp [spec_l3Table.l0])
        | succ k1 =>
         have H := HA.out
         clear HA
         simp only [spec_l3Table.l0] at H
         by_cases c12 : x6_1 ≤ a1
         · rw [if_pos c12] at H
           have c12b0 : decide (x6_1 ≤ a1) = true := decide_eq_true c12
           clear c12
           have H' := Aside0.mk H
           clear H
           go_wp2
           go_loopg [7] k1 (fun kq v7 w' => ∃ (x5_2 : List Bool) (x7_2 : Int), v7 = .int .i64 x7_2 ∧ Aside0 (spec_l3Table.l1 kq l0 a1 x5_2 x6_1 x7_2 = some r) ∧ Aside0 (kq ≤ k1) ∧ Aside0 (Kd.R Kd.bool 4 w' w.heap.size (fun _ => True) (.slice (some ⟨go7, 0, none⟩) x5_1.length co7) x5_2) ∧ Aside0 (Below w.heap.size w w'))
           case atStart => exact ⟨(x5_1), (0), (by first | rfl | (simp; done) | (simp [*]; done)), H', ⟨Nat.le_refl _⟩, ⟨by (try simp only [hl5_1]); (with_reducible repeat (first | apply Kd.R_alloc | apply Kd.R_drewN | apply Kd.R_drew)); exact HO_5.out⟩, ⟨bl_ HB.out⟩⟩
           case round =>
            clear H'
            try clear c1
            try clear p2
            try clear c4
            try clear c4b0
            try clear c4b1
            try clear c5
            try clear c5b0
            try clear c5b1
            try clear c6
            try clear c6b0
            try clear c6b1
            try clear p6
            try clear p7
            try clear q7
            try clear hx7
            try clear qi7
            try clear hf7
            try clear c12
            try clear c12b0
            try clear hx7_0
            try clear p2
            try clear p6
            try clear p7
            try clear q7
            obtain ⟨x5_2, x7_2, rfl, HA, HK2, HO_5, HB⟩ := hrel
            have hl5_2 := (Kd.R_reads' HO_5.out).1
            rw [hl5_2] at HO_5
            (try simp only [hl5_2])
            cases gk with
            | zero => exact absurd HA.out (by simp [spec_l3Table.l1])
            | succ k2 =>
             have H := HA.out
             clear HA
             simp only [spec_l3Table.l1] at H
             by_cases c13 : x7_2 < (l0.length : Int)
             · rw [if_pos c13] at H
               have c13b0 : decide (x7_2 < (l0.length : Int)) = true := decide_eq_true c13
               (try (have c13h := c13b0; simp only [hl5_1, hl5_2] at c13h))
               clear c13
               by_cases c14 : 0 ≤ x7_2
               · rw [if_pos c14] at H
                 have c14b0 : decide (0 ≤ x7_2) = true := decide_eq_true c14
                 clear c14
                 by_cases c15 : x6_1 ≥ (rd l0 x7_2)
                 · rw [if_pos c15] at H
                   have c15b0 : decide ((rd l0 x7_2) ≤ x6_1) = true := decide_eq_true c15
                   clear c15
                   obtain ⟨ji16, hji16⟩ : ∃ j_ : Int, (wrap64 (x6_1 - (rd l0 x7_2))) = j_ := ⟨_, rfl⟩
                   replace H : (if 0 ≤ (ji16) then (if (ji16) < (x5_2.length : Int) then (if rdOf false x5_2 (ji16) = true then (if 0 ≤ x6_1 then (if x6_1 < (x5_2.length : Int) then (spec_l3Table.l1 k2 l0 a1 (x5_2.set (x6_1 : Int).toNat true) x6_1 (wrap64 (x7_2 + 1))) else (none)) else (none)) else (spec_l3Table.l1 k2 l0 a1 x5_2 x6_1 (wrap64 (x7_2 + 1)))) else (none)) else (none)) = some r := by first | (rw [hji16] at H; exact H) | (simp only [hji16] at H ⊢; exact H)
                   have hji16w : (IntKind.i64.wrap (x6_1 - (rd l0 x7_2))) = ji16 := (i64_w _).trans hji16
                   by_cases c17 : 0 ≤ (ji16)
                   · rw [if_pos c17] at H
                     have c17b0 : decide (0 ≤ (ji16)) = true := decide_eq_true c17
                     clear c17
                     by_cases c18 : (ji16) < (x5_2.length : Int)
                     · rw [if_pos c18] at H
                       have c18b0 : decide ((ji16) < (x5_2.length : Int)) = true := decide_eq_true c18
                       (try (have c18h := c18b0; simp only [hl5_1, hl5_2] at c18h))
                       clear c18
                       obtain ⟨bq19, hbq19⟩ : ∃ b_ : Bool, b_ = (rdOf false x5_2 (ji16)) := ⟨_, rfl⟩
                       replace H : (if bq19 = true then (if 0 ≤ x6_1 then (if x6_1 < (x5_2.length : Int) then (spec_l3Table.l1 k2 l0 a1 (x5_2.set (x6_1 : Int).toNat true) x6_1 (wrap64 (x7_2 + 1))) else (none)) else (none)) else (spec_l3Table.l1 k2 l0 a1 x5_2 x6_1 (wrap64 (x7_2 + 1)))) = some r := by rw [← hbq19] at H; exact H
                       have Nbq19 := Aside0.mk hbq19
                       clear hbq19
                       by_cases c20 : bq19 = true
                       · subst c20
                         have H1 : (if 0 ≤ x6_1 then (if x6_1 < (x5_2.length : Int) then (spec_l3Table.l1 k2 l0 a1 (x5_2.set (x6_1 : Int).toNat true) x6_1 (wrap64 (x7_2 + 1))) else (none)) else (none)) = some r := by rw [if_pos rfl] at H; exact H
                         clear H
                         have H := H1
                         clear H1
                         by_cases c21 : 0 ≤ x6_1
                         · rw [if_pos c21] at H
                           have c21b0 : decide (0 ≤ x6_1) = true := decide_eq_true c21
                           clear c21
                           by_cases c22 : x6_1 < (x5_2.length : Int)
                           · rw [if_pos c22] at H
                             have c22b0 : decide (x6_1 < (x5_2.length : Int)) = true := decide_eq_true c22
                             (try (have c22h := c22b0; simp only [hl5_1, hl5_2] at c22h))
                             clear c22
                             obtain ⟨y122, hy122⟩ : ∃ y_ : List Bool, y_ = (x5_2.set (x6_1 : Int).toNat true) := ⟨_, rfl⟩
                             replace H : (spec_l3Table.l1 k2 l0 a1 y122 x6_1 (wrap64 (x7_2 + 1))) = some r := by first | (rw [hy122]; with_reducible exact H) | (have H2_ := (Option.bind_some _ _).symm.trans H; rw [hy122]; with_reducible exact H2_) | (have H2_ := (Option.bind_some _ _).symm.trans H; with_reducible exact H2_) | with_reducible exact H | (rw [hy122]; exact H) | exact H
                             have Ny122 := Aside0.mk hy122
                             clear hy122
                             have H' := Aside0.mk H
                             clear H
                             have p119 : 0 ≤ (x7_2 : Int) := of_decide_eq_true (by first | (with_reducible assumption) | assumption)
                             have q119 : x7_2 < (l0.length : Int) := of_decide_eq_true (by first | (with_reducible assumption) | assumption)
                             obtain ⟨ad119, e119, hx119_0⟩ := Kd.at_int HR0.out x7_2 p119 q119
                             cases e119
                             (try replace hx119_0 := (HB.out.cell (World.block_lt_of_cell? w _ hx119_0)).trans hx119_0)
                             replace p119 := eq_true p119
                             replace q119 := eq_true q119
                             have p120 : 0 ≤ (x7_2 : Int) := of_decide_eq_true (by first | (with_reducible assumption) | assumption)
                             have q120 : x7_2 < (l0.length : Int) := of_decide_eq_true (by first | (with_reducible assumption) | assumption)
                             obtain ⟨ad120, e120, hx120_0⟩ := Kd.at_int HR0.out x7_2 p120 q120
                             obtain rfl : ad119 = ad120 := (by injection e120)
                             (try replace hx120_0 := (HB.out.cell (World.block_lt_of_cell? w _ hx120_0)).trans hx120_0)
                             replace p120 := eq_true p120
                             replace q120 := eq_true q120
                             have p121 : 0 ≤ ((ji16) : Int) := of_decide_eq_true (by first | (with_reducible assumption) | assumption)
                             have q121 : (ji16) < (x5_2.length : Int) := of_decide_eq_true (by first | (with_reducible assumption) | assumption)
                             obtain ⟨ad121, e121, hx121_0⟩ := Kd.at_bool (Kd.R_reads' HO_5.out).2.2 (ji16) p121 q121
                             (try rw [← Nbq19.out] at hx121_0)
                             obtain rfl : (⟨go7, 0, none⟩ : Addr) = ad121 := (by injection e121)
                             (first | simp only [add_plain] at hx121_0 | simp only [add_at] at hx121_0 | simp only [Addr.add, Nat.zero_add] at hx121_0 | skip)
                             replace p121 := eq_true p121
                             replace q121 := eq_true q121
                             have p23 : 0 ≤ (x6_1 : Int) := of_decide_eq_true (by first | (with_reducible assumption) | assumption)
                             have q23 : (x6_1 : Int) < ((x5_2.length : Int) : Int) := of_decide_eq_true (by first | (with_reducible assumption) | assumption)
                             obtain ⟨hx23_0, hf23_0⟩ := Kd.R_celln false HO_5.out (x6_1 : Int) p23 q23
                             replace p23 := eq_true p23
                             replace q23 := eq_true q23
                             have HP24 := Kd.R_putg HO_5.out (x6_1 : Int) true
                             go_wp2_with (first | ((with_reducible refine gate_store (t := 4) (p := 43) rfl ?_); refine store_event (t := 4) (p := 43) (v := ?vo_w25) (w1 := (wr.setCell ⟨go7, (x6_1 : Int).toNat, none⟩ (.bool true))) ?hg ?ho ?hn ?hr ?_; (case ho => rfl); (case hg => rfl); (case hn => rfl); (case hr => first | (go_simp; done) | (go_simp; rfl)); intro w25 hw; have hg : wr.grownBy w25 (some go7) := (by rw [hw]; exact HP24.2); have hp_ : Kd.R Kd.bool 4 w25 w.heap.size (fun _ => True) (.slice (some ⟨go7, 0, none⟩) x5_2.length co7) y122 := (by rw [hw, Ny122.out]; exact HP24.1); clear HP24; have n0_ := Aside0.mk (hp_); have n1_ := Aside0.mk ((by rw [hw]; exact below_set (HB.out) GB7.out : Below w.heap.size w w25)); clear HO_5; clear HB; have HO_5 := n0_; have HB := n1_; clear n0_ n1_; clear hg hw hp_))
                             (try simp only [← hl5_2])
                             go_roundg k2
                             case measure => have := HK1.out; have := HK2.out; omega
                             case rel => exact ⟨(y122), (wrap64 (x7_2 + 1)), (by first | rfl | (simp; done) | (simp [*]; done)), H', ⟨by have := HK1.out; have := HK2.out; omega⟩, ⟨by (try simp only [hl5_1]); (try simp only [hl5_2]); (with_reducible repeat (first | apply Kd.R_alloc | apply Kd.R_drewN | apply Kd.R_drew)); exact HO_5.out⟩, ⟨bl_ HB.out⟩⟩
                           · rw [if_neg c22] at H
                             exact absurd H (by simp)
                         · rw [if_neg c21] at H
                           exact absurd H (by simp)
                       · replace c20 := Bool.eq_false_iff.mpr c20
                         subst c20
                         have H1 : (spec_l3Table.l1 k2 l0 a1 x5_2 x6_1 (wrap64 (x7_2 + 1))) = some r := by rw [if_neg (show ¬ (false = true) by decide)] at H; exact H
                         clear H
                         have H := H1
                         clear H1
                         have H' := Aside0.mk H
                         clear H
                         have p119 : 0 ≤ (x7_2 : Int) := of_decide_eq_true (by first | (with_reducible assumption) | assumption)
                         have q119 : x7_2 < (l0.length : Int) := of_decide_eq_true (by first | (with_reducible assumption) | assumption)
                         obtain ⟨ad119, e119, hx119_0⟩ := Kd.at_int HR0.out x7_2 p119 q119
                         cases e119
                         (try replace hx119_0 := (HB.out.cell (World.block_lt_of_cell? w _ hx119_0)).trans hx119_0)
                         replace p119 := eq_true p119
                         replace q119 := eq_true q119
                         have p120 : 0 ≤ (x7_2 : Int) := of_decide_eq_true (by first | (with_reducible assumption) | assumption)
                         have q120 : x7_2 < (l0.length : Int) := of_decide_eq_true (by first | (with_reducible assumption) | assumption)
                         obtain ⟨ad120, e120, hx120_0⟩ := Kd.at_int HR0.out x7_2 p120 q120
                         obtain rfl : ad119 = ad120 := (by injection e120)
                         (try replace hx120_0 := (HB.out.cell (World.block_lt_of_cell? w _ hx120_0)).trans hx120_0)
                         replace p120 := eq_true p120
                         replace q120 := eq_true q120
                         have p121 : 0 ≤ ((ji16) : Int) := of_decide_eq_true (by first | (with_reducible assumption) | assumption)
                         have q121 : (ji16) < (x5_2.length : Int) := of_decide_eq_true (by first | (with_reducible assumption) | assumption)
                         obtain ⟨ad121, e121, hx121_0⟩ := Kd.at_bool (Kd.R_reads' HO_5.out).2.2 (ji16) p121 q121
                         (try rw [← Nbq19.out] at hx121_0)
                         obtain rfl : (⟨go7, 0, none⟩ : Addr) = ad121 := (by injection e121)
                         (first | simp only [add_plain] at hx121_0 | simp only [add_at] at hx121_0 | simp only [Addr.add, Nat.zero_add] at hx121_0 | skip)
                         replace p121 := eq_true p121
                         replace q121 := eq_true q121
                         go_wp2
                         (try simp only [← hl5_2])
                         go_roundg k2
                         case measure => have := HK1.out; have := HK2.out; omega
                         case rel => exact ⟨(x5_2), (wrap64 (x7_2 + 1)), (by first | rfl | (simp; done) | (simp [*]; done)), H', ⟨by have := HK1.out; have := HK2.out; omega⟩, ⟨by (try simp only [hl5_1]); (try simp only [hl5_2]); (with_reducible repeat (first | apply Kd.R_alloc | apply Kd.R_drewN | apply Kd.R_drew)); exact HO_5.out⟩, ⟨bl_ HB.out⟩⟩
                     · rw [if_neg c18] at H
                       exact absurd H (by simp)
                   · rw [if_neg c17] at H
                     exact absurd H (by simp)
                 · rw [if_neg c15] at H
                   have c15b0 : decide ((rd l0 x7_2) ≤ x6_1) = false := decide_eq_false c15
                   clear c15
                   have H' := Aside0.mk H
                   clear H
                   have p119 : 0 ≤ (x7_2 : Int) := of_decide_eq_true (by first | (with_reducible assumption) | assumption)
                   have q119 : x7_2 < (l0.length : Int) := of_decide_eq_true (by first | (with_reducible assumption) | assumption)
                   obtain ⟨ad119, e119, hx119_0⟩ := Kd.at_int HR0.out x7_2 p119 q119
                   cases e119
                   (try replace hx119_0 := (HB.out.cell (World.block_lt_of_cell? w _ hx119_0)).trans hx119_0)
                   replace p119 := eq_true p119
                   replace q119 := eq_true q119
                   go_wp2
                   (try simp only [← hl5_2])
                   go_roundg k2
                   case measure => have := HK1.out; have := HK2.out; omega
                   case rel => exact ⟨(x5_2), (wrap64 (x7_2 + 1)), (by first | rfl | (simp; done) | (simp [*]; done)), H', ⟨by have := HK1.out; have := HK2.out; omega⟩, ⟨by (try simp only [hl5_1]); (try simp only [hl5_2]); (with_reducible repeat (first | apply Kd.R_alloc | apply Kd.R_drewN | apply Kd.R_drew)); exact HO_5.out⟩, ⟨bl_ HB.out⟩⟩
               · rw [if_neg c14] at H
                 exact absurd H (by simp)
             · rw [if_neg c13] at H
               have c13b0 : decide (x7_2 < (l0.length : Int)) = false := decide_eq_false c13
               (try (have c13h := c13b0; simp only [hl5_1, hl5_2] at c13h))
               clear c13
               have H' := Aside0.mk H
               clear H
               go_wp2
               (try simp only [← hl5_1, ← hl5_2])
               go_roundg k2
               case measure => have := HK1.out; have := HK2.out; omega
               case rel => exact ⟨(x5_2), (wrap64 (x6_1 + 1)), (by first | rfl | (simp; done) | (simp [*]; done)), H', ⟨by have := HK1.out; have := HK2.out; omega⟩, ⟨by (try simp only [hl5_1]); (try simp only [hl5_2]); (with_reducible repeat (first | apply Kd.R_alloc | apply Kd.R_drewN | apply Kd.R_drew)); exact HO_5.out⟩, ⟨bl_ HB.out⟩⟩
         · rw [if_neg c12] at H
           have c12b0 : decide (x6_1 ≤ a1) = false := decide_eq_false c12
           clear c12
           obtain rfl := Option.some.inj H
           go_wp2
           go_ret
           exact ⟨_, by first | rfl | (simp [errW_none, errW_some] <;> rfl) | (simp only [← hji3]; first | rfl | (simp [errW_none, errW_some] <;> rfl)) | (simp [*, errW_none, errW_some] <;> rfl), re_ HO_5.out, bl_ HB.out⟩
     · rw [if_neg c6] at H
       exact absurd H (by simp)
   · rw [if_neg c5] at H
     exact absurd H (by simp)
 · rw [if_neg c4] at H
   exact absurd H (by simp)
end Go.Proofs.Ytapdhljbhekcdaa.PD
end
section
namespace Go.Proofs.Ytapdhljbhekcdaa.PD
open Go.RowKit Go.Proofs.YtapdhljbhekcdaaW.PrintWords Go.Proofs.YtapdhljbhekcdaaW.PrintLast Go.Proofs.YtapdhljbhekcdaaW.PrintMore
set_option linter.unusedVariables false
set_option linter.unusedSimpArgs false
mutual
def spec_SortList.l0 : Nat → List Int → List Int → Int → Option (List Int)
 | 0, _, _, _ => none
 | k + 1, x0, x3, x4 => if x4 < (x0.length : Int) then (spec_SortList.l1 k x0 x3 x4 (x3.length : Int)) else (some x3)
def spec_SortList.l1 : Nat → List Int → List Int → Int → Int → Option (List Int)
 | 0, _, _, _, _ => none
 | k + 1, x0, x3, x4, x5 => if x5 > 0 then (if 0 ≤ (wrap64 (x5 - 1)) then (if (wrap64 (x5 - 1)) < (x3.length : Int) then (if 0 ≤ x4 then (if x4 < (x0.length : Int) then (if (rd x3 (wrap64 (x5 - 1))) > (rd x0 x4) then (spec_SortList.l1 k x0 x3 x4 (wrap64 (x5 - 1))) else (if (rd x3 (wrap64 (x5 - 1))) = (rd x0 x4) then (spec_SortList.l0 k x0 x3 (wrap64 (x4 + 1))) else ((some (([] : List Int) : List Int)).bind fun y130 => (if 0 ≤ x5 then (if x5 ≤ (x3.length : Int) then ((some (x3.drop (x5 : Int).toNat : List Int)).bind fun y133 => (if y130.length + y133.length < 17592186044416 then ((some (y130 ++ y133 : List Int)).bind fun y137 => ((some (x3.take (x5 : Int).toNat : List Int)).bind fun y140 => (if y140.length < 17592186044416 then ((some (y140 ++ [rd x0 x4] : List Int)).bind fun y144 => (if y144.length + y137.length < 17592186044416 then (spec_SortList.l0 k x0 (y144 ++ y137) (wrap64 (x4 + 1))) else (none))) else (none)))) else (none))) else (none)) else (none))))) else (none)) else (none)) else (none)) else (none)) else ((some (([] : List Int) : List Int)).bind fun y150 => (if 0 ≤ x5 then (if x5 ≤ (x3.length : Int) then ((some (x3.drop (x5 : Int).toNat : List Int)).bind fun y153 => (if y150.length + y153.length < 17592186044416 then ((some (y150 ++ y153 : List Int)).bind fun y157 => ((some (x3.take (x5 : Int).toNat : List Int)).bind fun y160 => (if 0 ≤ x4 then (if x4 < (x0.length : Int) then (if y160.length < 17592186044416 then ((some (y160 ++ [rd x0 x4] : List Int)).bind fun y164 => (if y164.length + y157.length < 17592186044416 then (spec_SortList.l0 k x0 (y164 ++ y157) (wrap64 (x4 + 1))) else (none))) else (none)) else (none)) else (none)))) else (none))) else (none)) else (none)))
end
def spec_SortList.f (k : Nat) (l0 : List Int) : Option (List Int) := spec_SortList.l0 k l0 (([] : List Int)) 0
theorem spec_SortList.mono_l : ∀ k, (∀ y0 y1 y2, LeO (spec_SortList.l0 k y0 y1 y2) (spec_SortList.l0 (k + 1) y0 y1 y2)) ∧ (∀ y0 y1 y2 y3, LeO (spec_SortList.l1 k y0 y1 y2 y3) (spec_SortList.l1 (k + 1) y0 y1 y2 y3))
 | 0 => ⟨fun _ _ _ r h => by simp [spec_SortList.l0] at h, fun _ _ _ _ r h => by simp [spec_SortList.l1] at h⟩
 | k + 1 => by
  obtain ⟨ih0, ih1⟩ := spec_SortList.mono_l k
  refine ⟨?_, ?_⟩
  · intro y0 y1 y2
    unfold spec_SortList.l0
    repeat' first
    | (with_reducible exact ih0 _ _ _)
    | (with_reducible exact ih1 _ _ _ _)
    | (with_reducible exact LeO.refl _)
    | (with_reducible exact LeO.none _)
    | (with_reducible refine LeO.ite ?_ ?_)
    | (with_reducible refine LeO.bind ?_ (fun _ => ?_))
    | exact ih0 _ _ _
    | exact ih1 _ _ _ _
    | exact LeO.none _
    | refine LeO.ite ?_ ?_
    | refine LeO.bind ?_ (fun _ => ?_)
  · intro y0 y1 y2 y3
    unfold spec_SortList.l1
    repeat' first
    | (with_reducible exact ih0 _ _ _)
    | (with_reducible exact ih1 _ _ _ _)
    | (with_reducible exact LeO.refl _)
    | (with_reducible exact LeO.none _)
    | (with_reducible refine LeO.ite ?_ ?_)
    | (with_reducible refine LeO.bind ?_ (fun _ => ?_))
    | exact ih0 _ _ _
    | exact ih1 _ _ _ _
    | exact LeO.none _
    | refine LeO.ite ?_ ?_
    | refine LeO.bind ?_ (fun _ => ?_)
theorem spec_SortList.mono : ∀ a0 k, LeO (spec_SortList.f k a0) (spec_SortList.f (k + 1) a0) := by
 intro a0 k
 obtain ⟨ih0, ih1⟩ := spec_SortList.mono_l k
 unfold spec_SortList.f
 repeat' first
  | (with_reducible exact ih0 _ _ _)
  | (with_reducible exact ih1 _ _ _ _)
  | (with_reducible exact LeO.refl _)
  | (with_reducible exact LeO.none _)
  | (with_reducible refine LeO.ite ?_ ?_)
  | (with_reducible refine LeO.bind ?_ (fun _ => ?_))
  | exact ih0 _ _ _
  | exact ih1 _ _ _ _
  | exact LeO.none _
  | refine LeO.ite ?_ ?_
  | refine LeO.bind ?_ (fun _ => ?_)
def spec_SortList.T6 : Bool × List (List Nat × List Nat) := (true, [([], []), ([0], [0]), ([1], [1]), ([2], [2]), ([2], [2]), ([4, 2], [2, 4]), ([3, 5, 2], [2, 3, 5]), ([6, 2], [2, 6]), ([2], [2]), ([2], [2]), ([8, 9, 2], [2, 8, 9]), ([10, 2], [2, 10]), ([7, 11, 2], [2, 7, 11]), ([2, 12], [2, 12])])
def spec_SortList.B6 : List Nat := [0, 1, 3, 7, 7, 23, 63, 127, 7, 7, 775, 1799, 4095, 8191]
theorem spec_SortList.tab6 : rtab .any (opsOf Try.f109 6) = spec_SortList.T6 := by kernel_rfl
theorem spec_SortList.bits6 : waitsOk spec_SortList.T6.2 spec_SortList.B6 = true := by kernel_rfl
def spec_SortList.T8 : Bool × List (List Nat × List Nat) := (true, [([], []), ([0], [0]), ([1], [1]), ([2], [2]), ([2], [2]), ([4, 2], [2, 4]), ([3, 5, 2], [2, 3, 5]), ([6, 2], [2, 6]), ([2], [2]), ([2], [2]), ([8, 9, 2], [2, 8, 9]), ([10, 2], [2, 10]), ([7, 11, 2], [2, 7, 11]), ([2, 12], [2, 12])])
def spec_SortList.B8 : List Nat := [0, 1, 3, 7, 7, 23, 63, 127, 7, 7, 775, 1799, 4095, 8191]
theorem spec_SortList.tab8 : rtab .any (opsOf Try.f109 8) = spec_SortList.T8 := by kernel_rfl
theorem spec_SortList.bits8 : waitsOk spec_SortList.T8.2 spec_SortList.B8 = true := by kernel_rfl
def spec_SortList.T10 : Bool × List (List Nat × List Nat) := (true, [([], []), ([], []), ([0, 1], [0, 1]), ([], []), ([], []), ([3, 4], [3, 4]), ([5], [5]), ([6], [6]), ([2, 7], [2, 7]), ([], []), ([8, 9, 8], [8, 9]), ([10, 10, 0, 1, 2, 3, 4, 5, 6, 7, 8, 9, 10], [0, 10])])
def spec_SortList.B10 : List Nat := [0, 0, 3, 0, 0, 24, 56, 120, 255, 0, 1023, 2047]
theorem spec_SortList.tab10 : rtab .any (opsOf Try.f109 10) = spec_SortList.T10 := by kernel_rfl
theorem spec_SortList.bits10 : waitsOk spec_SortList.T10.2 spec_SortList.B10 = true := by kernel_rfl
set_option maxHeartbeats 8000000 in
set_option maxRecDepth 100000 in
theorem spec_SortList.calls (k : Nat) (A0 : Option Addr) (c0 : Nat) (l0 : List Int) (r : List Int) (w : World) (hr0 : Kd.C (Kd.int .i64) w A0 l0.length l0) (hc0 : l0.length ≤ c0) (h : spec_SortList.f k l0 = some r) :
 Calls Try.prog 109 #[.slice A0 l0.length c0] w fun e w' => ∃ v0_ : Value, e = .returned (v0_) ∧ Kd.R (Kd.int .i64) 3 w' w.heap.size (fun _ => True) v0_ r ∧ Below w.heap.size w w' := by
 have HR0 := Aside0.mk hr0
 have HC0 := Aside0.mk hc0
 clear hr0 hc0
 have HB := Aside0.mk (Below.refl w.heap.size w)
 have H : (spec_SortList.l0 k l0 (([] : List Int)) 0) = some r := h
 clear h
 obtain ⟨y123, hy123⟩ : ∃ y_ : List Int, y_ = (([] : List Int)) := ⟨_, rfl⟩
 replace H : (spec_SortList.l0 k l0 y123 0) = some r := by first | (rw [hy123]; with_reducible exact H) | (have H2_ := (Option.bind_some _ _).symm.trans H; rw [hy123]; with_reducible exact H2_) | (have H2_ := (Option.bind_some _ _).symm.trans H; with_reducible exact H2_) | with_reducible exact H | (rw [hy123]; exact H) | exact H
 have Ny123 := Aside0.mk hy123
 clear hy123
 have H' := Aside0.mk H
 clear H
 go_enter Try.func109, Try.ntmps109
 go_wp2_with (first | ((with_reducible refine gate_dst (N := 7) rfl ?_); refine Kd.R_lit (Kd.int .i64) _ 3 ?hg (N := 7) ?hd (xs := ([] : List Int)) (inner := []) (ok := fun _ => True) (okp := fun _ => True) ?hr ?hp (fun _ hk => hk) trivial (Below.refl _ _) (Nat.le_refl _) (by simp) ?_; (case hd => rfl); (case hg => rfl); (case hr => first | (go_simp; done) | (go_simp; rfl)); (case hp => exact (Reps.none _ _)); intro v124 w2 ho3 hb hg_ hnew_; clear hg_ hnew_; (first | rw [← Ny123.out] at ho3 | (simp only [Int.reduceToNat] at ho3; rw [← Ny123.out] at ho3)); have n0_ := Aside0.mk (Kd.R_lower ho3 (below_size (bl_ HB.out))); have n1_ := Aside0.mk (below_step (bl_ HB.out) hb); clear HB; have HO125 := n0_; have HB := n1_; clear n0_ n1_; clear hb ho3))
 go_loopg [3, 4] k (fun kq v3 v4 w' => ∃ (x3_1 : List Int) (x4_1 : Int), v4 = .int .i64 x4_1 ∧ Aside0 (spec_SortList.l0 kq l0 x3_1 x4_1 = some r) ∧ Aside0 (kq ≤ k) ∧ Aside0 (Kd.R (Kd.int .i64) 3 w' w.heap.size (fun _ => True) v3 x3_1) ∧ Aside0 (Below w.heap.size w w'))
 case atStart => exact ⟨(y123), (0), (by first | rfl | (simp; done) | (simp [*]; done)), H', ⟨Nat.le_refl _⟩, ⟨re_ HO125.out⟩, ⟨bl_ HB.out⟩⟩
 case round =>
  clear H'
  try clear c1
  try clear p2
  obtain ⟨x3_1, x4_1, rfl, HA, HK1, HO_3, HB⟩ := hrel
  cases gk with
  | zero => exact absurd HA.out (by simp [spec_SortList.l0])
  | succ k1 =>
   have H := HA.out
   clear HA
   simp only [spec_SortList.l0] at H
   by_cases c4 : x4_1 < (l0.length : Int)
   · rw [if_pos c4] at H
     have c4b0 : decide (x4_1 < (l0.length : Int)) = true := decide_eq_true c4
     clear c4
     have H' := Aside0.mk H
     clear H
     obtain ⟨Ao5, co5, eo5⟩ := Kd.R_slice HO_3.out
     subst eo5
     go_wp2
     go_loopg [5] k1 (fun kq v5 w' => ∃ (x5_2 : Int), v5 = .int .i64 x5_2 ∧ Aside0 (spec_SortList.l1 kq l0 x3_1 x4_1 x5_2 = some r) ∧ Aside0 (kq ≤ k1) ∧ Aside0 (Kd.R (Kd.int .i64) 3 w' w.heap.size (fun _ => True) (.slice Ao5 x3_1.length co5) x3_1) ∧ Aside0 (Below w.heap.size w w'))
     case atStart => exact ⟨((x3_1.length : Int)), (by first | rfl | (simp; done) | (simp [*]; done)), H', ⟨Nat.le_refl _⟩, ⟨re_ HO_3.out⟩, ⟨bl_ HB.out⟩⟩
     case round =>
      clear H'
      try clear c1
      try clear p2
      try clear c4
      try clear c4b0
      try clear p2
      obtain ⟨x5_2, rfl, HA, HK2, HO_3, HB⟩ := hrel
      cases gk with
      | zero => exact absurd HA.out (by simp [spec_SortList.l1])
      | succ k2 =>
       have H := HA.out
       clear HA
       simp only [spec_SortList.l1] at H
       by_cases c6 : x5_2 > 0
       · rw [if_pos c6] at H
         have c6b0 : decide (0 < x5_2) = true := decide_eq_true c6
         clear c6
         obtain ⟨ji7, hji7⟩ : ∃ j_ : Int, (wrap64 (x5_2 - 1)) = j_ := ⟨_, rfl⟩
         replace H : (if 0 ≤ (ji7) then (if (ji7) < (x3_1.length : Int) then (if 0 ≤ x4_1 then (if x4_1 < (l0.length : Int) then (if (rd x3_1 (ji7)) > (rd l0 x4_1) then (spec_SortList.l1 k2 l0 x3_1 x4_1 ji7) else (if (rd x3_1 (ji7)) = (rd l0 x4_1) then (spec_SortList.l0 k2 l0 x3_1 (wrap64 (x4_1 + 1))) else ((some (([] : List Int) : List Int)).bind fun y130 => (if 0 ≤ x5_2 then (if x5_2 ≤ (x3_1.length : Int) then ((some (x3_1.drop (x5_2 : Int).toNat : List Int)).bind fun y133 => (if y130.length + y133.length < 17592186044416 then ((some (y130 ++ y133 : List Int)).bind fun y137 => ((some (x3_1.take (x5_2 : Int).toNat : List Int)).bind fun y140 => (if y140.length < 17592186044416 then ((some (y140 ++ [rd l0 x4_1] : List Int)).bind fun y144 => (if y144.length + y137.length < 17592186044416 then (spec_SortList.l0 k2 l0 (y144 ++ y137) (wrap64 (x4_1 + 1))) else (none))) else (none)))) else (none))) else (none)) else (none))))) else (none)) else (none)) else (none)) else (none)) = some r := by first | (rw [hji7] at H; exact H) | (simp only [hji7] at H ⊢; exact H)
         have hji7w : (IntKind.i64.wrap (x5_2 - 1)) = ji7 := (i64_w _).trans hji7
         by_cases c8 : 0 ≤ (ji7)
         · rw [if_pos c8] at H
           have c8b0 : decide (0 ≤ (ji7)) = true := decide_eq_true c8
           clear c8
           by_cases c9 : (ji7) < (x3_1.length : Int)
           · rw [if_pos c9] at H
             have c9b0 : decide ((ji7) < (x3_1.length : Int)) = true := decide_eq_true c9
             clear c9
             by_cases c10 : 0 ≤ x4_1
             · rw [if_pos c10] at H
               have c10b0 : decide (0 ≤ x4_1) = true := decide_eq_true c10
               clear c10
               by_cases c11 : x4_1 < (l0.length : Int)
               · rw [if_pos c11] at H
                 have c11b0 : decide (x4_1 < (l0.length : Int)) = true := decide_eq_true c11
                 clear c11
                 by_cases c12 : (rd x3_1 (ji7)) > (rd l0 x4_1)
                 · rw [if_pos c12] at H
                   have c12b0 : decide ((rd l0 x4_1) < (rd x3_1 (ji7))) = true := decide_eq_true c12
                   clear c12
                   have H' := Aside0.mk H
                   clear H
                   try go_wp2
                   have n0_ := Aside0.mk (Kd.R_drew HO_3.out)
                   have n1_ := Aside0.mk (below_drew1 HB.out)
                   clear HO_3
                   clear HB
                   have HO_3 := n0_
                   have HB := n1_
                   clear n0_ n1_
                   have p126 : 0 ≤ ((ji7) : Int) := of_decide_eq_true (by first | (with_reducible assumption) | assumption)
                   have q126 : (ji7) < (x3_1.length : Int) := of_decide_eq_true (by first | (with_reducible assumption) | assumption)
                   obtain ⟨ad126, e126, hx126_0⟩ := Kd.at_int (Kd.R_reads' HO_3.out).2.2 (ji7) p126 q126
                   cases e126
                   replace p126 := eq_true p126
                   replace q126 := eq_true q126
                   have p127 : 0 ≤ (x4_1 : Int) := of_decide_eq_true (by first | (with_reducible assumption) | assumption)
                   have q127 : x4_1 < (l0.length : Int) := of_decide_eq_true (by first | (with_reducible assumption) | assumption)
                   obtain ⟨ad127, e127, hx127_0⟩ := Kd.at_int HR0.out x4_1 p127 q127
                   have hw127_0 := hx127_0
                   cases e127
                   (try replace hx127_0 := (HB.out.cell (World.block_lt_of_cell? w _ hx127_0)).trans hx127_0)
                   replace p127 := eq_true p127
                   replace q127 := eq_true q127
                   refine start_ (n := 14) (S := fun w' => w'.cell? (ad126.add ((ji7)).toNat) = some (.int .i64 (rd x3_1 (ji7))) ∧ w'.cell? (ad127.add (x4_1).toNat) = some (.int .i64 (rd l0 x4_1))) (ds := []) (B_ 0 14) (by kernel_rfl) rfl rfl ⟨hx126_0, ((HB.out.cell (World.block_lt_of_cell? w _ hw127_0)).trans hw127_0)⟩ (fun hHeld => ?_); refine with_tabW spec_SortList.tab6 spec_SortList.bits6 (fun HT_ HW_ => ?_)
                   generalize wr.drew = w13 at HO_3 HB hx126_0 hx127_0 hHeld ⊢
                   refine pu_ HT_ 0 16 (B_ 1 14) ?_
                   refine pu_ HT_ 1 17 (B_ 3 14) ?_
                   refine pu_ HT_ 2 18 (B_ 7 14) ?_
                   refine pu_ HT_ 3 19 (B_ 15 14) ?_
                   refine pu_ HT_ 4 20 (B_ 31 14) ?_
                   refine pu_ HT_ 5 21 (B_ 63 14) ?_
                   refine pu_ HT_ 6 22 (B_ 127 14) ?_
                   refine pu_ HT_ 8 24 (B_ 383 14) ?_
                   refine pu_ HT_ 9 25 (B_ 895 14) ?_
                   refine pu_ HT_ 10 26 (B_ 1919 14) ?_
                   refine tk2_ HT_ HW_ hHeld 7 23 (B_ 2047 14) ?_
                   refine tk2_ HT_ HW_ hHeld 11 27 (B_ 4095 14) ?_
                   refine pu_ HT_ 12 28 (B_ 8191 14) ?_
                   refine pu_ HT_ 13 29 (B_ 16383 14) ?_
                   refine done_ (done_of HT_.out (by kernel_rfl)) ?_
                   try go_wp2
                   go_roundg k2
                   case measure => have := HK1.out; have := HK2.out; omega
                   case rel => exact ⟨(ji7), (by first | rfl | (simp; done) | (simp only [← hji7] <;> (first | rfl | simp)) | (simp [*]; done)), H', ⟨by have := HK1.out; have := HK2.out; omega⟩, ⟨re_ HO_3.out⟩, ⟨bl_ HB.out⟩⟩
                 · rw [if_neg c12] at H
                   have c12b0 : decide ((rd l0 x4_1) < (rd x3_1 (ji7))) = false := decide_eq_false c12
                   clear c12
                   by_cases c14 : (rd x3_1 (ji7)) = (rd l0 x4_1)
                   · rw [if_pos c14] at H
                     have c14b0 : ((rd x3_1 (ji7)) == (rd l0 x4_1)) = true := beq_iff_eq.mpr c14
                     have c14b1 : ((rd x3_1 (ji7)) != (rd l0 x4_1)) = false := bne_eq_false_iff_eq.mpr c14
                     clear c14
                     have H' := Aside0.mk H
                     clear H
                     try go_wp2
                     have n0_ := Aside0.mk (Kd.R_drew HO_3.out)
                     have n1_ := Aside0.mk (below_drew1 HB.out)
                     clear HO_3
                     clear HB
                     have HO_3 := n0_
                     have HB := n1_
                     clear n0_ n1_
                     have p126 : 0 ≤ ((ji7) : Int) := of_decide_eq_true (by first | (with_reducible assumption) | assumption)
                     have q126 : (ji7) < (x3_1.length : Int) := of_decide_eq_true (by first | (with_reducible assumption) | assumption)
                     obtain ⟨ad126, e126, hx126_0⟩ := Kd.at_int (Kd.R_reads' HO_3.out).2.2 (ji7) p126 q126
                     cases e126
                     replace p126 := eq_true p126
                     replace q126 := eq_true q126
                     have p127 : 0 ≤ (x4_1 : Int) := of_decide_eq_true (by first | (with_reducible assumption) | assumption)
                     have q127 : x4_1 < (l0.length : Int) := of_decide_eq_true (by first | (with_reducible assumption) | assumption)
                     obtain ⟨ad127, e127, hx127_0⟩ := Kd.at_int HR0.out x4_1 p127 q127
                     have hw127_0 := hx127_0
                     cases e127
                     (try replace hx127_0 := (HB.out.cell (World.block_lt_of_cell? w _ hx127_0)).trans hx127_0)
                     replace p127 := eq_true p127
                     replace q127 := eq_true q127
                     refine start_ (n := 14) (S := fun w' => w'.cell? (ad126.add ((ji7)).toNat) = some (.int .i64 (rd x3_1 (ji7))) ∧ w'.cell? (ad127.add (x4_1).toNat) = some (.int .i64 (rd l0 x4_1))) (ds := []) (B_ 0 14) (by kernel_rfl) rfl rfl ⟨hx126_0, ((HB.out.cell (World.block_lt_of_cell? w _ hw127_0)).trans hw127_0)⟩ (fun hHeld => ?_); refine with_tabW spec_SortList.tab6 spec_SortList.bits6 (fun HT_ HW_ => ?_)
                     generalize wr.drew = w15 at HO_3 HB hx126_0 hx127_0 hHeld ⊢
                     refine pu_ HT_ 0 16 (B_ 1 14) ?_
                     refine pu_ HT_ 1 17 (B_ 3 14) ?_
                     refine pu_ HT_ 2 18 (B_ 7 14) ?_
                     refine pu_ HT_ 3 19 (B_ 15 14) ?_
                     refine pu_ HT_ 4 20 (B_ 31 14) ?_
                     refine pu_ HT_ 5 21 (B_ 63 14) ?_
                     refine pu_ HT_ 6 22 (B_ 127 14) ?_
                     refine pu_ HT_ 8 24 (B_ 383 14) ?_
                     refine pu_ HT_ 9 25 (B_ 895 14) ?_
                     refine pu_ HT_ 10 26 (B_ 1919 14) ?_
                     refine tk2_ HT_ HW_ hHeld 7 23 (B_ 2047 14) ?_
                     refine tk2_ HT_ HW_ hHeld 11 27 (B_ 4095 14) ?_
                     refine pu_ HT_ 12 28 (B_ 8191 14) ?_
                     refine pu_ HT_ 13 29 (B_ 16383 14) ?_
                     refine done_ (done_of HT_.out (by kernel_rfl)) ?_
                     try go_wp2
                     have n0_ := Aside0.mk (Kd.R_drew HO_3.out)
                     have n1_ := Aside0.mk (below_drew1 HB.out)
                     clear HO_3
                     clear HB
                     have HO_3 := n0_
                     have HB := n1_
                     clear n0_ n1_
                     have p128 : 0 ≤ ((ji7) : Int) := of_decide_eq_true (by first | (with_reducible assumption) | assumption)
                     have q128 : (ji7) < (x3_1.length : Int) := of_decide_eq_true (by first | (with_reducible assumption) | assumption)
                     obtain ⟨ad128, e128, hx128_0⟩ := Kd.at_int (Kd.R_reads' HO_3.out).2.2 (ji7) p128 q128
                     obtain rfl : ad126 = ad128 := (by injection e128)
                     replace p128 := eq_true p128
                     replace q128 := eq_true q128
                     have p129 : 0 ≤ (x4_1 : Int) := of_decide_eq_true (by first | (with_reducible assumption) | assumption)
                     have q129 : x4_1 < (l0.length : Int) := of_decide_eq_true (by first | (with_reducible assumption) | assumption)
                     obtain ⟨ad129, e129, hx129_0⟩ := Kd.at_int HR0.out x4_1 p129 q129
                     have hw129_0 := hx129_0
                     obtain rfl : ad127 = ad129 := (by injection e129)
                     (try replace hx129_0 := (HB.out.cell (World.block_lt_of_cell? w _ hx129_0)).trans hx129_0)
                     replace p129 := eq_true p129
                     replace q129 := eq_true q129
                     refine start_ (n := 14) (S := fun w' => w'.cell? (ad126.add ((ji7)).toNat) = some (.int .i64 (rd x3_1 (ji7))) ∧ w'.cell? (ad127.add (x4_1).toNat) = some (.int .i64 (rd l0 x4_1))) (ds := []) (B_ 0 14) (by kernel_rfl) rfl rfl ⟨hx128_0, ((HB.out.cell (World.block_lt_of_cell? w _ hw129_0)).trans hw129_0)⟩ (fun hHeld => ?_); refine with_tabW spec_SortList.tab8 spec_SortList.bits8 (fun HT_ HW_ => ?_)
                     generalize w15.drew = w16 at HO_3 HB hx128_0 hx129_0 hHeld ⊢
                     refine pu_ HT_ 0 32 (B_ 1 14) ?_
                     refine pu_ HT_ 1 33 (B_ 3 14) ?_
                     refine pu_ HT_ 2 34 (B_ 7 14) ?_
                     refine pu_ HT_ 3 35 (B_ 15 14) ?_
                     refine pu_ HT_ 4 36 (B_ 31 14) ?_
                     refine pu_ HT_ 5 37 (B_ 63 14) ?_
                     refine pu_ HT_ 6 38 (B_ 127 14) ?_
                     refine pu_ HT_ 8 40 (B_ 383 14) ?_
                     refine pu_ HT_ 9 41 (B_ 895 14) ?_
                     refine pu_ HT_ 10 42 (B_ 1919 14) ?_
                     refine tk2_ HT_ HW_ hHeld 7 39 (B_ 2047 14) ?_
                     refine tk2_ HT_ HW_ hHeld 11 43 (B_ 4095 14) ?_
                     refine pu_ HT_ 12 44 (B_ 8191 14) ?_
                     refine pu_ HT_ 13 45 (B_ 16383 14) ?_
                     refine done_ (done_of HT_.out (by kernel_rfl)) ?_
                     try go_wp2
                     go_roundg k2
                     case measure => have := HK1.out; have := HK2.out; omega
                     case rel => exact ⟨(x3_1), (wrap64 (x4_1 + 1)), (by first | rfl | (simp; done) | (simp [*]; done)), H', ⟨by have := HK1.out; have := HK2.out; omega⟩, ⟨re_ HO_3.out⟩, ⟨bl_ HB.out⟩⟩
                   · rw [if_neg c14] at H
                     have c14b0 : ((rd x3_1 (ji7)) == (rd l0 x4_1)) = false := beq_eq_false_iff_ne.mpr c14
                     have c14b1 : ((rd x3_1 (ji7)) != (rd l0 x4_1)) = true := bne_iff_ne.mpr c14
                     obtain ⟨y130, hy130⟩ : ∃ y_ : List Int, y_ = (([] : List Int)) := ⟨_, rfl⟩
                     replace H : (if 0 ≤ x5_2 then (if x5_2 ≤ (x3_1.length : Int) then ((some (x3_1.drop (x5_2 : Int).toNat : List Int)).bind fun y133 => (if y130.length + y133.length < 17592186044416 then ((some (y130 ++ y133 : List Int)).bind fun y137 => ((some (x3_1.take (x5_2 : Int).toNat : List Int)).bind fun y140 => (if y140.length < 17592186044416 then ((some (y140 ++ [rd l0 x4_1] : List Int)).bind fun y144 => (if y144.length + y137.length < 17592186044416 then (spec_SortList.l0 k2 l0 (y144 ++ y137) (wrap64 (x4_1 + 1))) else (none))) else (none)))) else (none))) else (none)) else (none)) = some r := by first | (rw [hy130]; with_reducible exact H) | (have H2_ := (Option.bind_some _ _).symm.trans H; rw [hy130]; with_reducible exact H2_) | (have H2_ := (Option.bind_some _ _).symm.trans H; with_reducible exact H2_) | with_reducible exact H | (rw [hy130]; exact H) | exact H
                     have Ny130 := Aside0.mk hy130
                     clear hy130
                     by_cases c17 : 0 ≤ x5_2
                     · rw [if_pos c17] at H
                       have c17b0 := eq_true c17
                       have c17b1 : decide (0 ≤ x5_2) = true := decide_eq_true c17
                       clear c17
                       by_cases c18 : x5_2 ≤ (x3_1.length : Int)
                       · rw [if_pos c18] at H
                         have c18b0 := eq_true c18
                         have c18b1 : decide (x5_2 ≤ (x3_1.length : Int)) = true := decide_eq_true c18
                         clear c18
                         obtain ⟨y133, hy133⟩ : ∃ y_ : List Int, y_ = (x3_1.drop (x5_2 : Int).toNat) := ⟨_, rfl⟩
                         replace H : (if y130.length + y133.length < 17592186044416 then ((some (y130 ++ y133 : List Int)).bind fun y137 => ((some (x3_1.take (x5_2 : Int).toNat : List Int)).bind fun y140 => (if y140.length < 17592186044416 then ((some (y140 ++ [rd l0 x4_1] : List Int)).bind fun y144 => (if y144.length + y137.length < 17592186044416 then (spec_SortList.l0 k2 l0 (y144 ++ y137) (wrap64 (x4_1 + 1))) else (none))) else (none)))) else (none)) = some r := by first | (rw [hy133]; with_reducible exact H) | (have H2_ := (Option.bind_some _ _).symm.trans H; rw [hy133]; with_reducible exact H2_) | (have H2_ := (Option.bind_some _ _).symm.trans H; with_reducible exact H2_) | with_reducible exact H | (rw [hy133]; exact H) | exact H
                         have Ny133 := Aside0.mk hy133
                         clear hy133
                         by_cases c19 : y130.length + y133.length < 17592186044416
                         · rw [if_pos c19] at H
                           have LMc19 := Aside0.mk c19
                           clear c19
                           obtain ⟨y137, hy137⟩ : ∃ y_ : List Int, y_ = (y130 ++ y133) := ⟨_, rfl⟩
                           replace H : ((some (x3_1.take (x5_2 : Int).toNat : List Int)).bind fun y140 => (if y140.length < 17592186044416 then ((some (y140 ++ [rd l0 x4_1] : List Int)).bind fun y144 => (if y144.length + y137.length < 17592186044416 then (spec_SortList.l0 k2 l0 (y144 ++ y137) (wrap64 (x4_1 + 1))) else (none))) else (none))) = some r := by first | (rw [hy137]; with_reducible exact H) | (have H2_ := (Option.bind_some _ _).symm.trans H; rw [hy137]; with_reducible exact H2_) | (have H2_ := (Option.bind_some _ _).symm.trans H; with_reducible exact H2_) | with_reducible exact H | (rw [hy137]; exact H) | exact H
                           have Ny137 := Aside0.mk hy137
                           clear hy137
                           have c20b0 := eq_true (of_decide_eq_true (by first | (with_reducible assumption) | assumption) : x5_2 ≤ (x3_1.length : Int))
                           obtain ⟨y140, hy140⟩ : ∃ y_ : List Int, y_ = (x3_1.take (x5_2 : Int).toNat) := ⟨_, rfl⟩
                           replace H : (if y140.length < 17592186044416 then ((some (y140 ++ [rd l0 x4_1] : List Int)).bind fun y144 => (if y144.length + y137.length < 17592186044416 then (spec_SortList.l0 k2 l0 (y144 ++ y137) (wrap64 (x4_1 + 1))) else (none))) else (none)) = some r := by first | (rw [hy140]; with_reducible exact H) | (have H2_ := (Option.bind_some _ _).symm.trans H; rw [hy140]; with_reducible exact H2_) | (have H2_ := (Option.bind_some _ _).symm.trans H; with_reducible exact H2_) | with_reducible exact H | (rw [hy140]; exact H) | exact H
                           have Ny140 := Aside0.mk hy140
                           clear hy140
                           by_cases c21 : y140.length < 17592186044416
                           · rw [if_pos c21] at H
                             have LMc21 := Aside0.mk c21
                             clear c21
                             obtain ⟨y144, hy144⟩ : ∃ y_ : List Int, y_ = (y140 ++ [rd l0 x4_1]) := ⟨_, rfl⟩
                             replace H : (if y144.length + y137.length < 17592186044416 then (spec_SortList.l0 k2 l0 (y144 ++ y137) (wrap64 (x4_1 + 1))) else (none)) = some r := by first | (rw [hy144]; with_reducible exact H) | (have H2_ := (Option.bind_some _ _).symm.trans H; rw [hy144]; with_reducible exact H2_) | (have H2_ := (Option.bind_some _ _).symm.trans H; with_reducible exact H2_) | with_reducible exact H | (rw [hy144]; exact H) | exact H
                             have Ny144 := Aside0.mk hy144
                             clear hy144
                             by_cases c22 : y144.length + y137.length < 17592186044416
                             · rw [if_pos c22] at H
                               have LMc22 := Aside0.mk c22
                               clear c22
                               obtain ⟨y147, hy147⟩ : ∃ y_ : List Int, y_ = (y144 ++ y137) := ⟨_, rfl⟩
                               replace H : (spec_SortList.l0 k2 l0 y147 (wrap64 (x4_1 + 1))) = some r := by first | (rw [hy147]; with_reducible exact H) | (have H2_ := (Option.bind_some _ _).symm.trans H; rw [hy147]; with_reducible exact H2_) | (have H2_ := (Option.bind_some _ _).symm.trans H; with_reducible exact H2_) | with_reducible exact H | (rw [hy147]; exact H) | exact H
                               have Ny147 := Aside0.mk hy147
                               clear hy147
                               have H' := Aside0.mk H
                               clear H
                               try go_wp2
                               have n0_ := Aside0.mk (Kd.R_drew HO_3.out)
                               have n1_ := Aside0.mk (below_drew1 HB.out)
                               clear HO_3
                               clear HB
                               have HO_3 := n0_
                               have HB := n1_
                               clear n0_ n1_
                               have p126 : 0 ≤ ((ji7) : Int) := of_decide_eq_true (by first | (with_reducible assumption) | assumption)
                               have q126 : (ji7) < (x3_1.length : Int) := of_decide_eq_true (by first | (with_reducible assumption) | assumption)
                               obtain ⟨ad126, e126, hx126_0⟩ := Kd.at_int (Kd.R_reads' HO_3.out).2.2 (ji7) p126 q126
                               cases e126
                               replace p126 := eq_true p126
                               replace q126 := eq_true q126
                               have p127 : 0 ≤ (x4_1 : Int) := of_decide_eq_true (by first | (with_reducible assumption) | assumption)
                               have q127 : x4_1 < (l0.length : Int) := of_decide_eq_true (by first | (with_reducible assumption) | assumption)
                               obtain ⟨ad127, e127, hx127_0⟩ := Kd.at_int HR0.out x4_1 p127 q127
                               have hw127_0 := hx127_0
                               cases e127
                               (try replace hx127_0 := (HB.out.cell (World.block_lt_of_cell? w _ hx127_0)).trans hx127_0)
                               replace p127 := eq_true p127
                               replace q127 := eq_true q127
                               refine start_ (n := 14) (S := fun w' => w'.cell? (ad126.add ((ji7)).toNat) = some (.int .i64 (rd x3_1 (ji7))) ∧ w'.cell? (ad127.add (x4_1).toNat) = some (.int .i64 (rd l0 x4_1))) (ds := []) (B_ 0 14) (by kernel_rfl) rfl rfl ⟨hx126_0, ((HB.out.cell (World.block_lt_of_cell? w _ hw127_0)).trans hw127_0)⟩ (fun hHeld => ?_); refine with_tabW spec_SortList.tab6 spec_SortList.bits6 (fun HT_ HW_ => ?_)
                               generalize wr.drew = w23 at HO_3 HB hx126_0 hx127_0 hHeld ⊢
                               refine pu_ HT_ 0 16 (B_ 1 14) ?_
                               refine pu_ HT_ 1 17 (B_ 3 14) ?_
                               refine pu_ HT_ 2 18 (B_ 7 14) ?_
                               refine pu_ HT_ 3 19 (B_ 15 14) ?_
                               refine pu_ HT_ 4 20 (B_ 31 14) ?_
                               refine pu_ HT_ 5 21 (B_ 63 14) ?_
                               refine pu_ HT_ 6 22 (B_ 127 14) ?_
                               refine pu_ HT_ 8 24 (B_ 383 14) ?_
                               refine pu_ HT_ 9 25 (B_ 895 14) ?_
                               refine pu_ HT_ 10 26 (B_ 1919 14) ?_
                               refine tk2_ HT_ HW_ hHeld 7 23 (B_ 2047 14) ?_
                               refine tk2_ HT_ HW_ hHeld 11 27 (B_ 4095 14) ?_
                               refine pu_ HT_ 12 28 (B_ 8191 14) ?_
                               refine pu_ HT_ 13 29 (B_ 16383 14) ?_
                               refine done_ (done_of HT_.out (by kernel_rfl)) ?_
                               try go_wp2
                               have n0_ := Aside0.mk (Kd.R_drew HO_3.out)
                               have n1_ := Aside0.mk (below_drew1 HB.out)
                               clear HO_3
                               clear HB
                               have HO_3 := n0_
                               have HB := n1_
                               clear n0_ n1_
                               have p128 : 0 ≤ ((ji7) : Int) := of_decide_eq_true (by first | (with_reducible assumption) | assumption)
                               have q128 : (ji7) < (x3_1.length : Int) := of_decide_eq_true (by first | (with_reducible assumption) | assumption)
                               obtain ⟨ad128, e128, hx128_0⟩ := Kd.at_int (Kd.R_reads' HO_3.out).2.2 (ji7) p128 q128
                               obtain rfl : ad126 = ad128 := (by injection e128)
                               replace p128 := eq_true p128
                               replace q128 := eq_true q128
                               have p129 : 0 ≤ (x4_1 : Int) := of_decide_eq_true (by first | (with_reducible assumption) | assumption)
                               have q129 : x4_1 < (l0.length : Int) := of_decide_eq_true (by first | (with_reducible assumption) | assumption)
                               obtain ⟨ad129, e129, hx129_0⟩ := Kd.at_int HR0.out x4_1 p129 q129
                               have hw129_0 := hx129_0
                               obtain rfl : ad127 = ad129 := (by injection e129)
                               (try replace hx129_0 := (HB.out.cell (World.block_lt_of_cell? w _ hx129_0)).trans hx129_0)
                               replace p129 := eq_true p129
                               replace q129 := eq_true q129
                               refine start_ (n := 14) (S := fun w' => w'.cell? (ad126.add ((ji7)).toNat) = some (.int .i64 (rd x3_1 (ji7))) ∧ w'.cell? (ad127.add (x4_1).toNat) = some (.int .i64 (rd l0 x4_1))) (ds := []) (B_ 0 14) (by kernel_rfl) rfl rfl ⟨hx128_0, ((HB.out.cell (World.block_lt_of_cell? w _ hw129_0)).trans hw129_0)⟩ (fun hHeld => ?_); refine with_tabW spec_SortList.tab8 spec_SortList.bits8 (fun HT_ HW_ => ?_)
                               generalize w23.drew = w24 at HO_3 HB hx128_0 hx129_0 hHeld ⊢
                               refine pu_ HT_ 0 32 (B_ 1 14) ?_
                               refine pu_ HT_ 1 33 (B_ 3 14) ?_
                               refine pu_ HT_ 2 34 (B_ 7 14) ?_
                               refine pu_ HT_ 3 35 (B_ 15 14) ?_
                               refine pu_ HT_ 4 36 (B_ 31 14) ?_
                               refine pu_ HT_ 5 37 (B_ 63 14) ?_
                               refine pu_ HT_ 6 38 (B_ 127 14) ?_
                               refine pu_ HT_ 8 40 (B_ 383 14) ?_
                               refine pu_ HT_ 9 41 (B_ 895 14) ?_
                               refine pu_ HT_ 10 42 (B_ 1919 14) ?_
                               refine tk2_ HT_ HW_ hHeld 7 39 (B_ 2047 14) ?_
                               refine tk2_ HT_ HW_ hHeld 11 43 (B_ 4095 14) ?_
                               refine pu_ HT_ 12 44 (B_ 8191 14) ?_
                               refine pu_ HT_ 13 45 (B_ 16383 14) ?_
                               refine done_ (done_of HT_.out (by kernel_rfl)) ?_
                               try go_wp2_with (first | ((with_reducible refine gate_dst (N := 46) rfl ?_); refine Kd.R_lit (Kd.int .i64) _ 3 ?hg (N := 46) ?hd (xs := ([] : List Int)) (inner := []) (ok := fun _ => True) (okp := fun _ => True) ?hr ?hp (fun _ hk => hk) trivial (Below.refl _ _) (Nat.le_refl _) (by simp) ?_; (case hd => rfl); (case hg => rfl); (case hr => first | (go_simp; done) | (go_simp; rfl)); (case hp => exact (Reps.none _ _)); intro v131 w25 ho26 hb hg_ hnew_; clear hg_ hnew_; (first | rw [← Ny130.out] at ho26 | (simp only [Int.reduceToNat] at ho26; rw [← Ny130.out] at ho26)); have n0_ := Aside0.mk (Kd.R_elder' (re_ HO_3.out) (Kd.R_base ho26) hb); have n1_ := Aside0.mk (Kd.R_lower (Kd.R_new' ho26 (Kd.R_lt (re_ HO_3.out))) (below_size (bl_ HB.out))); have n2_ := Aside0.mk (below_step (bl_ HB.out) hb); clear HO_3; clear HB; have HO_3 := n0_; have HO132 := n1_; have HB := n2_; clear n0_ n1_ n2_; clear hb ho26; have q27 : (x5_2 : Int) ≤ ((x3_1.length : Int) : Int) := of_decide_eq_true (by first | (with_reducible assumption) | assumption); obtain ⟨i027, hi027, _, hsz27, _⟩ := info_parts info3; have hroom27 : x3_1.length ≤ co5 := (Kd.R_reads' HO_3.out).2.1; have hC27 : Kd.C (Kd.int .i64) _ (some ad126) x3_1.length x3_1 := (Kd.R_reads' HO_3.out).2.2; have q027 : (0 : Int) ≤ (x5_2 : Int) := of_decide_eq_true (by first | (with_reducible assumption) | assumption); have hcut27 := cut_from (P := Try.prog) 22 3 .i64 Try.underlying22 hi027 1 hsz27 (some ad126) x3_1.length co5 x5_2 q027 q27; have hr27 := Kd.C_drop (m := (x5_2 : Int).toNat) (c := co5) hC27 (by omega) hroom27; obtain ⟨A27, hA27⟩ : ∃ A1, A1 = (if co5 = (x5_2 : Int).toNat then (some ad126) else ((some ad126) : Option Addr).map (·.add ((x5_2 : Int).toNat * 1))) := ⟨_, rfl⟩; obtain ⟨c27, hc27⟩ : ∃ c1, c1 = co5 - (x5_2 : Int).toNat := ⟨_, rfl⟩; have hy27 : y133.length = x3_1.length - (x5_2 : Int).toNat := (by rw [Ny133.out, List.length_drop] <;> omega); rw [show (x3_1).drop (x5_2 : Int).toNat = y133 from Ny133.out.symm] at hr27; replace hr27 : Kd.C (Kd.int .i64) _ A27 y133.length y133 := (by rw [hA27]; exact hr27); rw [← hy27, ← hA27, ← hc27] at hcut27; have HR136 := Aside0.mk hr27; have HC136 := Aside0.mk (show y133.length ≤ c27 from by rw [hy27, hc27]; exact Nat.sub_le_sub_right hroom27 _); clear hr27 hC27 hroom27 hi027 hsz27 hc27; have KY27 := Aside0.mk hy27; have KA27 := Aside0.mk hA27; clear hy27 hA27; have KL27 := Aside0.mk (show (x5_2 : Int).toNat ≤ x3_1.length from by omega); replace q27 := eq_true q27) | ((with_reducible refine gate_builtin (b := .append) (xs := #[.tmp 46, .tmp 49]) rfl ?_); at_builtin; refine Kd.R_append_rows (Kd.int .i64) (w0 := w) w.heap.size rfl (.tmp 46) (.tmp 49) 22 3 (.int .i64 0) 8 rfl Try.underlying22 info3 rfl (by decide) (by omega) v131 y130 y133 _ _ _ (fun k_ => some k_ ≠ (.slice (some ad126) x3_1.length co5 : Value).ownBlock) (fun _ => False) rfl rfl ?aO ?aR (fun _ _ h => h) (fun _ h => h.elim) ?aF ?aB ?aS ?aL ?_; (case aR => repeat (first | exact (by repeat (first | (with_reducible exact HR136.out) | (with_reducible refine Kd.C_alloc ?_ _) | (with_reducible refine Kd.C_drewN ?_ _) | (with_reducible refine Kd.C_drew ?_) | exact HR136.out)) | (with_reducible refine Kd.C_alloc ?_ _) | (with_reducible refine Kd.C_drewN ?_ _) | (with_reducible refine Kd.C_drew ?_))); (case aB => exact (bl_ HB.out)); (case aF => exact (fun k_ hk => Kd.fresh' (Kd.R_lt (re_ HO_3.out)) k_ hk)); (case aO => exact (by (with_reducible repeat (first | apply Kd.R_alloc | apply Kd.R_drewN | apply Kd.R_drew)); exact Kd.R_mono HO132.out (fun _ hk => hk.2))); (case aS => exact (below_size (bl_ HB.out))); (case aL => have := LMc19.out; omega); intro v138 w28 ho hb hg hat; rw [← Ny137.out] at ho; have n0_ := Aside0.mk (Kd.R_after (ok := (fun _ => True)) (re_ HO_3.out) hg hat); have n1_ := Aside0.mk (hb); have n2_ := Aside0.mk ((show Kd.C (Kd.int .i64) w28 A27 y133.length y133 from by rw [Ny133.out, KA27.out]; exact Kd.C_drop (m := (x5_2 : Int).toNat) (c := co5) ((Kd.R_reads' (Kd.R_after (ok := (fun _ => True)) (re_ HO_3.out) hg hat)).2.2) KL27.out ((Kd.R_reads' (Kd.R_after (ok := (fun _ => True)) (re_ HO_3.out) hg hat)).2.1))); have n3_ := Aside0.mk (ho); clear HO_3; clear HB; clear HR136; clear HO132; have HO_3 := n0_; have HB := n1_; have HR136 := n2_; have HO139 := n3_; clear n0_ n1_ n2_ n3_; clear ho hb hg hat))
                               have n0_ := Aside0.mk (Kd.R_drew HO_3.out)
                               have n1_ := Aside0.mk (Kd.R_drew HO139.out)
                               have n2_ := Aside0.mk (Kd.C_drew HR136.out)
                               have n3_ := Aside0.mk (below_drew1 HB.out)
                               clear HO_3
                               clear HO139
                               clear HR136
                               clear HB
                               have HO_3 := n0_
                               have HO139 := n1_
                               have HR136 := n2_
                               have HB := n3_
                               clear n0_ n1_ n2_ n3_
                               have q30 : (x5_2 : Int) ≤ ((x3_1.length : Int) : Int) := of_decide_eq_true (by first | (with_reducible assumption) | assumption)
                               obtain ⟨i030, hi030, _, hsz30, _⟩ := info_parts info3
                               have hcut30 := cut_to (P := Try.prog) 22 3 .i64 Try.underlying22 hi030 (some ad126) x3_1.length co5 x5_2 (of_decide_eq_true (by first | (with_reducible assumption) | assumption)) q30 (Kd.R_reads' HO_3.out).2.1
                               have hr30 := Kd.R_take (m := (x5_2 : Int).toNat) HO_3.out (by omega)
                               have hy30 : y140.length = (x5_2 : Int).toNat := (by rw [Ny140.out, List.length_take]; omega)
                               rw [← Ny140.out] at hr30
                               rw [← hy30] at hr30 hcut30
                               clear hy30 hi030 hsz30 HO_3
                               have HO142 := Aside0.mk hr30
                               clear hr30
                               replace q30 := eq_true q30
                               have p143 : 0 ≤ (x4_1 : Int) := of_decide_eq_true (by first | (with_reducible assumption) | assumption)
                               have q143 : x4_1 < (l0.length : Int) := of_decide_eq_true (by first | (with_reducible assumption) | assumption)
                               obtain ⟨ad143, e143, hx143_0⟩ := Kd.at_int HR0.out x4_1 p143 q143
                               have hw143_0 := hx143_0
                               obtain rfl : ad127 = ad143 := (by injection e143)
                               (try replace hx143_0 := (HB.out.cell (World.block_lt_of_cell? w _ hx143_0)).trans hx143_0)
                               replace p143 := eq_true p143
                               replace q143 := eq_true q143
                               refine start_ (n := 12) (S := fun w' => w'.cell? (ad127.add (x4_1).toNat) = some (.int .i64 (rd l0 x4_1))) (ds := []) (B_ 0 12) (by kernel_rfl) rfl rfl (by first | exact hw143_0 | exact (HB.out.cell (World.block_lt_of_cell? w _ hw143_0)).trans hw143_0 | (obtain ⟨_, e_, h_⟩ := Kd.at_int HR0.out x4_1 (of_eq_true p143) (of_eq_true q143); cases e_; exact h_)) (fun hHeld => ?_); refine with_tabW spec_SortList.tab10 spec_SortList.bits10 (fun HT_ HW_ => ?_)
                               generalize w28.drew = w29 at HO_3 HO139 HR136 HB HO142 hx143_0 hHeld ⊢
                               refine pu_ HT_ 0 51 (B_ 1 12) ?_
                               refine pu_ HT_ 1 52 (B_ 3 12) ?_
                               refine pu_ HT_ 2 53 (B_ 7 12) ?_
                               refine pu_ HT_ 3 54 (B_ 15 12) ?_
                               refine pu_ HT_ 4 55 (B_ 31 12) ?_
                               refine pu_ HT_ 5 56 (B_ 63 12) ?_
                               refine pu_ HT_ 9 60 (B_ 575 12) ?_
                               refine tk1_ HT_ HW_ hHeld 6 57 (B_ 639 12) ?_
                               refine one_ (i := 7) (N := some 58) (B_ 767 12) rfl rfl (one_of HT_.out (by kernel_rfl)) (by decide) (fun K hK => ?_)
                               refine value_ (w1 := ?_) (v := ?_) (by rfl) rfl ?_ ?_
                               rotate_left 2
                               · go_simp
                                 constructor
                                 · rfl
                                 · rfl
                               refine hK.out _ _ ((World.cell?_alloc_lt _ _ _ (World.block_lt_of_cell? _ _ (by first | exact hw143_0 | exact (HB.out.cell (World.block_lt_of_cell? w _ hw143_0)).trans hw143_0 | (obtain ⟨_, e_, h_⟩ := Kd.at_int HR0.out x4_1 (of_eq_true p143) (of_eq_true q143); cases e_; exact h_)))).trans (by first | exact hw143_0 | exact (HB.out.cell (World.block_lt_of_cell? w _ hw143_0)).trans hw143_0 | (obtain ⟨_, e_, h_⟩ := Kd.at_int HR0.out x4_1 (of_eq_true p143) (of_eq_true q143); cases e_; exact h_))) (fun hHeld => ?_)
                               clear hK K
                               refine norm_ (a' := ?_) ?_ ?_
                               rotate_left
                               · show Act.put _ (some 58) _ = _
                                 simp only [Act.put, z1_, z2_, z3_, i64_w, i32_w]
                                 rfl
                               refine one_ (i := 8) (N := some 59) (B_ 1023 12) rfl rfl (one_of HT_.out (by kernel_rfl)) (by decide) (fun K hK => ?_)
                               refine Kd.R_append_step (Kd.int .i64) (w0 := w) w.heap.size (by rfl) (.tmp 53) (.tmp 58) 22 3 (.int .i64 0) 8 rfl Try.underlying22 info3 rfl (by decide) (by omega) (.slice (some ad126) y140.length co5) y140 (rd l0 x4_1) [.int .i64 (rd l0 x4_1)] (fun k_ => some k_ ≠ (v138 : Value).ownBlock) (fun _ => False) rfl rfl ?aP (fun _ hk => hk.elim) ?aF ?aO ?aB ?aS ?aL ?_
                               (case aP => exact rfl)
                               (case aB => exact (bl_ HB.out))
                               (case aF => exact (fun k_ hk => Kd.fresh' (Kd.R_lt (re_ HO139.out)) k_ hk))
                               (case aO => exact (by (with_reducible repeat (first | apply Kd.R_alloc | apply Kd.R_drewN | apply Kd.R_drew)); exact Kd.R_mono HO142.out (fun _ hk => hk.2)))
                               (case aS => exact (below_size (bl_ HB.out)))
                               (case aL => have := LMc21.out; omega)
                               intro v145 w31 ho hb hg hat
                               rw [← Ny144.out] at ho
                               have n0_ := Aside0.mk (Kd.R_after (ok := (fun _ => True)) (by (with_reducible repeat (first | apply Kd.R_alloc | apply Kd.R_drewN | apply Kd.R_drew)); exact Kd.R_mono HO139.out (fun _ hk => ⟨trivial, by first | exact hk | exact (fun e_ => hk (e_.trans (own_len_ _ _ _ _ _)))⟩)) hg hat)
                               have n1_ := Aside0.mk (hb)
                               have n2_ := Aside0.mk (ho)
                               clear HO139
                               clear HB
                               clear HO142
                               have HO139 := n0_
                               have HB := n1_
                               have HO146 := n2_
                               clear n0_ n1_ n2_
                               clear ho hb hg hat
                               obtain ⟨Ao33, co33, eo33⟩ := Kd.R_slice HO139.out
                               (first | subst eo33 | (injection eo33 with f1_ f2_ f3_; have f4_ := f1_.symm; have f5_ := f3_.symm; clear f1_ f2_ f3_; subst f4_; subst f5_))
                               refine hK.out _ _ (by first | exact hw143_0 | exact (HB.out.cell (World.block_lt_of_cell? w _ hw143_0)).trans hw143_0 | (obtain ⟨_, e_, h_⟩ := Kd.at_int HR0.out x4_1 (of_eq_true p143) (of_eq_true q143); cases e_; exact h_)) (fun hHeld => ?_)
                               clear hK K
                               refine norm_ (a' := ?_) ?_ ?_
                               rotate_left
                               · show Act.put _ (some 59) _ = _
                                 simp only [Act.put, z1_, z2_, z3_, i64_w, i32_w]
                                 rfl
                               refine one_ (i := 10) (N := some 61) (B_ 2047 12) rfl rfl (one_of HT_.out (by kernel_rfl)) (by decide) (fun K hK => ?_)
                               refine Kd.R_append_rows_step (Kd.int .i64) (w0 := w) w.heap.size (by rfl) (.tmp 59) (.tmp 60) 22 3 (.int .i64 0) 8 rfl Try.underlying22 info3 rfl (by decide) (by omega) v145 y144 y137 _ _ _ (fun k_ => some k_ ≠ (.slice Ao33 y137.length co33 : Value).ownBlock) (fun _ => False) rfl rfl ?aO ?aR (fun _ _ h => h) (fun _ h => h.elim) ?aF ?aB ?aS ?aL ?_
                               (case aR => exact ce_ ((Kd.R_reads' HO139.out).2.2))
                               (case aB => exact (bl_ HB.out))
                               (case aF => exact (fun k_ hk => Kd.fresh' (Kd.R_lt (re_ HO139.out)) k_ hk))
                               (case aO => exact (re_ HO146.out))
                               (case aS => exact (below_size (bl_ HB.out)))
                               (case aL => have := LMc22.out; omega)
                               intro v148 w32 ho hb hg hat
                               rw [← Ny147.out] at ho
                               have n0_ := Aside0.mk (Kd.R_after (ok := (fun _ => True)) (re_ HO139.out) hg hat)
                               have n1_ := Aside0.mk (hb)
                               have n2_ := Aside0.mk (ho)
                               clear HO139
                               clear HB
                               clear HO146
                               have HO139 := n0_
                               have HB := n1_
                               have HO149 := n2_
                               clear n0_ n1_ n2_
                               clear ho hb hg hat
                               refine hK.out _ _ (by first | exact hw143_0 | exact (HB.out.cell (World.block_lt_of_cell? w _ hw143_0)).trans hw143_0 | (obtain ⟨_, e_, h_⟩ := Kd.at_int HR0.out x4_1 (of_eq_true p143) (of_eq_true q143); cases e_; exact h_)) (fun hHeld => ?_)
                               clear hK K
                               refine norm_ (a' := ?_) ?_ ?_
                               rotate_left
                               · show Act.put _ (some 61) _ = _
                                 simp only [Act.put, z1_, z2_, z3_, i64_w, i32_w]
                                 rfl
                               refine pu_ HT_ 11 3 (B_ 4095 12) ?_
                               refine done_ (done_of HT_.out (by kernel_rfl)) ?_
                               try go_wp2
                               go_roundg k2
                               case measure => have := HK1.out; have := HK2.out; omega
                               case rel => exact ⟨(y147), (wrap64 (x4_1 + 1)), (by first | rfl | (simp; done) | (simp [*]; done)), H', ⟨by have := HK1.out; have := HK2.out; omega⟩, ⟨by (with_reducible repeat (first | apply Kd.R_alloc | apply Kd.R_drewN | apply Kd.R_drew)); exact Kd.R_mono HO149.out (fun _ hk => trivial)⟩, ⟨bl_ HB.out⟩⟩
                             · rw [if_neg c22] at H
                               exact absurd H (by simp)
                           · rw [if_neg c21] at H
                             exact absurd H (by simp)
                         · rw [if_neg c19] at H
                           exact absurd H (by simp)
                       · rw [if_neg c18] at H
                         exact absurd H (by simp)
                     · rw [if_neg c17] at H
                       exact absurd H (by simp)
               · rw [if_neg c11] at H
                 exact absurd H (by simp)
             · rw [if_neg c10] at H
               exact absurd H (by simp)
           · rw [if_neg c9] at H
             exact absurd H (by simp)
         · rw [if_neg c8] at H
           exact absurd H (by simp)
       · rw [if_neg c6] at H
         have c6b0 : decide (0 < x5_2) = false := decide_eq_false c6
         clear c6
         obtain ⟨y150, hy150⟩ : ∃ y_ : List Int, y_ = (([] : List Int)) := ⟨_, rfl⟩
         replace H : (if 0 ≤ x5_2 then (if x5_2 ≤ (x3_1.length : Int) then ((some (x3_1.drop (x5_2 : Int).toNat : List Int)).bind fun y153 => (if y150.length + y153.length < 17592186044416 then ((some (y150 ++ y153 : List Int)).bind fun y157 => ((some (x3_1.take (x5_2 : Int).toNat : List Int)).bind fun y160 => (if 0 ≤ x4_1 then (if x4_1 < (l0.length : Int) then (if y160.length < 17592186044416 then ((some (y160 ++ [rd l0 x4_1] : List Int)).bind fun y164 => (if y164.length + y157.length < 17592186044416 then (spec_SortList.l0 k2 l0 (y164 ++ y157) (wrap64 (x4_1 + 1))) else (none))) else (none)) else (none)) else (none)))) else (none))) else (none)) else (none)) = some r := by first | (rw [hy150]; with_reducible exact H) | (have H2_ := (Option.bind_some _ _).symm.trans H; rw [hy150]; with_reducible exact H2_) | (have H2_ := (Option.bind_some _ _).symm.trans H; with_reducible exact H2_) | with_reducible exact H | (rw [hy150]; exact H) | exact H
         have Ny150 := Aside0.mk hy150
         clear hy150
         by_cases c34 : 0 ≤ x5_2
         · rw [if_pos c34] at H
           have c34b0 := eq_true c34
           have c34b1 : decide (0 ≤ x5_2) = true := decide_eq_true c34
           clear c34
           by_cases c35 : x5_2 ≤ (x3_1.length : Int)
           · rw [if_pos c35] at H
             have c35b0 := eq_true c35
             have c35b1 : decide (x5_2 ≤ (x3_1.length : Int)) = true := decide_eq_true c35
             clear c35
             obtain ⟨y153, hy153⟩ : ∃ y_ : List Int, y_ = (x3_1.drop (x5_2 : Int).toNat) := ⟨_, rfl⟩
             replace H : (if y150.length + y153.length < 17592186044416 then ((some (y150 ++ y153 : List Int)).bind fun y157 => ((some (x3_1.take (x5_2 : Int).toNat : List Int)).bind fun y160 => (if 0 ≤ x4_1 then (if x4_1 < (l0.length : Int) then (if y160.length < 17592186044416 then ((some (y160 ++ [rd l0 x4_1] : List Int)).bind fun y164 => (if y164.length + y157.length < 17592186044416 then (spec_SortList.l0 k2 l0 (y164 ++ y157) (wrap64 (x4_1 + 1))) else (none))) else (none)) else (none)) else (none)))) else (none)) = some r := by first | (rw [hy153]; with_reducible exact H) | (have H2_ := (Option.bind_some _ _).symm.trans H; rw [hy153]; with_reducible exact H2_) | (have H2_ := (Option.bind_some _ _).symm.trans H; with_reducible exact H2_) | with_reducible exact H | (rw [hy153]; exact H) | exact H
             have Ny153 := Aside0.mk hy153
             clear hy153
             by_cases c36 : y150.length + y153.length < 17592186044416
             · rw [if_pos c36] at H
               have LMc36 := Aside0.mk c36
               clear c36
               obtain ⟨y157, hy157⟩ : ∃ y_ : List Int, y_ = (y150 ++ y153) := ⟨_, rfl⟩
               replace H : ((some (x3_1.take (x5_2 : Int).toNat : List Int)).bind fun y160 => (if 0 ≤ x4_1 then (if x4_1 < (l0.length : Int) then (if y160.length < 17592186044416 then ((some (y160 ++ [rd l0 x4_1] : List Int)).bind fun y164 => (if y164.length + y157.length < 17592186044416 then (spec_SortList.l0 k2 l0 (y164 ++ y157) (wrap64 (x4_1 + 1))) else (none))) else (none)) else (none)) else (none))) = some r := by first | (rw [hy157]; with_reducible exact H) | (have H2_ := (Option.bind_some _ _).symm.trans H; rw [hy157]; with_reducible exact H2_) | (have H2_ := (Option.bind_some _ _).symm.trans H; with_reducible exact H2_) | with_reducible exact H | (rw [hy157]; exact H) | exact H
               have Ny157 := Aside0.mk hy157
               clear hy157
               have c37b0 := eq_true (of_decide_eq_true (by first | (with_reducible assumption) | assumption) : x5_2 ≤ (x3_1.length : Int))
               obtain ⟨y160, hy160⟩ : ∃ y_ : List Int, y_ = (x3_1.take (x5_2 : Int).toNat) := ⟨_, rfl⟩
               replace H : (if 0 ≤ x4_1 then (if x4_1 < (l0.length : Int) then (if y160.length < 17592186044416 then ((some (y160 ++ [rd l0 x4_1] : List Int)).bind fun y164 => (if y164.length + y157.length < 17592186044416 then (spec_SortList.l0 k2 l0 (y164 ++ y157) (wrap64 (x4_1 + 1))) else (none))) else (none)) else (none)) else (none)) = some r := by first | (rw [hy160]; with_reducible exact H) | (have H2_ := (Option.bind_some _ _).symm.trans H; rw [hy160]; with_reducible exact H2_) | (have H2_ := (Option.bind_some _ _).symm.trans H; with_reducible exact H2_) | with_reducible exact H | (rw [hy160]; exact H) | exact H
               have Ny160 := Aside0.mk hy160
               clear hy160
               by_cases c38 : 0 ≤ x4_1
               · rw [if_pos c38] at H
                 have c38b0 : decide (0 ≤ x4_1) = true := decide_eq_true c38
                 clear c38
                 by_cases c39 : x4_1 < (l0.length : Int)
                 · rw [if_pos c39] at H
                   have c39b0 : decide (x4_1 < (l0.length : Int)) = true := decide_eq_true c39
                   clear c39
                   by_cases c40 : y160.length < 17592186044416
                   · rw [if_pos c40] at H
                     have LMc40 := Aside0.mk c40
                     clear c40
                     obtain ⟨y164, hy164⟩ : ∃ y_ : List Int, y_ = (y160 ++ [rd l0 x4_1]) := ⟨_, rfl⟩
                     replace H : (if y164.length + y157.length < 17592186044416 then (spec_SortList.l0 k2 l0 (y164 ++ y157) (wrap64 (x4_1 + 1))) else (none)) = some r := by first | (rw [hy164]; with_reducible exact H) | (have H2_ := (Option.bind_some _ _).symm.trans H; rw [hy164]; with_reducible exact H2_) | (have H2_ := (Option.bind_some _ _).symm.trans H; with_reducible exact H2_) | with_reducible exact H | (rw [hy164]; exact H) | exact H
                     have Ny164 := Aside0.mk hy164
                     clear hy164
                     by_cases c41 : y164.length + y157.length < 17592186044416
                     · rw [if_pos c41] at H
                       have LMc41 := Aside0.mk c41
                       clear c41
                       obtain ⟨y167, hy167⟩ : ∃ y_ : List Int, y_ = (y164 ++ y157) := ⟨_, rfl⟩
                       replace H : (spec_SortList.l0 k2 l0 y167 (wrap64 (x4_1 + 1))) = some r := by first | (rw [hy167]; with_reducible exact H) | (have H2_ := (Option.bind_some _ _).symm.trans H; rw [hy167]; with_reducible exact H2_) | (have H2_ := (Option.bind_some _ _).symm.trans H; with_reducible exact H2_) | with_reducible exact H | (rw [hy167]; exact H) | exact H
                       have Ny167 := Aside0.mk hy167
                       clear hy167
                       have H' := Aside0.mk H
                       clear H
                       try go_wp2
                       have n0_ := Aside0.mk (Kd.R_drew HO_3.out)
                       have n1_ := Aside0.mk (below_drew1 HB.out)
                       clear HO_3
                       clear HB
                       have HO_3 := n0_
                       have HB := n1_
                       clear n0_ n1_
                       refine start_ (n := 14) (S := fun w' => True) (ds := []) (B_ 0 14) (by kernel_rfl) rfl rfl trivial (fun hHeld => ?_); refine with_tabW spec_SortList.tab6 spec_SortList.bits6 (fun HT_ HW_ => ?_)
                       generalize wr.drew = w42 at HO_3 HB hHeld ⊢
                       refine pu_ HT_ 0 16 (B_ 1 14) ?_
                       refine pu_ HT_ 1 17 (B_ 3 14) ?_
                       refine pu_ HT_ 2 18 (B_ 7 14) ?_
                       refine pn_ HT_ 3 19 (B_ 15 14) ?_
                       refine pn_ HT_ 4 20 (B_ 31 14) ?_
                       refine pn_ HT_ 5 21 (B_ 63 14) ?_
                       refine pn_ HT_ 6 22 (B_ 127 14) ?_
                       refine pn_ HT_ 7 23 (B_ 255 14) ?_
                       refine pn_ HT_ 8 24 (B_ 511 14) ?_
                       refine pn_ HT_ 9 25 (B_ 1023 14) ?_
                       refine pn_ HT_ 10 26 (B_ 2047 14) ?_
                       refine pn_ HT_ 11 27 (B_ 4095 14) ?_
                       refine pn_ HT_ 12 28 (B_ 8191 14) ?_
                       refine pu_ HT_ 13 29 (B_ 16383 14) ?_
                       refine done_ (done_of HT_.out (by kernel_rfl)) ?_
                       try go_wp2
                       have n0_ := Aside0.mk (Kd.R_drew HO_3.out)
                       have n1_ := Aside0.mk (below_drew1 HB.out)
                       clear HO_3
                       clear HB
                       have HO_3 := n0_
                       have HB := n1_
                       clear n0_ n1_
                       refine start_ (n := 14) (S := fun w' => True) (ds := []) (B_ 0 14) (by kernel_rfl) rfl rfl trivial (fun hHeld => ?_); refine with_tabW spec_SortList.tab8 spec_SortList.bits8 (fun HT_ HW_ => ?_)
                       generalize w42.drew = w43 at HO_3 HB hHeld ⊢
                       refine pu_ HT_ 0 32 (B_ 1 14) ?_
                       refine pu_ HT_ 1 33 (B_ 3 14) ?_
                       refine pu_ HT_ 2 34 (B_ 7 14) ?_
                       refine pn_ HT_ 3 35 (B_ 15 14) ?_
                       refine pn_ HT_ 4 36 (B_ 31 14) ?_
                       refine pn_ HT_ 5 37 (B_ 63 14) ?_
                       refine pn_ HT_ 6 38 (B_ 127 14) ?_
                       refine pn_ HT_ 7 39 (B_ 255 14) ?_
                       refine pn_ HT_ 8 40 (B_ 511 14) ?_
                       refine pn_ HT_ 9 41 (B_ 1023 14) ?_
                       refine pn_ HT_ 10 42 (B_ 2047 14) ?_
                       refine pn_ HT_ 11 43 (B_ 4095 14) ?_
                       refine pn_ HT_ 12 44 (B_ 8191 14) ?_
                       refine pu_ HT_ 13 45 (B_ 16383 14) ?_
                       refine done_ (done_of HT_.out (by kernel_rfl)) ?_
                       try go_wp2_with (first | ((with_reducible refine gate_dst (N := 46) rfl ?_); refine Kd.R_lit (Kd.int .i64) _ 3 ?hg (N := 46) ?hd (xs := ([] : List Int)) (inner := []) (ok := fun _ => True) (okp := fun _ => True) ?hr ?hp (fun _ hk => hk) trivial (Below.refl _ _) (Nat.le_refl _) (by simp) ?_; (case hd => rfl); (case hg => rfl); (case hr => first | (go_simp; done) | (go_simp; rfl)); (case hp => exact (Reps.none _ _)); intro v151 w44 ho45 hb hg_ hnew_; clear hg_ hnew_; (first | rw [← Ny150.out] at ho45 | (simp only [Int.reduceToNat] at ho45; rw [← Ny150.out] at ho45)); have n0_ := Aside0.mk (Kd.R_elder' (re_ HO_3.out) (Kd.R_base ho45) hb); have n1_ := Aside0.mk (Kd.R_lower (Kd.R_new' ho45 (Kd.R_lt (re_ HO_3.out))) (below_size (bl_ HB.out))); have n2_ := Aside0.mk (below_step (bl_ HB.out) hb); clear HO_3; clear HB; have HO_3 := n0_; have HO152 := n1_; have HB := n2_; clear n0_ n1_ n2_; clear hb ho45; have q46 : (x5_2 : Int) ≤ ((x3_1.length : Int) : Int) := of_decide_eq_true (by first | (with_reducible assumption) | assumption); obtain ⟨i046, hi046, _, hsz46, _⟩ := info_parts info3; have hroom46 : x3_1.length ≤ co5 := (Kd.R_reads' HO_3.out).2.1; have hC46 : Kd.C (Kd.int .i64) _ Ao5 x3_1.length x3_1 := (Kd.R_reads' HO_3.out).2.2; have q046 : (0 : Int) ≤ (x5_2 : Int) := of_decide_eq_true (by first | (with_reducible assumption) | assumption); have hcut46 := cut_from (P := Try.prog) 22 3 .i64 Try.underlying22 hi046 1 hsz46 Ao5 x3_1.length co5 x5_2 q046 q46; have hr46 := Kd.C_drop (m := (x5_2 : Int).toNat) (c := co5) hC46 (by omega) hroom46; obtain ⟨A46, hA46⟩ : ∃ A1, A1 = (if co5 = (x5_2 : Int).toNat then Ao5 else (Ao5 : Option Addr).map (·.add ((x5_2 : Int).toNat * 1))) := ⟨_, rfl⟩; obtain ⟨c46, hc46⟩ : ∃ c1, c1 = co5 - (x5_2 : Int).toNat := ⟨_, rfl⟩; have hy46 : y153.length = x3_1.length - (x5_2 : Int).toNat := (by rw [Ny153.out, List.length_drop] <;> omega); rw [show (x3_1).drop (x5_2 : Int).toNat = y153 from Ny153.out.symm] at hr46; replace hr46 : Kd.C (Kd.int .i64) _ A46 y153.length y153 := (by rw [hA46]; exact hr46); rw [← hy46, ← hA46, ← hc46] at hcut46; have HR156 := Aside0.mk hr46; have HC156 := Aside0.mk (show y153.length ≤ c46 from by rw [hy46, hc46]; exact Nat.sub_le_sub_right hroom46 _); clear hr46 hC46 hroom46 hi046 hsz46 hc46; have KY46 := Aside0.mk hy46; have KA46 := Aside0.mk hA46; clear hy46 hA46; have KL46 := Aside0.mk (show (x5_2 : Int).toNat ≤ x3_1.length from by omega); replace q46 := eq_true q46) | ((with_reducible refine gate_builtin (b := .append) (xs := #[.tmp 46, .tmp 49]) rfl ?_); at_builtin; refine Kd.R_append_rows (Kd.int .i64) (w0 := w) w.heap.size rfl (.tmp 46) (.tmp 49) 22 3 (.int .i64 0) 8 rfl Try.underlying22 info3 rfl (by decide) (by omega) v151 y150 y153 _ _ _ (fun k_ => some k_ ≠ (.slice Ao5 x3_1.length co5 : Value).ownBlock) (fun _ => False) rfl rfl ?aO ?aR (fun _ _ h => h) (fun _ h => h.elim) ?aF ?aB ?aS ?aL ?_; (case aR => repeat (first | exact (by repeat (first | (with_reducible exact HR156.out) | (with_reducible refine Kd.C_alloc ?_ _) | (with_reducible refine Kd.C_drewN ?_ _) | (with_reducible refine Kd.C_drew ?_) | exact HR156.out)) | (with_reducible refine Kd.C_alloc ?_ _) | (with_reducible refine Kd.C_drewN ?_ _) | (with_reducible refine Kd.C_drew ?_))); (case aB => exact (bl_ HB.out)); (case aF => exact (fun k_ hk => Kd.fresh' (Kd.R_lt (re_ HO_3.out)) k_ hk)); (case aO => exact (by (with_reducible repeat (first | apply Kd.R_alloc | apply Kd.R_drewN | apply Kd.R_drew)); exact Kd.R_mono HO152.out (fun _ hk => hk.2))); (case aS => exact (below_size (bl_ HB.out))); (case aL => have := LMc36.out; omega); intro v158 w47 ho hb hg hat; rw [← Ny157.out] at ho; have n0_ := Aside0.mk (Kd.R_after (ok := (fun _ => True)) (re_ HO_3.out) hg hat); have n1_ := Aside0.mk (hb); have n2_ := Aside0.mk ((show Kd.C (Kd.int .i64) w47 A46 y153.length y153 from by rw [Ny153.out, KA46.out]; exact Kd.C_drop (m := (x5_2 : Int).toNat) (c := co5) ((Kd.R_reads' (Kd.R_after (ok := (fun _ => True)) (re_ HO_3.out) hg hat)).2.2) KL46.out ((Kd.R_reads' (Kd.R_after (ok := (fun _ => True)) (re_ HO_3.out) hg hat)).2.1))); have n3_ := Aside0.mk (ho); clear HO_3; clear HB; clear HR156; clear HO152; have HO_3 := n0_; have HB := n1_; have HR156 := n2_; have HO159 := n3_; clear n0_ n1_ n2_ n3_; clear ho hb hg hat))
                       have n0_ := Aside0.mk (Kd.R_drew HO_3.out)
                       have n1_ := Aside0.mk (Kd.R_drew HO159.out)
                       have n2_ := Aside0.mk (Kd.C_drew HR156.out)
                       have n3_ := Aside0.mk (below_drew1 HB.out)
                       clear HO_3
                       clear HO159
                       clear HR156
                       clear HB
                       have HO_3 := n0_
                       have HO159 := n1_
                       have HR156 := n2_
                       have HB := n3_
                       clear n0_ n1_ n2_ n3_
                       have q49 : (x5_2 : Int) ≤ ((x3_1.length : Int) : Int) := of_decide_eq_true (by first | (with_reducible assumption) | assumption)
                       obtain ⟨i049, hi049, _, hsz49, _⟩ := info_parts info3
                       have hcut49 := cut_to (P := Try.prog) 22 3 .i64 Try.underlying22 hi049 Ao5 x3_1.length co5 x5_2 (of_decide_eq_true (by first | (with_reducible assumption) | assumption)) q49 (Kd.R_reads' HO_3.out).2.1
                       have hr49 := Kd.R_take (m := (x5_2 : Int).toNat) HO_3.out (by omega)
                       have hy49 : y160.length = (x5_2 : Int).toNat := (by rw [Ny160.out, List.length_take]; omega)
                       rw [← Ny160.out] at hr49
                       rw [← hy49] at hr49 hcut49
                       clear hy49 hi049 hsz49 HO_3
                       have HO162 := Aside0.mk hr49
                       clear hr49
                       replace q49 := eq_true q49
                       have p163 : 0 ≤ (x4_1 : Int) := of_decide_eq_true (by first | (with_reducible assumption) | assumption)
                       have q163 : x4_1 < (l0.length : Int) := of_decide_eq_true (by first | (with_reducible assumption) | assumption)
                       obtain ⟨ad163, e163, hx163_0⟩ := Kd.at_int HR0.out x4_1 p163 q163
                       have hw163_0 := hx163_0
                       cases e163
                       (try replace hx163_0 := (HB.out.cell (World.block_lt_of_cell? w _ hx163_0)).trans hx163_0)
                       replace p163 := eq_true p163
                       replace q163 := eq_true q163
                       refine start_ (n := 12) (S := fun w' => w'.cell? (ad163.add (x4_1).toNat) = some (.int .i64 (rd l0 x4_1))) (ds := []) (B_ 0 12) (by kernel_rfl) rfl rfl (by first | exact hw163_0 | exact (HB.out.cell (World.block_lt_of_cell? w _ hw163_0)).trans hw163_0 | (obtain ⟨_, e_, h_⟩ := Kd.at_int HR0.out x4_1 (of_eq_true p163) (of_eq_true q163); cases e_; exact h_)) (fun hHeld => ?_); refine with_tabW spec_SortList.tab10 spec_SortList.bits10 (fun HT_ HW_ => ?_)
                       generalize w47.drew = w48 at HO_3 HO159 HR156 HB HO162 hx163_0 hHeld ⊢
                       refine pu_ HT_ 0 51 (B_ 1 12) ?_
                       refine pu_ HT_ 1 52 (B_ 3 12) ?_
                       refine pu_ HT_ 2 53 (B_ 7 12) ?_
                       refine pu_ HT_ 3 54 (B_ 15 12) ?_
                       refine pu_ HT_ 4 55 (B_ 31 12) ?_
                       refine pu_ HT_ 5 56 (B_ 63 12) ?_
                       refine pu_ HT_ 9 60 (B_ 575 12) ?_
                       refine tk1_ HT_ HW_ hHeld 6 57 (B_ 639 12) ?_
                       refine one_ (i := 7) (N := some 58) (B_ 767 12) rfl rfl (one_of HT_.out (by kernel_rfl)) (by decide) (fun K hK => ?_)
                       refine value_ (w1 := ?_) (v := ?_) (by rfl) rfl ?_ ?_
                       rotate_left 2
                       · go_simp
                         constructor
                         · rfl
                         · rfl
                       refine hK.out _ _ ((World.cell?_alloc_lt _ _ _ (World.block_lt_of_cell? _ _ (by first | exact hw163_0 | exact (HB.out.cell (World.block_lt_of_cell? w _ hw163_0)).trans hw163_0 | (obtain ⟨_, e_, h_⟩ := Kd.at_int HR0.out x4_1 (of_eq_true p163) (of_eq_true q163); cases e_; exact h_)))).trans (by first | exact hw163_0 | exact (HB.out.cell (World.block_lt_of_cell? w _ hw163_0)).trans hw163_0 | (obtain ⟨_, e_, h_⟩ := Kd.at_int HR0.out x4_1 (of_eq_true p163) (of_eq_true q163); cases e_; exact h_))) (fun hHeld => ?_)
                       clear hK K
                       refine norm_ (a' := ?_) ?_ ?_
                       rotate_left
                       · show Act.put _ (some 58) _ = _
                         simp only [Act.put, z1_, z2_, z3_, i64_w, i32_w]
                         rfl
                       refine one_ (i := 8) (N := some 59) (B_ 1023 12) rfl rfl (one_of HT_.out (by kernel_rfl)) (by decide) (fun K hK => ?_)
                       refine Kd.R_append_step (Kd.int .i64) (w0 := w) w.heap.size (by rfl) (.tmp 53) (.tmp 58) 22 3 (.int .i64 0) 8 rfl Try.underlying22 info3 rfl (by decide) (by omega) (.slice Ao5 y160.length co5) y160 (rd l0 x4_1) [.int .i64 (rd l0 x4_1)] (fun k_ => some k_ ≠ (v158 : Value).ownBlock) (fun _ => False) rfl rfl ?aP (fun _ hk => hk.elim) ?aF ?aO ?aB ?aS ?aL ?_
                       (case aP => exact rfl)
                       (case aB => exact (bl_ HB.out))
                       (case aF => exact (fun k_ hk => Kd.fresh' (Kd.R_lt (re_ HO159.out)) k_ hk))
                       (case aO => exact (by (with_reducible repeat (first | apply Kd.R_alloc | apply Kd.R_drewN | apply Kd.R_drew)); exact Kd.R_mono HO162.out (fun _ hk => hk.2)))
                       (case aS => exact (below_size (bl_ HB.out)))
                       (case aL => have := LMc40.out; omega)
                       intro v165 w50 ho hb hg hat
                       rw [← Ny164.out] at ho
                       have n0_ := Aside0.mk (Kd.R_after (ok := (fun _ => True)) (by (with_reducible repeat (first | apply Kd.R_alloc | apply Kd.R_drewN | apply Kd.R_drew)); exact Kd.R_mono HO159.out (fun _ hk => ⟨trivial, by first | exact hk | exact (fun e_ => hk (e_.trans (own_len_ _ _ _ _ _)))⟩)) hg hat)
                       have n1_ := Aside0.mk (hb)
                       have n2_ := Aside0.mk (ho)
                       clear HO159
                       clear HB
                       clear HO162
                       have HO159 := n0_
                       have HB := n1_
                       have HO166 := n2_
                       clear n0_ n1_ n2_
                       clear ho hb hg hat
                       obtain ⟨Ao52, co52, eo52⟩ := Kd.R_slice HO159.out
                       (first | subst eo52 | (injection eo52 with f1_ f2_ f3_; have f4_ := f1_.symm; have f5_ := f3_.symm; clear f1_ f2_ f3_; subst f4_; subst f5_))
                       refine hK.out _ _ (by first | exact hw163_0 | exact (HB.out.cell (World.block_lt_of_cell? w _ hw163_0)).trans hw163_0 | (obtain ⟨_, e_, h_⟩ := Kd.at_int HR0.out x4_1 (of_eq_true p163) (of_eq_true q163); cases e_; exact h_)) (fun hHeld => ?_)
                       clear hK K
                       refine norm_ (a' := ?_) ?_ ?_
                       rotate_left
                       · show Act.put _ (some 59) _ = _
                         simp only [Act.put, z1_, z2_, z3_, i64_w, i32_w]
                         rfl
                       refine one_ (i := 10) (N := some 61) (B_ 2047 12) rfl rfl (one_of HT_.out (by kernel_rfl)) (by decide) (fun K hK => ?_)
                       refine Kd.R_append_rows_step (Kd.int .i64) (w0 := w) w.heap.size (by rfl) (.tmp 59) (.tmp 60) 22 3 (.int .i64 0) 8 rfl Try.underlying22 info3 rfl (by decide) (by omega) v165 y164 y157 _ _ _ (fun k_ => some k_ ≠ (.slice Ao52 y157.length co52 : Value).ownBlock) (fun _ => False) rfl rfl ?aO ?aR (fun _ _ h => h) (fun _ h => h.elim) ?aF ?aB ?aS ?aL ?_
                       (case aR => exact ce_ ((Kd.R_reads' HO159.out).2.2))
                       (case aB => exact (bl_ HB.out))
                       (case aF => exact (fun k_ hk => Kd.fresh' (Kd.R_lt (re_ HO159.out)) k_ hk))
                       (case aO => exact (re_ HO166.out))
                       (case aS => exact (below_size (bl_ HB.out)))
                       (case aL => have := LMc41.out; omega)
                       intro v168 w51 ho hb hg hat
                       rw [← Ny167.out] at ho
                       have n0_ := Aside0.mk (Kd.R_after (ok := (fun _ => True)) (re_ HO159.out) hg hat)
                       have n1_ := Aside0.mk (hb)
                       have n2_ := Aside0.mk (ho)
                       clear HO159
                       clear HB
                       clear HO166
                       have HO159 := n0_
                       have HB := n1_
                       have HO169 := n2_
                       clear n0_ n1_ n2_
                       clear ho hb hg hat
                       refine hK.out _ _ (by first | exact hw163_0 | exact (HB.out.cell (World.block_lt_of_cell? w _ hw163_0)).trans hw163_0 | (obtain ⟨_, e_, h_⟩ := Kd.at_int HR0.out x4_1 (of_eq_true p163) (of_eq_true q163); cases e_; exact h_)) (fun hHeld => ?_)
                       clear hK K
                       refine norm_ (a' := ?_) ?_ ?_
                       rotate_left
                       · show Act.put _ (some 61) _ = _
                         simp only [Act.put, z1_, z2_, z3_, i64_w, i32_w]
                         rfl
                       refine pu_ HT_ 11 3 (B_ 4095 12) ?_
                       refine done_ (done_of HT_.out (by kernel_rfl)) ?_
                       try go_wp2
                       go_roundg k2
                       case measure => have := HK1.out; have := HK2.out; omega
                       case rel => exact ⟨(y167), (wrap64 (x4_1 + 1)), (by first | rfl | (simp; done) | (simp [*]; done)), H', ⟨by have := HK1.out; have := HK2.out; omega⟩, ⟨by (with_reducible repeat (first | apply Kd.R_alloc | apply Kd.R_drewN | apply Kd.R_drew)); exact Kd.R_mono HO169.out (fun _ hk => trivial)⟩, ⟨bl_ HB.out⟩⟩
                     · rw [if_neg c41] at H
                       exact absurd H (by simp)
                   · rw [if_neg c40] at H
                     exact absurd H (by simp)
                 · rw [if_neg c39] at H
                   exact absurd H (by simp)
               · rw [if_neg c38] at H
                 exact absurd H (by simp)
             · rw [if_neg c36] at H
               exact absurd H (by simp)
           · rw [if_neg c35] at H
             exact absurd H (by simp)
         · rw [if_neg c34] at H
           exact absurd H (by simp)
   · rw [if_neg c4] at H
     have c4b0 : decide (x4_1 < (l0.length : Int)) = false := decide_eq_false c4
     clear c4
     obtain rfl := Option.some.inj H
     go_wp2
     go_ret
     exact ⟨_, by first | rfl | (simp [errW_none, errW_some] <;> rfl) | (simp [*, errW_none, errW_some] <;> rfl), re_ HO_3.out, bl_ HB.out⟩
end Go.Proofs.Ytapdhljbhekcdaa.PD
end
