-- Bundled by shake.py from this session's printed and written texts; Lean checks it.
import Derived.Test.YtapdhljbhekcdaaZFnExactBlowUpx1
import Derived.Test.YtapdhljbhekcdaaZFnExactBlowUpx2
section
namespace Go.Proofs.Ytapdhljbhekcdaa.PC
open Go.RowKit Go.Proofs.YtapdhljbhekcdaaW.PrintWords Go.Proofs.YtapdhljbhekcdaaW.PrintLast Go.Proofs.YtapdhljbhekcdaaW.PrintMore
set_option linter.unusedVariables false
set_option linter.unusedSimpArgs false
mutual
def spec_SortList.l0 : Nat → List Int → List Int → Int → Option (List Int)
 | 0, _, _, _ => none
 | k + 1, x0, x3, x4 => if x4 < (x0.length : Int) then (spec_SortList.l1 k x0 x3 x4 (x3.length : Int)) else (some x3)
def spec_SortList.l1 : Nat → List Int → List Int → Int → Int → Option (List Int)
 | 0, _, _, _, _ => none
 | k + 1, x0, x3, x4, x5 => if x5 > 0 then (if 0 ≤ (wrap64 (x5 - 1)) then (if (wrap64 (x5 - 1)) < (x3.length : Int) then (if 0 ≤ x4 then (if x4 < (x0.length : Int) then (if (rd x3 (wrap64 (x5 - 1))) > (rd x0 x4) then (spec_SortList.l1 k x0 x3 x4 (wrap64 (x5 - 1))) else (if (rd x3 (wrap64 (x5 - 1))) = (rd x0 x4) then (spec_SortList.l0 k x0 x3 (wrap64 (x4 + 1))) else ((some (([] : List Int) : List Int)).bind fun y155 => (if 0 ≤ x5 then (if x5 ≤ (x3.length : Int) then ((some (x3.drop (x5 : Int).toNat : List Int)).bind fun y158 => (if y155.length + y158.length < 17592186044416 then ((some (y155 ++ y158 : List Int)).bind fun y162 => ((some (x3.take (x5 : Int).toNat : List Int)).bind fun y165 => (if y165.length < 17592186044416 then ((some (y165 ++ [rd x0 x4] : List Int)).bind fun y169 => (if y169.length + y162.length < 17592186044416 then (spec_SortList.l0 k x0 (y169 ++ y162) (wrap64 (x4 + 1))) else (none))) else (none)))) else (none))) else (none)) else (none))))) else (none)) else (none)) else (none)) else (none)) else ((some (([] : List Int) : List Int)).bind fun y175 => (if 0 ≤ x5 then (if x5 ≤ (x3.length : Int) then ((some (x3.drop (x5 : Int).toNat : List Int)).bind fun y178 => (if y175.length + y178.length < 17592186044416 then ((some (y175 ++ y178 : List Int)).bind fun y182 => ((some (x3.take (x5 : Int).toNat : List Int)).bind fun y185 => (if 0 ≤ x4 then (if x4 < (x0.length : Int) then (if y185.length < 17592186044416 then ((some (y185 ++ [rd x0 x4] : List Int)).bind fun y189 => (if y189.length + y182.length < 17592186044416 then (spec_SortList.l0 k x0 (y189 ++ y182) (wrap64 (x4 + 1))) else (none))) else (none)) else (none)) else (none)))) else (none))) else (none)) else (none)))
end
def spec_SortList.f (k : Nat) (l0 : List Int) : Option (List Int) := spec_SortList.l0 k l0 (([] : List Int)) 0
def spec_SortList.T6 : Bool × List (List Nat × List Nat) := (true, [([], []), ([0], [0]), ([1], [1]), ([2], [2]), ([2], [2]), ([4, 2], [2, 4]), ([3, 5, 2], [2, 3, 5]), ([6, 2], [2, 6]), ([2], [2]), ([2], [2]), ([8, 9, 2], [2, 8, 9]), ([10, 2], [2, 10]), ([7, 11, 2], [2, 7, 11]), ([2, 12], [2, 12])])
def spec_SortList.B6 : List Nat := [0, 1, 3, 7, 7, 23, 63, 127, 7, 7, 775, 1799, 4095, 8191]
theorem spec_SortList.tab6 : rtab .any (opsOf Try.f109 6) = spec_SortList.T6 := by kernel_rfl
theorem spec_SortList.bits6 : waitsOk spec_SortList.T6.2 spec_SortList.B6 = true := by kernel_rfl
def spec_SortList.T8 : Bool × List (List Nat × List Nat) := (true, [([], []), ([0], [0]), ([1], [1]), ([2], [2]), ([2], [2]), ([4, 2], [2, 4]), ([3, 5, 2], [2, 3, 5]), ([6, 2], [2, 6]), ([2], [2]), ([2], [2]), ([8, 9, 2], [2, 8, 9]), ([10, 2], [2, 10]), ([7, 11, 2], [2, 7, 11]), ([2, 12], [2, 12])])
def spec_SortList.B8 : List Nat := [0, 1, 3, 7, 7, 23, 63, 127, 7, 7, 775, 1799, 4095, 8191]
theorem spec_SortList.tab8 : rtab .any (opsOf Try.f109 8) = spec_SortList.T8 := by kernel_rfl
theorem spec_SortList.bits8 : waitsOk spec_SortList.T8.2 spec_SortList.B8 = true := by kernel_rfl
def spec_SortList.T10 : Bool × List (List Nat × List Nat) := (true, [([], []), ([], []), ([0, 1], [0, 1]), ([], []), ([], []), ([3, 4], [3, 4]), ([5], [5]), ([6], [6]), ([2, 7], [2, 7]), ([], []), ([8, 9, 8], [8, 9]), ([10, 10, 0, 1, 2, 3, 4, 5, 6, 7, 8, 9, 10], [0, 10])])
def spec_SortList.B10 : List Nat := [0, 0, 3, 0, 0, 24, 56, 120, 255, 0, 1023, 2047]
theorem spec_SortList.tab10 : rtab .any (opsOf Try.f109 10) = spec_SortList.T10 := by kernel_rfl
theorem spec_SortList.bits10 : waitsOk spec_SortList.T10.2 spec_SortList.B10 = true := by kernel_rfl
set_option maxHeartbeats 8000000 in
set_option maxRecDepth 100000 in
theorem spec_SortList.calls (k : Nat) (A0 : Option Addr) (c0 : Nat) (l0 : List Int) (r : List Int) (w : World) (hr0 : Kd.C (Kd.int .i64) w A0 l0.length l0) (hc0 : l0.length ≤ c0) (h : spec_SortList.f k l0 = some r) :
 Calls Try.prog 109 #[.slice A0 l0.length c0] w fun e w' => ∃ v0_ : Value, e = .returned (v0_) ∧ Kd.R (Kd.int .i64) 3 w' w.heap.size (fun _ => True) v0_ r ∧ Below w.heap.size w w' := by
 have HR0 := Aside0.mk hr0
 have HC0 := Aside0.mk hc0
 clear hr0 hc0
 have HB := Aside0.mk (Below.refl w.heap.size w)
 have H : (spec_SortList.l0 k l0 (([] : List Int)) 0) = some r := h
 clear h
 obtain ⟨y148, hy148⟩ : ∃ y_ : List Int, y_ = (([] : List Int)) := ⟨_, rfl⟩
 replace H : (spec_SortList.l0 k l0 y148 0) = some r := by first | (rw [hy148]; with_reducible exact H) | (have H2_ := (Option.bind_some _ _).symm.trans H; rw [hy148]; with_reducible exact H2_) | (have H2_ := (Option.bind_some _ _).symm.trans H; with_reducible exact H2_) | with_reducible exact H | (rw [hy148]; exact H) | exact H
 have Ny148 := Aside0.mk hy148
 clear hy148
 have H' := Aside0.mk H
 clear H
 go_enter Try.func109, Try.ntmps109
 go_wp2_with (first | ((with_reducible refine gate_dst (N := 7) rfl ?_); refine Kd.R_lit (Kd.int .i64) _ 3 ?hg (N := 7) ?hd (xs := ([] : List Int)) (inner := []) (ok := fun _ => True) (okp := fun _ => True) ?hr ?hp (fun _ hk => hk) trivial (Below.refl _ _) (Nat.le_refl _) (by simp) ?_; (case hd => rfl); (case hg => rfl); (case hr => first | (go_simp; done) | (go_simp; rfl)); (case hp => exact (Reps.none _ _)); intro v149 w2 ho3 hb hg_ hnew_; clear hg_ hnew_; (first | rw [← Ny148.out] at ho3 | (simp only [Int.reduceToNat] at ho3; rw [← Ny148.out] at ho3)); have n0_ := Aside0.mk (Kd.R_lower ho3 (below_size (bl_ HB.out))); have n1_ := Aside0.mk (below_step (bl_ HB.out) hb); clear HB; have HO150 := n0_; have HB := n1_; clear n0_ n1_; clear hb ho3))
 go_loopg [3, 4] k (fun kq v3 v4 w' => ∃ (x3_1 : List Int) (x4_1 : Int), v4 = .int .i64 x4_1 ∧ Aside0 (spec_SortList.l0 kq l0 x3_1 x4_1 = some r) ∧ Aside0 (kq ≤ k) ∧ Aside0 (Kd.R (Kd.int .i64) 3 w' w.heap.size (fun _ => True) v3 x3_1) ∧ Aside0 (Below w.heap.size w w'))
 case atStart => exact ⟨(y148), (0), (by first | rfl | (simp; done) | (simp [*]; done)), H', ⟨Nat.le_refl _⟩, ⟨re_ HO150.out⟩, ⟨bl_ HB.out⟩⟩
 case round =>
  clear H'
  try clear c1
  try clear p2
  obtain ⟨x3_1, x4_1, rfl, HA, HK1, HO_3, HB⟩ := hrel
  cases gk with
  | zero => exact absurd HA.out (by simp [spec_SortList.l0])
  | succ k1 =>
   have H := HA.out
   clear HA
   simp only [spec_SortList.l0] at H
   by_cases c4 : x4_1 < (l0.length : Int)
   · rw [if_pos c4] at H
     have c4b0 : decide (x4_1 < (l0.length : Int)) = true := decide_eq_true c4
     clear c4
     have H' := Aside0.mk H
     clear H
     obtain ⟨Ao5, co5, eo5⟩ := Kd.R_slice HO_3.out
     subst eo5
     go_wp2
     go_loopg [5] k1 (fun kq v5 w' => ∃ (x5_2 : Int), v5 = .int .i64 x5_2 ∧ Aside0 (spec_SortList.l1 kq l0 x3_1 x4_1 x5_2 = some r) ∧ Aside0 (kq ≤ k1) ∧ Aside0 (Kd.R (Kd.int .i64) 3 w' w.heap.size (fun _ => True) (.slice Ao5 x3_1.length co5) x3_1) ∧ Aside0 (Below w.heap.size w w'))
     case atStart => exact ⟨((x3_1.length : Int)), (by first | rfl | (simp; done) | (simp [*]; done)), H', ⟨Nat.le_refl _⟩, ⟨re_ HO_3.out⟩, ⟨bl_ HB.out⟩⟩
     case round =>
      clear H'
      try clear c1
      try clear p2
      try clear c4
      try clear c4b0
      try clear p2
      obtain ⟨x5_2, rfl, HA, HK2, HO_3, HB⟩ := hrel
      cases gk with
      | zero => exact absurd HA.out (by simp [spec_SortList.l1])
      | succ k2 =>
       have H := HA.out
       clear HA
       simp only [spec_SortList.l1] at H
       by_cases c6 : x5_2 > 0
       · rw [if_pos c6] at H
         have c6b0 : decide (0 < x5_2) = true := decide_eq_true c6
         clear c6
         obtain ⟨ji7, hji7⟩ : ∃ j_ : Int, (wrap64 (x5_2 - 1)) = j_ := ⟨_, rfl⟩
         replace H : (if 0 ≤ (ji7) then (if (ji7) < (x3_1.length : Int) then (if 0 ≤ x4_1 then (if x4_1 < (l0.length : Int) then (if (rd x3_1 (ji7)) > (rd l0 x4_1) then (spec_SortList.l1 k2 l0 x3_1 x4_1 ji7) else (if (rd x3_1 (ji7)) = (rd l0 x4_1) then (spec_SortList.l0 k2 l0 x3_1 (wrap64 (x4_1 + 1))) else ((some (([] : List Int) : List Int)).bind fun y155 => (if 0 ≤ x5_2 then (if x5_2 ≤ (x3_1.length : Int) then ((some (x3_1.drop (x5_2 : Int).toNat : List Int)).bind fun y158 => (if y155.length + y158.length < 17592186044416 then ((some (y155 ++ y158 : List Int)).bind fun y162 => ((some (x3_1.take (x5_2 : Int).toNat : List Int)).bind fun y165 => (if y165.length < 17592186044416 then ((some (y165 ++ [rd l0 x4_1] : List Int)).bind fun y169 => (if y169.length + y162.length < 17592186044416 then (spec_SortList.l0 k2 l0 (y169 ++ y162) (wrap64 (x4_1 + 1))) else (none))) else (none)))) else (none))) else (none)) else (none))))) else (none)) else (none)) else (none)) else (none)) = some r := by first | (rw [hji7] at H; exact H) | (simp only [hji7] at H ⊢; exact H)
         have hji7w : (IntKind.i64.wrap (x5_2 - 1)) = ji7 := (i64_w _).trans hji7
         by_cases c8 : 0 ≤ (ji7)
         · rw [if_pos c8] at H
           have c8b0 : decide (0 ≤ (ji7)) = true := decide_eq_true c8
           clear c8
           by_cases c9 : (ji7) < (x3_1.length : Int)
           · rw [if_pos c9] at H
             have c9b0 : decide ((ji7) < (x3_1.length : Int)) = true := decide_eq_true c9
             clear c9
             by_cases c10 : 0 ≤ x4_1
             · rw [if_pos c10] at H
               have c10b0 : decide (0 ≤ x4_1) = true := decide_eq_true c10
               clear c10
               by_cases c11 : x4_1 < (l0.length : Int)
               · rw [if_pos c11] at H
                 have c11b0 : decide (x4_1 < (l0.length : Int)) = true := decide_eq_true c11
                 clear c11
                 by_cases c12 : (rd x3_1 (ji7)) > (rd l0 x4_1)
                 · rw [if_pos c12] at H
                   have c12b0 : decide ((rd l0 x4_1) < (rd x3_1 (ji7))) = true := decide_eq_true c12
                   clear c12
                   as_aux_lemma =>
                    have H' := Aside0.mk H
                    clear H
                    try go_wp2
                    have n0_ := Aside0.mk (Kd.R_drew HO_3.out)
                    have n1_ := Aside0.mk (below_drew1 HB.out)
                    clear HO_3
                    clear HB
                    have HO_3 := n0_
                    have HB := n1_
                    clear n0_ n1_
                    have p151 : 0 ≤ ((ji7) : Int) := of_decide_eq_true (by first | (with_reducible assumption) | assumption)
                    have q151 : (ji7) < (x3_1.length : Int) := of_decide_eq_true (by first | (with_reducible assumption) | assumption)
                    obtain ⟨ad151, e151, hx151_0⟩ := Kd.at_int (Kd.R_reads' HO_3.out).2.2 (ji7) p151 q151
                    cases e151
                    replace p151 := eq_true p151
                    replace q151 := eq_true q151
                    have p152 : 0 ≤ (x4_1 : Int) := of_decide_eq_true (by first | (with_reducible assumption) | assumption)
                    have q152 : x4_1 < (l0.length : Int) := of_decide_eq_true (by first | (with_reducible assumption) | assumption)
                    obtain ⟨ad152, e152, hx152_0⟩ := Kd.at_int HR0.out x4_1 p152 q152
                    have hw152_0 := hx152_0
                    cases e152
                    (try replace hx152_0 := (HB.out.cell (World.block_lt_of_cell? w _ hx152_0)).trans hx152_0)
                    replace p152 := eq_true p152
                    replace q152 := eq_true q152
                    refine start_ (n := 14) (S := fun w' => w'.cell? (ad151.add ((ji7)).toNat) = some (.int .i64 (rd x3_1 (ji7))) ∧ w'.cell? (ad152.add (x4_1).toNat) = some (.int .i64 (rd l0 x4_1))) (ds := []) (B_ 0 14) (by kernel_rfl) rfl rfl ⟨hx151_0, ((HB.out.cell (World.block_lt_of_cell? w _ hw152_0)).trans hw152_0)⟩ (fun hHeld => ?_); refine with_tabW spec_SortList.tab6 spec_SortList.bits6 (fun HT_ HW_ => ?_)
                    generalize wr.drew = w13 at HO_3 HB hx151_0 hx152_0 hHeld ⊢
                    refine pu_ HT_ 0 16 (B_ 1 14) ?_
                    refine pu_ HT_ 1 17 (B_ 3 14) ?_
                    refine pu_ HT_ 2 18 (B_ 7 14) ?_
                    refine pu_ HT_ 3 19 (B_ 15 14) ?_
                    refine pu_ HT_ 4 20 (B_ 31 14) ?_
                    refine pu_ HT_ 5 21 (B_ 63 14) ?_
                    refine pu_ HT_ 6 22 (B_ 127 14) ?_
                    refine pu_ HT_ 8 24 (B_ 383 14) ?_
                    refine pu_ HT_ 9 25 (B_ 895 14) ?_
                    refine pu_ HT_ 10 26 (B_ 1919 14) ?_
                    refine tk2_ HT_ HW_ hHeld 7 23 (B_ 2047 14) ?_
                    refine tk2_ HT_ HW_ hHeld 11 27 (B_ 4095 14) ?_
                    refine pu_ HT_ 12 28 (B_ 8191 14) ?_
                    refine pu_ HT_ 13 29 (B_ 16383 14) ?_
                    refine done_ (done_of HT_.out (by kernel_rfl)) ?_
                    try go_wp2
                    go_roundg k2
                    case measure => have := HK1.out; have := HK2.out; omega
                    case rel => exact ⟨(ji7), (by first | rfl | (simp; done) | (simp only [← hji7] <;> (first | rfl | simp)) | (simp [*]; done)), H', ⟨by have := HK1.out; have := HK2.out; omega⟩, ⟨re_ HO_3.out⟩, ⟨bl_ HB.out⟩⟩
                 · rw [if_neg c12] at H
                   have c12b0 : decide ((rd l0 x4_1) < (rd x3_1 (ji7))) = false := decide_eq_false c12
                   clear c12
                   by_cases c14 : (rd x3_1 (ji7)) = (rd l0 x4_1)
                   · rw [if_pos c14] at H
                     have c14b0 : ((rd x3_1 (ji7)) == (rd l0 x4_1)) = true := beq_iff_eq.mpr c14
                     have c14b1 : ((rd x3_1 (ji7)) != (rd l0 x4_1)) = false := bne_eq_false_iff_eq.mpr c14
                     clear c14
                     as_aux_lemma =>
                      have H' := Aside0.mk H
                      clear H
                      try go_wp2
                      have n0_ := Aside0.mk (Kd.R_drew HO_3.out)
                      have n1_ := Aside0.mk (below_drew1 HB.out)
                      clear HO_3
                      clear HB
                      have HO_3 := n0_
                      have HB := n1_
                      clear n0_ n1_
                      have p151 : 0 ≤ ((ji7) : Int) := of_decide_eq_true (by first | (with_reducible assumption) | assumption)
                      have q151 : (ji7) < (x3_1.length : Int) := of_decide_eq_true (by first | (with_reducible assumption) | assumption)
                      obtain ⟨ad151, e151, hx151_0⟩ := Kd.at_int (Kd.R_reads' HO_3.out).2.2 (ji7) p151 q151
                      cases e151
                      replace p151 := eq_true p151
                      replace q151 := eq_true q151
                      have p152 : 0 ≤ (x4_1 : Int) := of_decide_eq_true (by first | (with_reducible assumption) | assumption)
                      have q152 : x4_1 < (l0.length : Int) := of_decide_eq_true (by first | (with_reducible assumption) | assumption)
                      obtain ⟨ad152, e152, hx152_0⟩ := Kd.at_int HR0.out x4_1 p152 q152
                      have hw152_0 := hx152_0
                      cases e152
                      (try replace hx152_0 := (HB.out.cell (World.block_lt_of_cell? w _ hx152_0)).trans hx152_0)
                      replace p152 := eq_true p152
                      replace q152 := eq_true q152
                      refine start_ (n := 14) (S := fun w' => w'.cell? (ad151.add ((ji7)).toNat) = some (.int .i64 (rd x3_1 (ji7))) ∧ w'.cell? (ad152.add (x4_1).toNat) = some (.int .i64 (rd l0 x4_1))) (ds := []) (B_ 0 14) (by kernel_rfl) rfl rfl ⟨hx151_0, ((HB.out.cell (World.block_lt_of_cell? w _ hw152_0)).trans hw152_0)⟩ (fun hHeld => ?_); refine with_tabW spec_SortList.tab6 spec_SortList.bits6 (fun HT_ HW_ => ?_)
                      generalize wr.drew = w15 at HO_3 HB hx151_0 hx152_0 hHeld ⊢
                      refine pu_ HT_ 0 16 (B_ 1 14) ?_
                      refine pu_ HT_ 1 17 (B_ 3 14) ?_
                      refine pu_ HT_ 2 18 (B_ 7 14) ?_
                      refine pu_ HT_ 3 19 (B_ 15 14) ?_
                      refine pu_ HT_ 4 20 (B_ 31 14) ?_
                      refine pu_ HT_ 5 21 (B_ 63 14) ?_
                      refine pu_ HT_ 6 22 (B_ 127 14) ?_
                      refine pu_ HT_ 8 24 (B_ 383 14) ?_
                      refine pu_ HT_ 9 25 (B_ 895 14) ?_
                      refine pu_ HT_ 10 26 (B_ 1919 14) ?_
                      refine tk2_ HT_ HW_ hHeld 7 23 (B_ 2047 14) ?_
                      refine tk2_ HT_ HW_ hHeld 11 27 (B_ 4095 14) ?_
                      refine pu_ HT_ 12 28 (B_ 8191 14) ?_
                      refine pu_ HT_ 13 29 (B_ 16383 14) ?_
                      refine done_ (done_of HT_.out (by kernel_rfl)) ?_
                      try go_wp2
                      have n0_ := Aside0.mk (Kd.R_drew HO_3.out)
                      have n1_ := Aside0.mk (below_drew1 HB.out)
                      clear HO_3
                      clear HB
                      have HO_3 := n0_
                      have HB := n1_
                      clear n0_ n1_
                      have p153 : 0 ≤ ((ji7) : Int) := of_decide_eq_true (by first | (with_reducible assumption) | assumption)
                      have q153 : (ji7) < (x3_1.length : Int) := of_decide_eq_true (by first | (with_reducible assumption) | assumption)
                      obtain ⟨ad153, e153, hx153_0⟩ := Kd.at_int (Kd.R_reads' HO_3.out).2.2 (ji7) p153 q153
                      obtain rfl : ad151 = ad153 := (by injection e153)
                      replace p153 := eq_true p153
                      replace q153 := eq_true q153
                      have p154 : 0 ≤ (x4_1 : Int) := of_decide_eq_true (by first | (with_reducible assumption) | assumption)
                      have q154 : x4_1 < (l0.length : Int) := of_decide_eq_true (by first | (with_reducible assumption) | assumption)
                      obtain ⟨ad154, e154, hx154_0⟩ := Kd.at_int HR0.out x4_1 p154 q154
                      have hw154_0 := hx154_0
                      obtain rfl : ad152 = ad154 := (by injection e154)
                      (try replace hx154_0 := (HB.out.cell (World.block_lt_of_cell? w _ hx154_0)).trans hx154_0)
                      replace p154 := eq_true p154
                      replace q154 := eq_true q154
                      refine start_ (n := 14) (S := fun w' => w'.cell? (ad151.add ((ji7)).toNat) = some (.int .i64 (rd x3_1 (ji7))) ∧ w'.cell? (ad152.add (x4_1).toNat) = some (.int .i64 (rd l0 x4_1))) (ds := []) (B_ 0 14) (by kernel_rfl) rfl rfl ⟨hx153_0, ((HB.out.cell (World.block_lt_of_cell? w _ hw154_0)).trans hw154_0)⟩ (fun hHeld => ?_); refine with_tabW spec_SortList.tab8 spec_SortList.bits8 (fun HT_ HW_ => ?_)
                      generalize w15.drew = w16 at HO_3 HB hx153_0 hx154_0 hHeld ⊢
                      refine pu_ HT_ 0 32 (B_ 1 14) ?_
                      refine pu_ HT_ 1 33 (B_ 3 14) ?_
                      refine pu_ HT_ 2 34 (B_ 7 14) ?_
                      refine pu_ HT_ 3 35 (B_ 15 14) ?_
                      refine pu_ HT_ 4 36 (B_ 31 14) ?_
                      refine pu_ HT_ 5 37 (B_ 63 14) ?_
                      refine pu_ HT_ 6 38 (B_ 127 14) ?_
                      refine pu_ HT_ 8 40 (B_ 383 14) ?_
                      refine pu_ HT_ 9 41 (B_ 895 14) ?_
                      refine pu_ HT_ 10 42 (B_ 1919 14) ?_
                      refine tk2_ HT_ HW_ hHeld 7 39 (B_ 2047 14) ?_
                      refine tk2_ HT_ HW_ hHeld 11 43 (B_ 4095 14) ?_
                      refine pu_ HT_ 12 44 (B_ 8191 14) ?_
                      refine pu_ HT_ 13 45 (B_ 16383 14) ?_
                      refine done_ (done_of HT_.out (by kernel_rfl)) ?_
                      try go_wp2
                      go_roundg k2
                      case measure => have := HK1.out; have := HK2.out; omega
                      case rel => exact ⟨(x3_1), (wrap64 (x4_1 + 1)), (by first | rfl | (simp; done) | (simp [*]; done)), H', ⟨by have := HK1.out; have := HK2.out; omega⟩, ⟨re_ HO_3.out⟩, ⟨bl_ HB.out⟩⟩
                   · rw [if_neg c14] at H
                     have c14b0 : ((rd x3_1 (ji7)) == (rd l0 x4_1)) = false := beq_eq_false_iff_ne.mpr c14
                     have c14b1 : ((rd x3_1 (ji7)) != (rd l0 x4_1)) = true := bne_iff_ne.mpr c14
                     obtain ⟨y155, hy155⟩ : ∃ y_ : List Int, y_ = (([] : List Int)) := ⟨_, rfl⟩
                     replace H : (if 0 ≤ x5_2 then (if x5_2 ≤ (x3_1.length : Int) then ((some (x3_1.drop (x5_2 : Int).toNat : List Int)).bind fun y158 => (if y155.length + y158.length < 17592186044416 then ((some (y155 ++ y158 : List Int)).bind fun y162 => ((some (x3_1.take (x5_2 : Int).toNat : List Int)).bind fun y165 => (if y165.length < 17592186044416 then ((some (y165 ++ [rd l0 x4_1] : List Int)).bind fun y169 => (if y169.length + y162.length < 17592186044416 then (spec_SortList.l0 k2 l0 (y169 ++ y162) (wrap64 (x4_1 + 1))) else (none))) else (none)))) else (none))) else (none)) else (none)) = some r := by first | (rw [hy155]; with_reducible exact H) | (have H2_ := (Option.bind_some _ _).symm.trans H; rw [hy155]; with_reducible exact H2_) | (have H2_ := (Option.bind_some _ _).symm.trans H; with_reducible exact H2_) | with_reducible exact H | (rw [hy155]; exact H) | exact H
                     have Ny155 := Aside0.mk hy155
                     clear hy155
                     by_cases c17 : 0 ≤ x5_2
                     · rw [if_pos c17] at H
                       have c17b0 := eq_true c17
                       have c17b1 : decide (0 ≤ x5_2) = true := decide_eq_true c17
                       clear c17
                       by_cases c18 : x5_2 ≤ (x3_1.length : Int)
                       · rw [if_pos c18] at H
                         have c18b0 := eq_true c18
                         have c18b1 : decide (x5_2 ≤ (x3_1.length : Int)) = true := decide_eq_true c18
                         clear c18
                         obtain ⟨y158, hy158⟩ : ∃ y_ : List Int, y_ = (x3_1.drop (x5_2 : Int).toNat) := ⟨_, rfl⟩
                         replace H : (if y155.length + y158.length < 17592186044416 then ((some (y155 ++ y158 : List Int)).bind fun y162 => ((some (x3_1.take (x5_2 : Int).toNat : List Int)).bind fun y165 => (if y165.length < 17592186044416 then ((some (y165 ++ [rd l0 x4_1] : List Int)).bind fun y169 => (if y169.length + y162.length < 17592186044416 then (spec_SortList.l0 k2 l0 (y169 ++ y162) (wrap64 (x4_1 + 1))) else (none))) else (none)))) else (none)) = some r := by first | (rw [hy158]; with_reducible exact H) | (have H2_ := (Option.bind_some _ _).symm.trans H; rw [hy158]; with_reducible exact H2_) | (have H2_ := (Option.bind_some _ _).symm.trans H; with_reducible exact H2_) | with_reducible exact H | (rw [hy158]; exact H) | exact H
                         have Ny158 := Aside0.mk hy158
                         clear hy158
                         by_cases c19 : y155.length + y158.length < 17592186044416
                         · rw [if_pos c19] at H
                           have LMc19 := Aside0.mk c19
                           clear c19
                           obtain ⟨y162, hy162⟩ : ∃ y_ : List Int, y_ = (y155 ++ y158) := ⟨_, rfl⟩
                           replace H : ((some (x3_1.take (x5_2 : Int).toNat : List Int)).bind fun y165 => (if y165.length < 17592186044416 then ((some (y165 ++ [rd l0 x4_1] : List Int)).bind fun y169 => (if y169.length + y162.length < 17592186044416 then (spec_SortList.l0 k2 l0 (y169 ++ y162) (wrap64 (x4_1 + 1))) else (none))) else (none))) = some r := by first | (rw [hy162]; with_reducible exact H) | (have H2_ := (Option.bind_some _ _).symm.trans H; rw [hy162]; with_reducible exact H2_) | (have H2_ := (Option.bind_some _ _).symm.trans H; with_reducible exact H2_) | with_reducible exact H | (rw [hy162]; exact H) | exact H
                           have Ny162 := Aside0.mk hy162
                           clear hy162
                           have c20b0 := eq_true (of_decide_eq_true (by first | (with_reducible assumption) | assumption) : x5_2 ≤ (x3_1.length : Int))
                           obtain ⟨y165, hy165⟩ : ∃ y_ : List Int, y_ = (x3_1.take (x5_2 : Int).toNat) := ⟨_, rfl⟩
                           replace H : (if y165.length < 17592186044416 then ((some (y165 ++ [rd l0 x4_1] : List Int)).bind fun y169 => (if y169.length + y162.length < 17592186044416 then (spec_SortList.l0 k2 l0 (y169 ++ y162) (wrap64 (x4_1 + 1))) else (none))) else (none)) = some r := by first | (rw [hy165]; with_reducible exact H) | (have H2_ := (Option.bind_some _ _).symm.trans H; rw [hy165]; with_reducible exact H2_) | (have H2_ := (Option.bind_some _ _).symm.trans H; with_reducible exact H2_) | with_reducible exact H | (rw [hy165]; exact H) | exact H
                           have Ny165 := Aside0.mk hy165
                           clear hy165
                           by_cases c21 : y165.length < 17592186044416
                           · rw [if_pos c21] at H
                             have LMc21 := Aside0.mk c21
                             clear c21
                             obtain ⟨y169, hy169⟩ : ∃ y_ : List Int, y_ = (y165 ++ [rd l0 x4_1]) := ⟨_, rfl⟩
                             replace H : (if y169.length + y162.length < 17592186044416 then (spec_SortList.l0 k2 l0 (y169 ++ y162) (wrap64 (x4_1 + 1))) else (none)) = some r := by first | (rw [hy169]; with_reducible exact H) | (have H2_ := (Option.bind_some _ _).symm.trans H; rw [hy169]; with_reducible exact H2_) | (have H2_ := (Option.bind_some _ _).symm.trans H; with_reducible exact H2_) | with_reducible exact H | (rw [hy169]; exact H) | exact H
                             have Ny169 := Aside0.mk hy169
                             clear hy169
                             by_cases c22 : y169.length + y162.length < 17592186044416
                             · rw [if_pos c22] at H
                               have LMc22 := Aside0.mk c22
                               clear c22
                               obtain ⟨y172, hy172⟩ : ∃ y_ : List Int, y_ = (y169 ++ y162) := ⟨_, rfl⟩
                               replace H : (spec_SortList.l0 k2 l0 y172 (wrap64 (x4_1 + 1))) = some r := by first | (rw [hy172]; with_reducible exact H) | (have H2_ := (Option.bind_some _ _).symm.trans H; rw [hy172]; with_reducible exact H2_) | (have H2_ := (Option.bind_some _ _).symm.trans H; with_reducible exact H2_) | with_reducible exact H | (rw [hy172]; exact H) | exact H
                               have Ny172 := Aside0.mk hy172
                               clear hy172
                               as_aux_lemma =>
                                have H' := Aside0.mk H
                                clear H
                                try go_wp2
                                have n0_ := Aside0.mk (Kd.R_drew HO_3.out)
                                have n1_ := Aside0.mk (below_drew1 HB.out)
                                clear HO_3
                                clear HB
                                have HO_3 := n0_
                                have HB := n1_
                                clear n0_ n1_
                                have p151 : 0 ≤ ((ji7) : Int) := of_decide_eq_true (by first | (with_reducible assumption) | assumption)
                                have q151 : (ji7) < (x3_1.length : Int) := of_decide_eq_true (by first | (with_reducible assumption) | assumption)
                                obtain ⟨ad151, e151, hx151_0⟩ := Kd.at_int (Kd.R_reads' HO_3.out).2.2 (ji7) p151 q151
                                cases e151
                                replace p151 := eq_true p151
                                replace q151 := eq_true q151
                                have p152 : 0 ≤ (x4_1 : Int) := of_decide_eq_true (by first | (with_reducible assumption) | assumption)
                                have q152 : x4_1 < (l0.length : Int) := of_decide_eq_true (by first | (with_reducible assumption) | assumption)
                                obtain ⟨ad152, e152, hx152_0⟩ := Kd.at_int HR0.out x4_1 p152 q152
                                have hw152_0 := hx152_0
                                cases e152
                                (try replace hx152_0 := (HB.out.cell (World.block_lt_of_cell? w _ hx152_0)).trans hx152_0)
                                replace p152 := eq_true p152
                                replace q152 := eq_true q152
                                refine start_ (n := 14) (S := fun w' => w'.cell? (ad151.add ((ji7)).toNat) = some (.int .i64 (rd x3_1 (ji7))) ∧ w'.cell? (ad152.add (x4_1).toNat) = some (.int .i64 (rd l0 x4_1))) (ds := []) (B_ 0 14) (by kernel_rfl) rfl rfl ⟨hx151_0, ((HB.out.cell (World.block_lt_of_cell? w _ hw152_0)).trans hw152_0)⟩ (fun hHeld => ?_); refine with_tabW spec_SortList.tab6 spec_SortList.bits6 (fun HT_ HW_ => ?_)
                                generalize wr.drew = w23 at HO_3 HB hx151_0 hx152_0 hHeld ⊢
                                refine pu_ HT_ 0 16 (B_ 1 14) ?_
                                refine pu_ HT_ 1 17 (B_ 3 14) ?_
                                refine pu_ HT_ 2 18 (B_ 7 14) ?_
                                refine pu_ HT_ 3 19 (B_ 15 14) ?_
                                refine pu_ HT_ 4 20 (B_ 31 14) ?_
                                refine pu_ HT_ 5 21 (B_ 63 14) ?_
                                refine pu_ HT_ 6 22 (B_ 127 14) ?_
                                refine pu_ HT_ 8 24 (B_ 383 14) ?_
                                refine pu_ HT_ 9 25 (B_ 895 14) ?_
                                refine pu_ HT_ 10 26 (B_ 1919 14) ?_
                                refine tk2_ HT_ HW_ hHeld 7 23 (B_ 2047 14) ?_
                                refine tk2_ HT_ HW_ hHeld 11 27 (B_ 4095 14) ?_
                                refine pu_ HT_ 12 28 (B_ 8191 14) ?_
                                refine pu_ HT_ 13 29 (B_ 16383 14) ?_
                                refine done_ (done_of HT_.out (by kernel_rfl)) ?_
                                try go_wp2
                                have n0_ := Aside0.mk (Kd.R_drew HO_3.out)
                                have n1_ := Aside0.mk (below_drew1 HB.out)
                                clear HO_3
                                clear HB
                                have HO_3 := n0_
                                have HB := n1_
                                clear n0_ n1_
                                have p153 : 0 ≤ ((ji7) : Int) := of_decide_eq_true (by first | (with_reducible assumption) | assumption)
                                have q153 : (ji7) < (x3_1.length : Int) := of_decide_eq_true (by first | (with_reducible assumption) | assumption)
                                obtain ⟨ad153, e153, hx153_0⟩ := Kd.at_int (Kd.R_reads' HO_3.out).2.2 (ji7) p153 q153
                                obtain rfl : ad151 = ad153 := (by injection e153)
                                replace p153 := eq_true p153
                                replace q153 := eq_true q153
                                have p154 : 0 ≤ (x4_1 : Int) := of_decide_eq_true (by first | (with_reducible assumption) | assumption)
                                have q154 : x4_1 < (l0.length : Int) := of_decide_eq_true (by first | (with_reducible assumption) | assumption)
                                obtain ⟨ad154, e154, hx154_0⟩ := Kd.at_int HR0.out x4_1 p154 q154
                                have hw154_0 := hx154_0
                                obtain rfl : ad152 = ad154 := (by injection e154)
                                (try replace hx154_0 := (HB.out.cell (World.block_lt_of_cell? w _ hx154_0)).trans hx154_0)
                                replace p154 := eq_true p154
                                replace q154 := eq_true q154
                                refine start_ (n := 14) (S := fun w' => w'.cell? (ad151.add ((ji7)).toNat) = some (.int .i64 (rd x3_1 (ji7))) ∧ w'.cell? (ad152.add (x4_1).toNat) = some (.int .i64 (rd l0 x4_1))) (ds := []) (B_ 0 14) (by kernel_rfl) rfl rfl ⟨hx153_0, ((HB.out.cell (World.block_lt_of_cell? w _ hw154_0)).trans hw154_0)⟩ (fun hHeld => ?_); refine with_tabW spec_SortList.tab8 spec_SortList.bits8 (fun HT_ HW_ => ?_)
                                generalize w23.drew = w24 at HO_3 HB hx153_0 hx154_0 hHeld ⊢
                                refine pu_ HT_ 0 32 (B_ 1 14) ?_
                                refine pu_ HT_ 1 33 (B_ 3 14) ?_
                                refine pu_ HT_ 2 34 (B_ 7 14) ?_
                                refine pu_ HT_ 3 35 (B_ 15 14) ?_
                                refine pu_ HT_ 4 36 (B_ 31 14) ?_
                                refine pu_ HT_ 5 37 (B_ 63 14) ?_
                                refine pu_ HT_ 6 38 (B_ 127 14) ?_
                                refine pu_ HT_ 8 40 (B_ 383 14) ?_
                                refine pu_ HT_ 9 41 (B_ 895 14) ?_
                                refine pu_ HT_ 10 42 (B_ 1919 14) ?_
                                refine tk2_ HT_ HW_ hHeld 7 39 (B_ 2047 14) ?_
                                refine tk2_ HT_ HW_ hHeld 11 43 (B_ 4095 14) ?_
                                refine pu_ HT_ 12 44 (B_ 8191 14) ?_
                                refine pu_ HT_ 13 45 (B_ 16383 14) ?_
                                refine done_ (done_of HT_.out (by kernel_rfl)) ?_
                                try go_wp2_with (first | ((with_reducible refine gate_dst (N := 46) rfl ?_); refine Kd.R_lit (Kd.int .i64) _ 3 ?hg (N := 46) ?hd (xs := ([] : List Int)) (inner := []) (ok := fun _ => True) (okp := fun _ => True) ?hr ?hp (fun _ hk => hk) trivial (Below.refl _ _) (Nat.le_refl _) (by simp) ?_; (case hd => rfl); (case hg => rfl); (case hr => first | (go_simp; done) | (go_simp; rfl)); (case hp => exact (Reps.none _ _)); intro v156 w25 ho26 hb hg_ hnew_; clear hg_ hnew_; (first | rw [← Ny155.out] at ho26 | (simp only [Int.reduceToNat] at ho26; rw [← Ny155.out] at ho26)); have n0_ := Aside0.mk (Kd.R_elder' (re_ HO_3.out) (Kd.R_base ho26) hb); have n1_ := Aside0.mk (Kd.R_lower (Kd.R_new' ho26 (Kd.R_lt (re_ HO_3.out))) (below_size (bl_ HB.out))); have n2_ := Aside0.mk (below_step (bl_ HB.out) hb); clear HO_3; clear HB; have HO_3 := n0_; have HO157 := n1_; have HB := n2_; clear n0_ n1_ n2_; clear hb ho26; have q27 : (x5_2 : Int) ≤ ((x3_1.length : Int) : Int) := of_decide_eq_true (by first | (with_reducible assumption) | assumption); obtain ⟨i027, hi027, _, hsz27, _⟩ := info_parts info3; have hroom27 : x3_1.length ≤ co5 := (Kd.R_reads' HO_3.out).2.1; have hC27 : Kd.C (Kd.int .i64) _ (some ad151) x3_1.length x3_1 := (Kd.R_reads' HO_3.out).2.2; have q027 : (0 : Int) ≤ (x5_2 : Int) := of_decide_eq_true (by first | (with_reducible assumption) | assumption); have hcut27 := cut_from (P := Try.prog) 22 3 .i64 Try.underlying22 hi027 1 hsz27 (some ad151) x3_1.length co5 x5_2 q027 q27; have hr27 := Kd.C_drop (m := (x5_2 : Int).toNat) (c := co5) hC27 (by omega) hroom27; obtain ⟨A27, hA27⟩ : ∃ A1, A1 = (if co5 = (x5_2 : Int).toNat then (some ad151) else ((some ad151) : Option Addr).map (·.add ((x5_2 : Int).toNat * 1))) := ⟨_, rfl⟩; obtain ⟨c27, hc27⟩ : ∃ c1, c1 = co5 - (x5_2 : Int).toNat := ⟨_, rfl⟩; have hy27 : y158.length = x3_1.length - (x5_2 : Int).toNat := (by rw [Ny158.out, List.length_drop] <;> omega); rw [show (x3_1).drop (x5_2 : Int).toNat = y158 from Ny158.out.symm] at hr27; replace hr27 : Kd.C (Kd.int .i64) _ A27 y158.length y158 := (by rw [hA27]; exact hr27); rw [← hy27, ← hA27, ← hc27] at hcut27; have HR161 := Aside0.mk hr27; have HC161 := Aside0.mk (show y158.length ≤ c27 from by rw [hy27, hc27]; exact Nat.sub_le_sub_right hroom27 _); clear hr27 hC27 hroom27 hi027 hsz27 hc27; have KY27 := Aside0.mk hy27; have KA27 := Aside0.mk hA27; clear hy27 hA27; have KL27 := Aside0.mk (show (x5_2 : Int).toNat ≤ x3_1.length from by omega); replace q27 := eq_true q27) | ((with_reducible refine gate_builtin (b := .append) (xs := #[.tmp 46, .tmp 49]) rfl ?_); at_builtin; refine Kd.R_append_rows (Kd.int .i64) (w0 := w) w.heap.size rfl (.tmp 46) (.tmp 49) 22 3 (.int .i64 0) 8 rfl Try.underlying22 info3 rfl (by decide) (by omega) v156 y155 y158 _ _ _ (fun k_ => some k_ ≠ (.slice (some ad151) x3_1.length co5 : Value).ownBlock) (fun _ => False) rfl rfl ?aO ?aR (fun _ _ h => h) (fun _ h => h.elim) ?aF ?aB ?aS ?aL ?_; (case aR => repeat (first | exact (by repeat (first | (with_reducible exact HR161.out) | (with_reducible refine Kd.C_alloc ?_ _) | (with_reducible refine Kd.C_drewN ?_ _) | (with_reducible refine Kd.C_drew ?_) | exact HR161.out)) | (with_reducible refine Kd.C_alloc ?_ _) | (with_reducible refine Kd.C_drewN ?_ _) | (with_reducible refine Kd.C_drew ?_))); (case aB => exact (bl_ HB.out)); (case aF => exact (fun k_ hk => Kd.fresh' (Kd.R_lt (re_ HO_3.out)) k_ hk)); (case aO => exact (by (with_reducible repeat (first | apply Kd.R_alloc | apply Kd.R_drewN | apply Kd.R_drew)); exact Kd.R_mono HO157.out (fun _ hk => hk.2))); (case aS => exact (below_size (bl_ HB.out))); (case aL => have := LMc19.out; omega); intro v163 w28 ho hb hg hat; rw [← Ny162.out] at ho; have n0_ := Aside0.mk (Kd.R_after (ok := (fun _ => True)) (re_ HO_3.out) hg hat); have n1_ := Aside0.mk (hb); have n2_ := Aside0.mk ((show Kd.C (Kd.int .i64) w28 A27 y158.length y158 from by rw [Ny158.out, KA27.out]; exact Kd.C_drop (m := (x5_2 : Int).toNat) (c := co5) ((Kd.R_reads' (Kd.R_after (ok := (fun _ => True)) (re_ HO_3.out) hg hat)).2.2) KL27.out ((Kd.R_reads' (Kd.R_after (ok := (fun _ => True)) (re_ HO_3.out) hg hat)).2.1))); have n3_ := Aside0.mk (ho); clear HO_3; clear HB; clear HR161; clear HO157; have HO_3 := n0_; have HB := n1_; have HR161 := n2_; have HO164 := n3_; clear n0_ n1_ n2_ n3_; clear ho hb hg hat))
                                have n0_ := Aside0.mk (Kd.R_drew HO_3.out)
                                have n1_ := Aside0.mk (Kd.R_drew HO164.out)
                                have n2_ := Aside0.mk (Kd.C_drew HR161.out)
                                have n3_ := Aside0.mk (below_drew1 HB.out)
                                clear HO_3
                                clear HO164
                                clear HR161
                                clear HB
                                have HO_3 := n0_
                                have HO164 := n1_
                                have HR161 := n2_
                                have HB := n3_
                                clear n0_ n1_ n2_ n3_
                                have q30 : (x5_2 : Int) ≤ ((x3_1.length : Int) : Int) := of_decide_eq_true (by first | (with_reducible assumption) | assumption)
                                obtain ⟨i030, hi030, _, hsz30, _⟩ := info_parts info3
                                have hcut30 := cut_to (P := Try.prog) 22 3 .i64 Try.underlying22 hi030 (some ad151) x3_1.length co5 x5_2 (of_decide_eq_true (by first | (with_reducible assumption) | assumption)) q30 (Kd.R_reads' HO_3.out).2.1
                                have hr30 := Kd.R_take (m := (x5_2 : Int).toNat) HO_3.out (by omega)
                                have hy30 : y165.length = (x5_2 : Int).toNat := (by rw [Ny165.out, List.length_take]; omega)
                                rw [← Ny165.out] at hr30
                                rw [← hy30] at hr30 hcut30
                                clear hy30 hi030 hsz30 HO_3
                                have HO167 := Aside0.mk hr30
                                clear hr30
                                replace q30 := eq_true q30
                                have p168 : 0 ≤ (x4_1 : Int) := of_decide_eq_true (by first | (with_reducible assumption) | assumption)
                                have q168 : x4_1 < (l0.length : Int) := of_decide_eq_true (by first | (with_reducible assumption) | assumption)
                                obtain ⟨ad168, e168, hx168_0⟩ := Kd.at_int HR0.out x4_1 p168 q168
                                have hw168_0 := hx168_0
                                obtain rfl : ad152 = ad168 := (by injection e168)
                                (try replace hx168_0 := (HB.out.cell (World.block_lt_of_cell? w _ hx168_0)).trans hx168_0)
                                replace p168 := eq_true p168
                                replace q168 := eq_true q168
                                refine start_ (n := 12) (S := fun w' => w'.cell? (ad152.add (x4_1).toNat) = some (.int .i64 (rd l0 x4_1))) (ds := []) (B_ 0 12) (by kernel_rfl) rfl rfl (by first | exact hw168_0 | exact (HB.out.cell (World.block_lt_of_cell? w _ hw168_0)).trans hw168_0 | (obtain ⟨_, e_, h_⟩ := Kd.at_int HR0.out x4_1 (of_eq_true p168) (of_eq_true q168); cases e_; exact h_)) (fun hHeld => ?_); refine with_tabW spec_SortList.tab10 spec_SortList.bits10 (fun HT_ HW_ => ?_)
                                generalize w28.drew = w29 at HO_3 HO164 HR161 HB HO167 hx168_0 hHeld ⊢
                                refine pu_ HT_ 0 51 (B_ 1 12) ?_
                                refine pu_ HT_ 1 52 (B_ 3 12) ?_
                                refine pu_ HT_ 2 53 (B_ 7 12) ?_
                                refine pu_ HT_ 3 54 (B_ 15 12) ?_
                                refine pu_ HT_ 4 55 (B_ 31 12) ?_
                                refine pu_ HT_ 5 56 (B_ 63 12) ?_
                                refine pu_ HT_ 9 60 (B_ 575 12) ?_
                                refine tk1_ HT_ HW_ hHeld 6 57 (B_ 639 12) ?_
                                refine one_ (i := 7) (N := some 58) (B_ 767 12) rfl rfl (one_of HT_.out (by kernel_rfl)) (by decide) (fun K hK => ?_)
                                refine value_ (w1 := ?_) (v := ?_) (by rfl) rfl ?_ ?_
                                rotate_left 2
                                · go_simp
                                  constructor
                                  · rfl
                                  · rfl
                                refine hK.out _ _ ((World.cell?_alloc_lt _ _ _ (World.block_lt_of_cell? _ _ (by first | exact hw168_0 | exact (HB.out.cell (World.block_lt_of_cell? w _ hw168_0)).trans hw168_0 | (obtain ⟨_, e_, h_⟩ := Kd.at_int HR0.out x4_1 (of_eq_true p168) (of_eq_true q168); cases e_; exact h_)))).trans (by first | exact hw168_0 | exact (HB.out.cell (World.block_lt_of_cell? w _ hw168_0)).trans hw168_0 | (obtain ⟨_, e_, h_⟩ := Kd.at_int HR0.out x4_1 (of_eq_true p168) (of_eq_true q168); cases e_; exact h_))) (fun hHeld => ?_)
                                clear hK K
                                refine norm_ (a' := ?_) ?_ ?_
                                rotate_left
                                · show Act.put _ (some 58) _ = _
                                  simp only [Act.put, z1_, z2_, z3_, i64_w, i32_w]
                                  rfl
                                refine one_ (i := 8) (N := some 59) (B_ 1023 12) rfl rfl (one_of HT_.out (by kernel_rfl)) (by decide) (fun K hK => ?_)
                                refine Kd.R_append_step (Kd.int .i64) (w0 := w) w.heap.size (by rfl) (.tmp 53) (.tmp 58) 22 3 (.int .i64 0) 8 rfl Try.underlying22 info3 rfl (by decide) (by omega) (.slice (some ad151) y165.length co5) y165 (rd l0 x4_1) [.int .i64 (rd l0 x4_1)] (fun k_ => some k_ ≠ (v163 : Value).ownBlock) (fun _ => False) rfl rfl ?aP (fun _ hk => hk.elim) ?aF ?aO ?aB ?aS ?aL ?_
                                (case aP => exact rfl)
                                (case aB => exact (bl_ HB.out))
                                (case aF => exact (fun k_ hk => Kd.fresh' (Kd.R_lt (re_ HO164.out)) k_ hk))
                                (case aO => exact (by (with_reducible repeat (first | apply Kd.R_alloc | apply Kd.R_drewN | apply Kd.R_drew)); exact Kd.R_mono HO167.out (fun _ hk => hk.2)))
                                (case aS => exact (below_size (bl_ HB.out)))
                                (case aL => have := LMc21.out; omega)
                                intro v170 w31 ho hb hg hat
                                rw [← Ny169.out] at ho
                                have n0_ := Aside0.mk (Kd.R_after (ok := (fun _ => True)) (by (with_reducible repeat (first | apply Kd.R_alloc | apply Kd.R_drewN | apply Kd.R_drew)); exact Kd.R_mono HO164.out (fun _ hk => ⟨trivial, by first | exact hk | exact (fun e_ => hk (e_.trans (own_len_ _ _ _ _ _)))⟩)) hg hat)
                                have n1_ := Aside0.mk (hb)
                                have n2_ := Aside0.mk (ho)
                                clear HO164
                                clear HB
                                clear HO167
                                have HO164 := n0_
                                have HB := n1_
                                have HO171 := n2_
                                clear n0_ n1_ n2_
                                clear ho hb hg hat
                                obtain ⟨Ao33, co33, eo33⟩ := Kd.R_slice HO164.out
                                (first | subst eo33 | (injection eo33 with f1_ f2_ f3_; have f4_ := f1_.symm; have f5_ := f3_.symm; clear f1_ f2_ f3_; subst f4_; subst f5_))
                                refine hK.out _ _ (by first | exact hw168_0 | exact (HB.out.cell (World.block_lt_of_cell? w _ hw168_0)).trans hw168_0 | (obtain ⟨_, e_, h_⟩ := Kd.at_int HR0.out x4_1 (of_eq_true p168) (of_eq_true q168); cases e_; exact h_)) (fun hHeld => ?_)
                                clear hK K
                                refine norm_ (a' := ?_) ?_ ?_
                                rotate_left
                                · show Act.put _ (some 59) _ = _
                                  simp only [Act.put, z1_, z2_, z3_, i64_w, i32_w]
                                  rfl
                                refine one_ (i := 10) (N := some 61) (B_ 2047 12) rfl rfl (one_of HT_.out (by kernel_rfl)) (by decide) (fun K hK => ?_)
                                refine Kd.R_append_rows_step (Kd.int .i64) (w0 := w) w.heap.size (by rfl) (.tmp 59) (.tmp 60) 22 3 (.int .i64 0) 8 rfl Try.underlying22 info3 rfl (by decide) (by omega) v170 y169 y162 _ _ _ (fun k_ => some k_ ≠ (.slice Ao33 y162.length co33 : Value).ownBlock) (fun _ => False) rfl rfl ?aO ?aR (fun _ _ h => h) (fun _ h => h.elim) ?aF ?aB ?aS ?aL ?_
                                (case aR => exact ce_ ((Kd.R_reads' HO164.out).2.2))
                                (case aB => exact (bl_ HB.out))
                                (case aF => exact (fun k_ hk => Kd.fresh' (Kd.R_lt (re_ HO164.out)) k_ hk))
                                (case aO => exact (re_ HO171.out))
                                (case aS => exact (below_size (bl_ HB.out)))
                                (case aL => have := LMc22.out; omega)
                                intro v173 w32 ho hb hg hat
                                rw [← Ny172.out] at ho
                                have n0_ := Aside0.mk (Kd.R_after (ok := (fun _ => True)) (re_ HO164.out) hg hat)
                                have n1_ := Aside0.mk (hb)
                                have n2_ := Aside0.mk (ho)
                                clear HO164
                                clear HB
                                clear HO171
                                have HO164 := n0_
                                have HB := n1_
                                have HO174 := n2_
                                clear n0_ n1_ n2_
                                clear ho hb hg hat
                                refine hK.out _ _ (by first | exact hw168_0 | exact (HB.out.cell (World.block_lt_of_cell? w _ hw168_0)).trans hw168_0 | (obtain ⟨_, e_, h_⟩ := Kd.at_int HR0.out x4_1 (of_eq_true p168) (of_eq_true q168); cases e_; exact h_)) (fun hHeld => ?_)
                                clear hK K
                                refine norm_ (a' := ?_) ?_ ?_
                                rotate_left
                                · show Act.put _ (some 61) _ = _
                                  simp only [Act.put, z1_, z2_, z3_, i64_w, i32_w]
                                  rfl
                                refine pu_ HT_ 11 3 (B_ 4095 12) ?_
                                refine done_ (done_of HT_.out (by kernel_rfl)) ?_
                                try go_wp2
                                go_roundg k2
                                case measure => have := HK1.out; have := HK2.out; omega
                                case rel => exact ⟨(y172), (wrap64 (x4_1 + 1)), (by first | rfl | (simp; done) | (simp [*]; done)), H', ⟨by have := HK1.out; have := HK2.out; omega⟩, ⟨by (with_reducible repeat (first | apply Kd.R_alloc | apply Kd.R_drewN | apply Kd.R_drew)); exact Kd.R_mono HO174.out (fun _ hk => trivial)⟩, ⟨bl_ HB.out⟩⟩
                             · rw [if_neg c22] at H
                               exact absurd H (by simp)
                           · rw [if_neg c21] at H
                             exact absurd H (by simp)
                         · rw [if_neg c19] at H
                           exact absurd H (by simp)
                       · rw [if_neg c18] at H
                         exact absurd H (by simp)
                     · rw [if_neg c17] at H
                       exact absurd H (by simp)
               · rw [if_neg c11] at H
                 exact absurd H (by simp)
             · rw [if_neg c10] at H
               exact absurd H (by simp)
           · rw [if_neg c9] at H
             exact absurd H (by simp)
         · rw [if_neg c8] at H
           exact absurd H (by simp)
       · rw [if_neg c6] at H
         have c6b0 : decide (0 < x5_2) = false := decide_eq_false c6
         clear c6
         obtain ⟨y175, hy175⟩ : ∃ y_ : List Int, y_ = (([] : List Int)) := ⟨_, rfl⟩
         replace H : (if 0 ≤ x5_2 then (if x5_2 ≤ (x3_1.length : Int) then ((some (x3_1.drop (x5_2 : Int).toNat : List Int)).bind fun y178 => (if y175.length + y178.length < 17592186044416 then ((some (y175 ++ y178 : List Int)).bind fun y182 => ((some (x3_1.take (x5_2 : Int).toNat : List Int)).bind fun y185 => (if 0 ≤ x4_1 then (if x4_1 < (l0.length : Int) then (if y185.length < 17592186044416 then ((some (y185 ++ [rd l0 x4_1] : List Int)).bind fun y189 => (if y189.length + y182.length < 17592186044416 then (spec_SortList.l0 k2 l0 (y189 ++ y182) (wrap64 (x4_1 + 1))) else (none))) else (none)) else (none)) else (none)))) else (none))) else (none)) else (none)) = some r := by first | (rw [hy175]; with_reducible exact H) | (have H2_ := (Option.bind_some _ _).symm.trans H; rw [hy175]; with_reducible exact H2_) | (have H2_ := (Option.bind_some _ _).symm.trans H; with_reducible exact H2_) | with_reducible exact H | (rw [hy175]; exact H) | exact H
         have Ny175 := Aside0.mk hy175
         clear hy175
         by_cases c34 : 0 ≤ x5_2
         · rw [if_pos c34] at H
           have c34b0 := eq_true c34
           have c34b1 : decide (0 ≤ x5_2) = true := decide_eq_true c34
           clear c34
           by_cases c35 : x5_2 ≤ (x3_1.length : Int)
           · rw [if_pos c35] at H
             have c35b0 := eq_true c35
             have c35b1 : decide (x5_2 ≤ (x3_1.length : Int)) = true := decide_eq_true c35
             clear c35
             obtain ⟨y178, hy178⟩ : ∃ y_ : List Int, y_ = (x3_1.drop (x5_2 : Int).toNat) := ⟨_, rfl⟩
             replace H : (if y175.length + y178.length < 17592186044416 then ((some (y175 ++ y178 : List Int)).bind fun y182 => ((some (x3_1.take (x5_2 : Int).toNat : List Int)).bind fun y185 => (if 0 ≤ x4_1 then (if x4_1 < (l0.length : Int) then (if y185.length < 17592186044416 then ((some (y185 ++ [rd l0 x4_1] : List Int)).bind fun y189 => (if y189.length + y182.length < 17592186044416 then (spec_SortList.l0 k2 l0 (y189 ++ y182) (wrap64 (x4_1 + 1))) else (none))) else (none)) else (none)) else (none)))) else (none)) = some r := by first | (rw [hy178]; with_reducible exact H) | (have H2_ := (Option.bind_some _ _).symm.trans H; rw [hy178]; with_reducible exact H2_) | (have H2_ := (Option.bind_some _ _).symm.trans H; with_reducible exact H2_) | with_reducible exact H | (rw [hy178]; exact H) | exact H
             have Ny178 := Aside0.mk hy178
             clear hy178
             by_cases c36 : y175.length + y178.length < 17592186044416
             · rw [if_pos c36] at H
               have LMc36 := Aside0.mk c36
               clear c36
               obtain ⟨y182, hy182⟩ : ∃ y_ : List Int, y_ = (y175 ++ y178) := ⟨_, rfl⟩
               replace H : ((some (x3_1.take (x5_2 : Int).toNat : List Int)).bind fun y185 => (if 0 ≤ x4_1 then (if x4_1 < (l0.length : Int) then (if y185.length < 17592186044416 then ((some (y185 ++ [rd l0 x4_1] : List Int)).bind fun y189 => (if y189.length + y182.length < 17592186044416 then (spec_SortList.l0 k2 l0 (y189 ++ y182) (wrap64 (x4_1 + 1))) else (none))) else (none)) else (none)) else (none))) = some r := by first | (rw [hy182]; with_reducible exact H) | (have H2_ := (Option.bind_some _ _).symm.trans H; rw [hy182]; with_reducible exact H2_) | (have H2_ := (Option.bind_some _ _).symm.trans H; with_reducible exact H2_) | with_reducible exact H | (rw [hy182]; exact H) | exact H
               have Ny182 := Aside0.mk hy182
               clear hy182
               have c37b0 := eq_true (of_decide_eq_true (by first | (with_reducible assumption) | assumption) : x5_2 ≤ (x3_1.length : Int))
               obtain ⟨y185, hy185⟩ : ∃ y_ : List Int, y_ = (x3_1.take (x5_2 : Int).toNat) := ⟨_, rfl⟩
               replace H : (if 0 ≤ x4_1 then (if x4_1 < (l0.length : Int) then (if y185.length < 17592186044416 then ((some (y185 ++ [rd l0 x4_1] : List Int)).bind fun y189 => (if y189.length + y182.length < 17592186044416 then (spec_SortList.l0 k2 l0 (y189 ++ y182) (wrap64 (x4_1 + 1))) else (none))) else (none)) else (none)) else (none)) = some r := by first | (rw [hy185]; with_reducible exact H) | (have H2_ := (Option.bind_some _ _).symm.trans H; rw [hy185]; with_reducible exact H2_) | (have H2_ := (Option.bind_some _ _).symm.trans H; with_reducible exact H2_) | with_reducible exact H | (rw [hy185]; exact H) | exact H
               have Ny185 := Aside0.mk hy185
               clear hy185
               by_cases c38 : 0 ≤ x4_1
               · rw [if_pos c38] at H
                 have c38b0 : decide (0 ≤ x4_1) = true := decide_eq_true c38
                 clear c38
                 by_cases c39 : x4_1 < (l0.length : Int)
                 · rw [if_pos c39] at H
                   have c39b0 : decide (x4_1 < (l0.length : Int)) = true := decide_eq_true c39
                   clear c39
                   by_cases c40 : y185.length < 17592186044416
                   · rw [if_pos c40] at H
                     have LMc40 := Aside0.mk c40
                     clear c40
                     obtain ⟨y189, hy189⟩ : ∃ y_ : List Int, y_ = (y185 ++ [rd l0 x4_1]) := ⟨_, rfl⟩
                     replace H : (if y189.length + y182.length < 17592186044416 then (spec_SortList.l0 k2 l0 (y189 ++ y182) (wrap64 (x4_1 + 1))) else (none)) = some r := by first | (rw [hy189]; with_reducible exact H) | (have H2_ := (Option.bind_some _ _).symm.trans H; rw [hy189]; with_reducible exact H2_) | (have H2_ := (Option.bind_some _ _).symm.trans H; with_reducible exact H2_) | with_reducible exact H | (rw [hy189]; exact H) | exact H
                     have Ny189 := Aside0.mk hy189
                     clear hy189
                     by_cases c41 : y189.length + y182.length < 17592186044416
                     · rw [if_pos c41] at H
                       have LMc41 := Aside0.mk c41
                       clear c41
                       obtain ⟨y192, hy192⟩ : ∃ y_ : List Int, y_ = (y189 ++ y182) := ⟨_, rfl⟩
                       replace H : (spec_SortList.l0 k2 l0 y192 (wrap64 (x4_1 + 1))) = some r := by first | (rw [hy192]; with_reducible exact H) | (have H2_ := (Option.bind_some _ _).symm.trans H; rw [hy192]; with_reducible exact H2_) | (have H2_ := (Option.bind_some _ _).symm.trans H; with_reducible exact H2_) | with_reducible exact H | (rw [hy192]; exact H) | exact H
                       have Ny192 := Aside0.mk hy192
                       clear hy192
                       as_aux_lemma =>
                        have H' := Aside0.mk H
                        clear H
                        try go_wp2
                        have n0_ := Aside0.mk (Kd.R_drew HO_3.out)
                        have n1_ := Aside0.mk (below_drew1 HB.out)
                        clear HO_3
                        clear HB
                        have HO_3 := n0_
                        have HB := n1_
                        clear n0_ n1_
                        refine start_ (n := 14) (S := fun w' => True) (ds := []) (B_ 0 14) (by kernel_rfl) rfl rfl trivial (fun hHeld => ?_); refine with_tabW spec_SortList.tab6 spec_SortList.bits6 (fun HT_ HW_ => ?_)
                        generalize wr.drew = w42 at HO_3 HB hHeld ⊢
                        refine pu_ HT_ 0 16 (B_ 1 14) ?_
                        refine pu_ HT_ 1 17 (B_ 3 14) ?_
                        refine pu_ HT_ 2 18 (B_ 7 14) ?_
                        refine pn_ HT_ 3 19 (B_ 15 14) ?_
                        refine pn_ HT_ 4 20 (B_ 31 14) ?_
                        refine pn_ HT_ 5 21 (B_ 63 14) ?_
                        refine pn_ HT_ 6 22 (B_ 127 14) ?_
                        refine pn_ HT_ 7 23 (B_ 255 14) ?_
                        refine pn_ HT_ 8 24 (B_ 511 14) ?_
                        refine pn_ HT_ 9 25 (B_ 1023 14) ?_
                        refine pn_ HT_ 10 26 (B_ 2047 14) ?_
                        refine pn_ HT_ 11 27 (B_ 4095 14) ?_
                        refine pn_ HT_ 12 28 (B_ 8191 14) ?_
                        refine pu_ HT_ 13 29 (B_ 16383 14) ?_
                        refine done_ (done_of HT_.out (by kernel_rfl)) ?_
                        try go_wp2
                        have n0_ := Aside0.mk (Kd.R_drew HO_3.out)
                        have n1_ := Aside0.mk (below_drew1 HB.out)
                        clear HO_3
                        clear HB
                        have HO_3 := n0_
                        have HB := n1_
                        clear n0_ n1_
                        refine start_ (n := 14) (S := fun w' => True) (ds := []) (B_ 0 14) (by kernel_rfl) rfl rfl trivial (fun hHeld => ?_); refine with_tabW spec_SortList.tab8 spec_SortList.bits8 (fun HT_ HW_ => ?_)
                        generalize w42.drew = w43 at HO_3 HB hHeld ⊢
                        refine pu_ HT_ 0 32 (B_ 1 14) ?_
                        refine pu_ HT_ 1 33 (B_ 3 14) ?_
                        refine pu_ HT_ 2 34 (B_ 7 14) ?_
                        refine pn_ HT_ 3 35 (B_ 15 14) ?_
                        refine pn_ HT_ 4 36 (B_ 31 14) ?_
                        refine pn_ HT_ 5 37 (B_ 63 14) ?_
                        refine pn_ HT_ 6 38 (B_ 127 14) ?_
                        refine pn_ HT_ 7 39 (B_ 255 14) ?_
                        refine pn_ HT_ 8 40 (B_ 511 14) ?_
                        refine pn_ HT_ 9 41 (B_ 1023 14) ?_
                        refine pn_ HT_ 10 42 (B_ 2047 14) ?_
                        refine pn_ HT_ 11 43 (B_ 4095 14) ?_
                        refine pn_ HT_ 12 44 (B_ 8191 14) ?_
                        refine pu_ HT_ 13 45 (B_ 16383 14) ?_
                        refine done_ (done_of HT_.out (by kernel_rfl)) ?_
                        try go_wp2_with (first | ((with_reducible refine gate_dst (N := 46) rfl ?_); refine Kd.R_lit (Kd.int .i64) _ 3 ?hg (N := 46) ?hd (xs := ([] : List Int)) (inner := []) (ok := fun _ => True) (okp := fun _ => True) ?hr ?hp (fun _ hk => hk) trivial (Below.refl _ _) (Nat.le_refl _) (by simp) ?_; (case hd => rfl); (case hg => rfl); (case hr => first | (go_simp; done) | (go_simp; rfl)); (case hp => exact (Reps.none _ _)); intro v176 w44 ho45 hb hg_ hnew_; clear hg_ hnew_; (first | rw [← Ny175.out] at ho45 | (simp only [Int.reduceToNat] at ho45; rw [← Ny175.out] at ho45)); have n0_ := Aside0.mk (Kd.R_elder' (re_ HO_3.out) (Kd.R_base ho45) hb); have n1_ := Aside0.mk (Kd.R_lower (Kd.R_new' ho45 (Kd.R_lt (re_ HO_3.out))) (below_size (bl_ HB.out))); have n2_ := Aside0.mk (below_step (bl_ HB.out) hb); clear HO_3; clear HB; have HO_3 := n0_; have HO177 := n1_; have HB := n2_; clear n0_ n1_ n2_; clear hb ho45; have q46 : (x5_2 : Int) ≤ ((x3_1.length : Int) : Int) := of_decide_eq_true (by first | (with_reducible assumption) | assumption); obtain ⟨i046, hi046, _, hsz46, _⟩ := info_parts info3; have hroom46 : x3_1.length ≤ co5 := (Kd.R_reads' HO_3.out).2.1; have hC46 : Kd.C (Kd.int .i64) _ Ao5 x3_1.length x3_1 := (Kd.R_reads' HO_3.out).2.2; have q046 : (0 : Int) ≤ (x5_2 : Int) := of_decide_eq_true (by first | (with_reducible assumption) | assumption); have hcut46 := cut_from (P := Try.prog) 22 3 .i64 Try.underlying22 hi046 1 hsz46 Ao5 x3_1.length co5 x5_2 q046 q46; have hr46 := Kd.C_drop (m := (x5_2 : Int).toNat) (c := co5) hC46 (by omega) hroom46; obtain ⟨A46, hA46⟩ : ∃ A1, A1 = (if co5 = (x5_2 : Int).toNat then Ao5 else (Ao5 : Option Addr).map (·.add ((x5_2 : Int).toNat * 1))) := ⟨_, rfl⟩; obtain ⟨c46, hc46⟩ : ∃ c1, c1 = co5 - (x5_2 : Int).toNat := ⟨_, rfl⟩; have hy46 : y178.length = x3_1.length - (x5_2 : Int).toNat := (by rw [Ny178.out, List.length_drop] <;> omega); rw [show (x3_1).drop (x5_2 : Int).toNat = y178 from Ny178.out.symm] at hr46; replace hr46 : Kd.C (Kd.int .i64) _ A46 y178.length y178 := (by rw [hA46]; exact hr46); rw [← hy46, ← hA46, ← hc46] at hcut46; have HR181 := Aside0.mk hr46; have HC181 := Aside0.mk (show y178.length ≤ c46 from by rw [hy46, hc46]; exact Nat.sub_le_sub_right hroom46 _); clear hr46 hC46 hroom46 hi046 hsz46 hc46; have KY46 := Aside0.mk hy46; have KA46 := Aside0.mk hA46; clear hy46 hA46; have KL46 := Aside0.mk (show (x5_2 : Int).toNat ≤ x3_1.length from by omega); replace q46 := eq_true q46) | ((with_reducible refine gate_builtin (b := .append) (xs := #[.tmp 46, .tmp 49]) rfl ?_); at_builtin; refine Kd.R_append_rows (Kd.int .i64) (w0 := w) w.heap.size rfl (.tmp 46) (.tmp 49) 22 3 (.int .i64 0) 8 rfl Try.underlying22 info3 rfl (by decide) (by omega) v176 y175 y178 _ _ _ (fun k_ => some k_ ≠ (.slice Ao5 x3_1.length co5 : Value).ownBlock) (fun _ => False) rfl rfl ?aO ?aR (fun _ _ h => h) (fun _ h => h.elim) ?aF ?aB ?aS ?aL ?_; (case aR => repeat (first | exact (by repeat (first | (with_reducible exact HR181.out) | (with_reducible refine Kd.C_alloc ?_ _) | (with_reducible refine Kd.C_drewN ?_ _) | (with_reducible refine Kd.C_drew ?_) | exact HR181.out)) | (with_reducible refine Kd.C_alloc ?_ _) | (with_reducible refine Kd.C_drewN ?_ _) | (with_reducible refine Kd.C_drew ?_))); (case aB => exact (bl_ HB.out)); (case aF => exact (fun k_ hk => Kd.fresh' (Kd.R_lt (re_ HO_3.out)) k_ hk)); (case aO => exact (by (with_reducible repeat (first | apply Kd.R_alloc | apply Kd.R_drewN | apply Kd.R_drew)); exact Kd.R_mono HO177.out (fun _ hk => hk.2))); (case aS => exact (below_size (bl_ HB.out))); (case aL => have := LMc36.out; omega); intro v183 w47 ho hb hg hat; rw [← Ny182.out] at ho; have n0_ := Aside0.mk (Kd.R_after (ok := (fun _ => True)) (re_ HO_3.out) hg hat); have n1_ := Aside0.mk (hb); have n2_ := Aside0.mk ((show Kd.C (Kd.int .i64) w47 A46 y178.length y178 from by rw [Ny178.out, KA46.out]; exact Kd.C_drop (m := (x5_2 : Int).toNat) (c := co5) ((Kd.R_reads' (Kd.R_after (ok := (fun _ => True)) (re_ HO_3.out) hg hat)).2.2) KL46.out ((Kd.R_reads' (Kd.R_after (ok := (fun _ => True)) (re_ HO_3.out) hg hat)).2.1))); have n3_ := Aside0.mk (ho); clear HO_3; clear HB; clear HR181; clear HO177; have HO_3 := n0_; have HB := n1_; have HR181 := n2_; have HO184 := n3_; clear n0_ n1_ n2_ n3_; clear ho hb hg hat))
                        have n0_ := Aside0.mk (Kd.R_drew HO_3.out)
                        have n1_ := Aside0.mk (Kd.R_drew HO184.out)
                        have n2_ := Aside0.mk (Kd.C_drew HR181.out)
                        have n3_ := Aside0.mk (below_drew1 HB.out)
                        clear HO_3
                        clear HO184
                        clear HR181
                        clear HB
                        have HO_3 := n0_
                        have HO184 := n1_
                        have HR181 := n2_
                        have HB := n3_
                        clear n0_ n1_ n2_ n3_
                        have q49 : (x5_2 : Int) ≤ ((x3_1.length : Int) : Int) := of_decide_eq_true (by first | (with_reducible assumption) | assumption)
                        obtain ⟨i049, hi049, _, hsz49, _⟩ := info_parts info3
                        have hcut49 := cut_to (P := Try.prog) 22 3 .i64 Try.underlying22 hi049 Ao5 x3_1.length co5 x5_2 (of_decide_eq_true (by first | (with_reducible assumption) | assumption)) q49 (Kd.R_reads' HO_3.out).2.1
                        have hr49 := Kd.R_take (m := (x5_2 : Int).toNat) HO_3.out (by omega)
                        have hy49 : y185.length = (x5_2 : Int).toNat := (by rw [Ny185.out, List.length_take]; omega)
                        rw [← Ny185.out] at hr49
                        rw [← hy49] at hr49 hcut49
                        clear hy49 hi049 hsz49 HO_3
                        have HO187 := Aside0.mk hr49
                        clear hr49
                        replace q49 := eq_true q49
                        have p188 : 0 ≤ (x4_1 : Int) := of_decide_eq_true (by first | (with_reducible assumption) | assumption)
                        have q188 : x4_1 < (l0.length : Int) := of_decide_eq_true (by first | (with_reducible assumption) | assumption)
                        obtain ⟨ad188, e188, hx188_0⟩ := Kd.at_int HR0.out x4_1 p188 q188
                        have hw188_0 := hx188_0
                        cases e188
                        (try replace hx188_0 := (HB.out.cell (World.block_lt_of_cell? w _ hx188_0)).trans hx188_0)
                        replace p188 := eq_true p188
                        replace q188 := eq_true q188
                        refine start_ (n := 12) (S := fun w' => w'.cell? (ad188.add (x4_1).toNat) = some (.int .i64 (rd l0 x4_1))) (ds := []) (B_ 0 12) (by kernel_rfl) rfl rfl (by first | exact hw188_0 | exact (HB.out.cell (World.block_lt_of_cell? w _ hw188_0)).trans hw188_0 | (obtain ⟨_, e_, h_⟩ := Kd.at_int HR0.out x4_1 (of_eq_true p188) (of_eq_true q188); cases e_; exact h_)) (fun hHeld => ?_); refine with_tabW spec_SortList.tab10 spec_SortList.bits10 (fun HT_ HW_ => ?_)
                        generalize w47.drew = w48 at HO_3 HO184 HR181 HB HO187 hx188_0 hHeld ⊢
                        refine pu_ HT_ 0 51 (B_ 1 12) ?_
                        refine pu_ HT_ 1 52 (B_ 3 12) ?_
                        refine pu_ HT_ 2 53 (B_ 7 12) ?_
                        refine pu_ HT_ 3 54 (B_ 15 12) ?_
                        refine pu_ HT_ 4 55 (B_ 31 12) ?_
                        refine pu_ HT_ 5 56 (B_ 63 12) ?_
                        refine pu_ HT_ 9 60 (B_ 575 12) ?_
                        refine tk1_ HT_ HW_ hHeld 6 57 (B_ 639 12) ?_
                        refine one_ (i := 7) (N := some 58) (B_ 767 12) rfl rfl (one_of HT_.out (by kernel_rfl)) (by decide) (fun K hK => ?_)
                        refine value_ (w1 := ?_) (v := ?_) (by rfl) rfl ?_ ?_
                        rotate_left 2
                        · go_simp
                          constructor
                          · rfl
                          · rfl
                        refine hK.out _ _ ((World.cell?_alloc_lt _ _ _ (World.block_lt_of_cell? _ _ (by first | exact hw188_0 | exact (HB.out.cell (World.block_lt_of_cell? w _ hw188_0)).trans hw188_0 | (obtain ⟨_, e_, h_⟩ := Kd.at_int HR0.out x4_1 (of_eq_true p188) (of_eq_true q188); cases e_; exact h_)))).trans (by first | exact hw188_0 | exact (HB.out.cell (World.block_lt_of_cell? w _ hw188_0)).trans hw188_0 | (obtain ⟨_, e_, h_⟩ := Kd.at_int HR0.out x4_1 (of_eq_true p188) (of_eq_true q188); cases e_; exact h_))) (fun hHeld => ?_)
                        clear hK K
                        refine norm_ (a' := ?_) ?_ ?_
                        rotate_left
                        · show Act.put _ (some 58) _ = _
                          simp only [Act.put, z1_, z2_, z3_, i64_w, i32_w]
                          rfl
                        refine one_ (i := 8) (N := some 59) (B_ 1023 12) rfl rfl (one_of HT_.out (by kernel_rfl)) (by decide) (fun K hK => ?_)
                        refine Kd.R_append_step (Kd.int .i64) (w0 := w) w.heap.size (by rfl) (.tmp 53) (.tmp 58) 22 3 (.int .i64 0) 8 rfl Try.underlying22 info3 rfl (by decide) (by omega) (.slice Ao5 y185.length co5) y185 (rd l0 x4_1) [.int .i64 (rd l0 x4_1)] (fun k_ => some k_ ≠ (v183 : Value).ownBlock) (fun _ => False) rfl rfl ?aP (fun _ hk => hk.elim) ?aF ?aO ?aB ?aS ?aL ?_
                        (case aP => exact rfl)
                        (case aB => exact (bl_ HB.out))
                        (case aF => exact (fun k_ hk => Kd.fresh' (Kd.R_lt (re_ HO184.out)) k_ hk))
                        (case aO => exact (by (with_reducible repeat (first | apply Kd.R_alloc | apply Kd.R_drewN | apply Kd.R_drew)); exact Kd.R_mono HO187.out (fun _ hk => hk.2)))
                        (case aS => exact (below_size (bl_ HB.out)))
                        (case aL => have := LMc40.out; omega)
                        intro v190 w50 ho hb hg hat
                        rw [← Ny189.out] at ho
                        have n0_ := Aside0.mk (Kd.R_after (ok := (fun _ => True)) (by (with_reducible repeat (first | apply Kd.R_alloc | apply Kd.R_drewN | apply Kd.R_drew)); exact Kd.R_mono HO184.out (fun _ hk => ⟨trivial, by first | exact hk | exact (fun e_ => hk (e_.trans (own_len_ _ _ _ _ _)))⟩)) hg hat)
                        have n1_ := Aside0.mk (hb)
                        have n2_ := Aside0.mk (ho)
                        clear HO184
                        clear HB
                        clear HO187
                        have HO184 := n0_
                        have HB := n1_
                        have HO191 := n2_
                        clear n0_ n1_ n2_
                        clear ho hb hg hat
                        obtain ⟨Ao52, co52, eo52⟩ := Kd.R_slice HO184.out
                        (first | subst eo52 | (injection eo52 with f1_ f2_ f3_; have f4_ := f1_.symm; have f5_ := f3_.symm; clear f1_ f2_ f3_; subst f4_; subst f5_))
                        refine hK.out _ _ (by first | exact hw188_0 | exact (HB.out.cell (World.block_lt_of_cell? w _ hw188_0)).trans hw188_0 | (obtain ⟨_, e_, h_⟩ := Kd.at_int HR0.out x4_1 (of_eq_true p188) (of_eq_true q188); cases e_; exact h_)) (fun hHeld => ?_)
                        clear hK K
                        refine norm_ (a' := ?_) ?_ ?_
                        rotate_left
                        · show Act.put _ (some 59) _ = _
                          simp only [Act.put, z1_, z2_, z3_, i64_w, i32_w]
                          rfl
                        refine one_ (i := 10) (N := some 61) (B_ 2047 12) rfl rfl (one_of HT_.out (by kernel_rfl)) (by decide) (fun K hK => ?_)
                        refine Kd.R_append_rows_step (Kd.int .i64) (w0 := w) w.heap.size (by rfl) (.tmp 59) (.tmp 60) 22 3 (.int .i64 0) 8 rfl Try.underlying22 info3 rfl (by decide) (by omega) v190 y189 y182 _ _ _ (fun k_ => some k_ ≠ (.slice Ao52 y182.length co52 : Value).ownBlock) (fun _ => False) rfl rfl ?aO ?aR (fun _ _ h => h) (fun _ h => h.elim) ?aF ?aB ?aS ?aL ?_
                        (case aR => exact ce_ ((Kd.R_reads' HO184.out).2.2))
                        (case aB => exact (bl_ HB.out))
                        (case aF => exact (fun k_ hk => Kd.fresh' (Kd.R_lt (re_ HO184.out)) k_ hk))
                        (case aO => exact (re_ HO191.out))
                        (case aS => exact (below_size (bl_ HB.out)))
                        (case aL => have := LMc41.out; omega)
                        intro v193 w51 ho hb hg hat
                        rw [← Ny192.out] at ho
                        have n0_ := Aside0.mk (Kd.R_after (ok := (fun _ => True)) (re_ HO184.out) hg hat)
                        have n1_ := Aside0.mk (hb)
                        have n2_ := Aside0.mk (ho)
                        clear HO184
                        clear HB
                        clear HO191
                        have HO184 := n0_
                        have HB := n1_
                        have HO194 := n2_
                        clear n0_ n1_ n2_
                        clear ho hb hg hat
                        refine hK.out _ _ (by first | exact hw188_0 | exact (HB.out.cell (World.block_lt_of_cell? w _ hw188_0)).trans hw188_0 | (obtain ⟨_, e_, h_⟩ := Kd.at_int HR0.out x4_1 (of_eq_true p188) (of_eq_true q188); cases e_; exact h_)) (fun hHeld => ?_)
                        clear hK K
                        refine norm_ (a' := ?_) ?_ ?_
                        rotate_left
                        · show Act.put _ (some 61) _ = _
                          simp only [Act.put, z1_, z2_, z3_, i64_w, i32_w]
                          rfl
                        refine pu_ HT_ 11 3 (B_ 4095 12) ?_
                        refine done_ (done_of HT_.out (by kernel_rfl)) ?_
                        try go_wp2
                        go_roundg k2
                        case measure => have := HK1.out; have := HK2.out; omega
                        case rel => exact ⟨(y192), (wrap64 (x4_1 + 1)), (by first | rfl | (simp; done) | (simp [*]; done)), H', ⟨by have := HK1.out; have := HK2.out; omega⟩, ⟨by (with_reducible repeat (first | apply Kd.R_alloc | apply Kd.R_drewN | apply Kd.R_drew)); exact Kd.R_mono HO194.out (fun _ hk => trivial)⟩, ⟨bl_ HB.out⟩⟩
                     · rw [if_neg c41] at H
                       exact absurd H (by simp)
                   · rw [if_neg c40] at H
                     exact absurd H (by simp)
                 · rw [if_neg c39] at H
                   exact absurd H (by simp)
               · rw [if_neg c38] at H
                 exact absurd H (by simp)
             · rw [if_neg c36] at H
               exact absurd H (by simp)
           · rw [if_neg c35] at H
             exact absurd H (by simp)
         · rw [if_neg c34] at H
           exact absurd H (by simp)
   · rw [if_neg c4] at H
     have c4b0 : decide (x4_1 < (l0.length : Int)) = false := decide_eq_false c4
     clear c4
     as_aux_lemma =>
      obtain rfl := Option.some.inj H
      go_wp2
      go_ret
      exact ⟨_, by first | rfl | (simp [errW_none, errW_some] <;> rfl) | (simp [*, errW_none, errW_some] <;> rfl), re_ HO_3.out, bl_ HB.out⟩
end Go.Proofs.Ytapdhljbhekcdaa.PC
end
section
namespace Go.Proofs.Ytapdhljbhekcdaa.PC
open Go.RowKit Go.Proofs.YtapdhljbhekcdaaW.PrintWords Go.Proofs.YtapdhljbhekcdaaW.PrintLast Go.Proofs.YtapdhljbhekcdaaW.PrintMore
set_option linter.unusedVariables false
set_option linter.unusedSimpArgs false
def spec_l3Minimal.l0 : Nat → List Int → List Int → Int → Option (List Int)
 | 0, _, _, _ => none
 | k + 1, x3, x4, x5 => if x5 < (x4.length : Int) then (if x5 = 0 then (if 0 ≤ x5 then (if x3.length < 17592186044416 then (spec_l3Minimal.l0 k (x3 ++ [rd x4 x5]) x4 (wrap64 (x5 + 1))) else (none)) else (none)) else (if 0 ≤ x5 then (if x5 ≤ (x4.length : Int) then ((spec_l3Table.f k (x4.take (x5 : Int).toNat) (rd x4 x5)).bind fun t210 => (if 0 ≤ (rd x4 x5) then (if (rd x4 x5) < (t210.length : Int) then (if (rdOf false t210 (rd x4 x5) = true) then (spec_l3Minimal.l0 k x3 x4 (wrap64 (x5 + 1))) else (if x3.length < 17592186044416 then (spec_l3Minimal.l0 k (x3 ++ [rd x4 x5]) x4 (wrap64 (x5 + 1))) else (none))) else (none)) else (none))) else (none)) else (none))) else (some x3)
def spec_l3Minimal.f (k : Nat) (l0 : List Int) : Option (List Int) := (spec_SortList.f k l0).bind fun t198 => (spec_l3Minimal.l0 k (([] : List Int)) t198 0)
def spec_l3Minimal.T6 : Bool × List (List Nat × List Nat) := (true, [([], []), ([0], [0]), ([1], [1]), ([2], [2]), ([2], [2]), ([3, 4, 2], [2, 3, 4]), ([2], [2]), ([2], [2]), ([6, 7, 2], [2, 6, 7]), ([8, 2], [2, 8]), ([5, 9, 2, 2], [2, 5, 9]), ([2], [2]), ([2], [2]), ([11, 12, 2], [2, 11, 12]), ([13, 2], [2, 13]), ([10, 14, 2], [2, 10, 14]), ([15, 2], [2, 15]), ([16, 2], [2, 16]), ([2, 17], [2, 17])])
def spec_l3Minimal.B6 : List Nat := [0, 1, 3, 7, 7, 31, 7, 7, 199, 455, 1023, 7, 7, 6151, 14343, 32767, 65535, 131071, 262143]
theorem spec_l3Minimal.tab6 : rtab .any (opsOf Try.f82 6) = spec_l3Minimal.T6 := by kernel_rfl
theorem spec_l3Minimal.bits6 : waitsOk spec_l3Minimal.T6.2 spec_l3Minimal.B6 = true := by kernel_rfl
set_option maxHeartbeats 8000000 in
set_option maxRecDepth 100000 in
theorem spec_l3Minimal.calls (k : Nat) (A0 : Option Addr) (c0 : Nat) (l0 : List Int) (r : List Int) (w : World) (hr0 : Kd.C (Kd.int .i64) w A0 l0.length l0) (hc0 : l0.length ≤ c0) (h : spec_l3Minimal.f k l0 = some r) :
 Calls Try.prog 82 #[.slice A0 l0.length c0] w fun e w' => ∃ v0_ : Value, e = .returned (v0_) ∧ Kd.R (Kd.int .i64) 3 w' w.heap.size (fun _ => True) v0_ r ∧ Below w.heap.size w w' := by
 have HR0 := Aside0.mk hr0
 have HC0 := Aside0.mk hc0
 clear hr0 hc0
 have HB := Aside0.mk (Below.refl w.heap.size w)
 have H : ((spec_SortList.f k l0).bind fun t198 => (spec_l3Minimal.l0 k (([] : List Int)) t198 0)) = some r := h
 clear h
 obtain ⟨y195, hy195⟩ : ∃ y_ : List Int, y_ = (([] : List Int)) := ⟨_, rfl⟩
 replace H : ((spec_SortList.f k l0).bind fun t198 => (spec_l3Minimal.l0 k y195 t198 0)) = some r := by first | (rw [hy195]; with_reducible exact H) | (have H2_ := (Option.bind_some _ _).symm.trans H; rw [hy195]; with_reducible exact H2_) | (have H2_ := (Option.bind_some _ _).symm.trans H; with_reducible exact H2_) | with_reducible exact H | (rw [hy195]; exact H) | exact H
 have Ny195 := Aside0.mk hy195
 clear hy195
 replace H := Option.bind_eq_some_iff.mp H
 obtain ⟨t198, A20, H⟩ := H
 replace H : (spec_l3Minimal.l0 k y195 t198 0) = some r := H
 have A2 := Aside0.mk A20
 clear A20
 have H' := Aside0.mk H
 clear H
 go_enter Try.func82, Try.ntmps82
 go_wp2_with (first | ((with_reducible refine gate_dst (N := 6) rfl ?_); refine Kd.R_lit (Kd.int .i64) _ 3 ?hg (N := 6) ?hd (xs := ([] : List Int)) (inner := []) (ok := fun _ => True) (okp := fun _ => True) ?hr ?hp (fun _ hk => hk) trivial (Below.refl _ _) (Nat.le_refl _) (by simp) ?_; (case hd => rfl); (case hg => rfl); (case hr => first | (go_simp; done) | (go_simp; rfl)); (case hp => exact (Reps.none _ _)); intro v196 w3 ho4 hb hg_ hnew_; clear hg_ hnew_; (first | rw [← Ny195.out] at ho4 | (simp only [Int.reduceToNat] at ho4; rw [← Ny195.out] at ho4)); have n0_ := Aside0.mk (Kd.R_lower ho4 (below_size (bl_ HB.out))); have n1_ := Aside0.mk (below_step (bl_ HB.out) hb); clear HB; have HO197 := n0_; have HB := n1_; clear n0_ n1_; clear hb ho4) | ((with_reducible refine gate_callee (f := 109) rfl ?_); refine goesL_ (some 8) rfl rfl Try.func109 (by kernel_rfl) rfl #[.slice A0 l0.length c0] rfl (by (try simp only [List.map_toArray, List.map_cons, List.map_nil]); first | done | rfl | (simp only [List.length_drop, List.length_take]; rfl)) ?_; (with_reducible refine (spec_SortList.calls k _ _ l0 t198 _ ?side1 ?side2 A2.out).mono ?_); (case side1 => exact ce_ ((Kd.C_below HR0.out HB.out))); (case side2 => exact HC0.out); rintro e w5 ⟨v199, rfl, ho0, hb⟩; refine ⟨_, rfl, ?_⟩; have n0_ := Aside0.mk (Kd.R_elder' (re_ HO197.out) (Kd.R_base ho0) hb); have n1_ := Aside0.mk (Kd.R_lower (Kd.R_new' ho0 (Kd.R_lt (re_ HO197.out))) (below_size (bl_ HB.out))); have n2_ := Aside0.mk (below_step (bl_ HB.out) hb); clear HO197; clear HB; have HO197 := n0_; have HO200 := n1_; have HB := n2_; clear n0_ n1_ n2_; (try clear hb); (try clear hb2); (try clear hk); (try clear hi); (try clear ho0)))
 go_loopg [3, 5] k (fun kq v3 v5 w' => ∃ (x3_1 : List Int) (x5_1 : Int), v5 = .int .i64 x5_1 ∧ Aside0 (spec_l3Minimal.l0 kq x3_1 t198 x5_1 = some r) ∧ Aside0 (kq ≤ k) ∧ Aside0 (Kd.R (Kd.int .i64) 3 w' w.heap.size (fun k_ => some k_ ≠ (v199 : Value).ownBlock) v3 x3_1) ∧ Aside0 (Kd.R (Kd.int .i64) 3 w' w.heap.size (fun k_ => some k_ ≠ (v3 : Value).ownBlock) v199 t198) ∧ Aside0 (Below w.heap.size w w'))
 case atStart => exact ⟨(y195), (0), (by first | rfl | (simp; done) | (simp [*]; done)), H', ⟨Nat.le_refl _⟩, ⟨by (with_reducible repeat (first | apply Kd.R_alloc | apply Kd.R_drewN | apply Kd.R_drew)); exact Kd.R_mono HO197.out (fun _ hk => hk.2)⟩, ⟨by (with_reducible repeat (first | apply Kd.R_alloc | apply Kd.R_drewN | apply Kd.R_drew)); exact Kd.R_mono HO200.out (fun _ hk => hk.2)⟩, ⟨bl_ HB.out⟩⟩
 case round =>
  clear H'
  try clear c1
  try clear p2
  obtain ⟨x3_1, x5_1, rfl, HA, HK1, HO_3, HO_4, HB⟩ := hrel
  cases gk with
  | zero => exact absurd HA.out (by simp [spec_l3Minimal.l0])
  | succ k1 =>
   have H := HA.out
   clear HA
   simp only [spec_l3Minimal.l0] at H
   by_cases c6 : x5_1 < (t198.length : Int)
   · rw [if_pos c6] at H
     have c6b0 : decide (x5_1 < (t198.length : Int)) = true := decide_eq_true c6
     clear c6
     by_cases c7 : x5_1 = 0
     · rw [if_pos c7] at H
       have c7b0 : (x5_1 == 0) = true := beq_iff_eq.mpr c7
       have c7b1 : (x5_1 != 0) = false := bne_eq_false_iff_eq.mpr c7
       clear c7
       by_cases c8 : 0 ≤ x5_1
       · rw [if_pos c8] at H
         have c8b0 : decide (0 ≤ x5_1) = true := decide_eq_true c8
         clear c8
         by_cases c9 : x3_1.length < 17592186044416
         · rw [if_pos c9] at H
           have LMc9 := Aside0.mk c9
           clear c9
           obtain ⟨y202, hy202⟩ : ∃ y_ : List Int, y_ = (x3_1 ++ [rd t198 x5_1]) := ⟨_, rfl⟩
           replace H : (spec_l3Minimal.l0 k1 y202 t198 (wrap64 (x5_1 + 1))) = some r := by first | (rw [hy202]; with_reducible exact H) | (have H2_ := (Option.bind_some _ _).symm.trans H; rw [hy202]; with_reducible exact H2_) | (have H2_ := (Option.bind_some _ _).symm.trans H; with_reducible exact H2_) | with_reducible exact H | (rw [hy202]; exact H) | exact H
           have Ny202 := Aside0.mk hy202
           clear hy202
           as_aux_lemma =>
            have H' := Aside0.mk H
            clear H
            obtain ⟨Ao10, co10, eo10⟩ := Kd.R_slice HO_4.out
            subst eo10
            try go_wp2
            have n0_ := Aside0.mk (Kd.R_drew HO_3.out)
            have n1_ := Aside0.mk (Kd.R_drew HO_4.out)
            have n2_ := Aside0.mk (below_drew1 HB.out)
            clear HO_3
            clear HO_4
            clear HB
            have HO_3 := n0_
            have HO_4 := n1_
            have HB := n2_
            clear n0_ n1_ n2_
            refine start_ (n := 19) (S := fun w' => True) (ds := []) (B_ 0 19) (by kernel_rfl) rfl rfl trivial (fun hHeld => ?_); refine with_tabW spec_l3Minimal.tab6 spec_l3Minimal.bits6 (fun HT_ HW_ => ?_)
            generalize wr.drew = w11 at HO_3 HO_4 HB hHeld ⊢
            refine pu_ HT_ 0 15 (B_ 1 19) ?_
            refine pu_ HT_ 1 16 (B_ 3 19) ?_
            refine pu_ HT_ 2 17 (B_ 7 19) ?_
            refine pn_ HT_ 3 18 (B_ 15 19) ?_
            refine pn_ HT_ 4 19 (B_ 31 19) ?_
            refine pn_ HT_ 5 20 (B_ 63 19) ?_
            refine pn_ HT_ 6 21 (B_ 127 19) ?_
            refine pn_ HT_ 7 22 (B_ 255 19) ?_
            refine pn_ HT_ 8 23 (B_ 511 19) ?_
            refine pn_ HT_ 9 24 (B_ 1023 19) ?_
            refine pn_ HT_ 10 25 (B_ 2047 19) ?_
            refine pn_ HT_ 11 26 (B_ 4095 19) ?_
            refine pn_ HT_ 12 27 (B_ 8191 19) ?_
            refine pn_ HT_ 13 28 (B_ 16383 19) ?_
            refine pn_ HT_ 14 29 (B_ 32767 19) ?_
            refine pn_ HT_ 15 30 (B_ 65535 19) ?_
            refine pn_ HT_ 16 31 (B_ 131071 19) ?_
            refine pn_ HT_ 17 32 (B_ 262143 19) ?_
            refine pu_ HT_ 18 33 (B_ 524287 19) ?_
            refine done_ (done_of HT_.out (by kernel_rfl)) ?_
            have p201 : 0 ≤ (x5_1 : Int) := of_decide_eq_true (by first | (with_reducible assumption) | assumption)
            have q201 : x5_1 < (t198.length : Int) := of_decide_eq_true (by first | (with_reducible assumption) | assumption)
            obtain ⟨ad201, e201, hx201_0⟩ := Kd.at_int (Kd.R_reads' HO_4.out).2.2 x5_1 p201 q201
            cases e201
            replace p201 := eq_true p201
            replace q201 := eq_true q201
            try go_wp2_with (first | ((with_reducible refine gate_builtin (b := .append) (xs := #[.tmp 34, .tmp 39]) rfl ?_); at_builtin; refine Kd.R_append (Kd.int .i64) (w0 := w) w.heap.size rfl (.tmp 34) (.tmp 39) 22 3 (.int .i64 0) 8 rfl Try.underlying22 info3 rfl (by decide) (by omega) u3 x3_1 (rd t198 x5_1) [.int .i64 (rd t198 x5_1)] (fun k_ => some k_ ≠ (.slice (some ad201) t198.length co10 : Value).ownBlock) (fun _ => False) rfl rfl ?aP (fun _ hk => hk.elim) ?aF ?aO ?aB ?aS ?aL ?_; (case aP => exact rfl); (case aB => exact (bl_ HB.out)); (case aF => exact (fun k_ hk => Kd.fresh' (Kd.R_lt (re_ HO_4.out)) k_ hk)); (case aO => exact (re_ HO_3.out)); (case aS => exact (below_size (bl_ HB.out))); (case aL => have := LMc9.out; omega); intro v203 w12 ho hb hg hat; rw [← Ny202.out] at ho; have n0_ := Aside0.mk (Kd.R_after (ok := (fun _ => True)) (by (with_reducible repeat (first | apply Kd.R_alloc | apply Kd.R_drewN | apply Kd.R_drew)); exact Kd.R_mono HO_4.out (fun _ hk => ⟨trivial, hk⟩)) hg hat); have n1_ := Aside0.mk (hb); have n2_ := Aside0.mk (ho); clear HO_4; clear HB; clear HO_3; have HO_4 := n0_; have HB := n1_; have HO204 := n2_; clear n0_ n1_ n2_; clear ho hb hg hat))
            go_roundg k1
            case measure => have := HK1.out; omega
            case rel => exact ⟨(y202), (wrap64 (x5_1 + 1)), (by first | rfl | (simp; done) | (simp [*]; done)), H', ⟨by have := HK1.out; omega⟩, ⟨re_ HO204.out⟩, ⟨by (with_reducible repeat (first | apply Kd.R_alloc | apply Kd.R_drewN | apply Kd.R_drew)); exact Kd.R_mono HO_4.out (fun _ hk => hk.2)⟩, ⟨bl_ HB.out⟩⟩
         · rw [if_neg c9] at H
           exact absurd H (by simp)
       · rw [if_neg c8] at H
         exact absurd H (by simp)
     · rw [if_neg c7] at H
       have c7b0 : (x5_1 == 0) = false := beq_eq_false_iff_ne.mpr c7
       have c7b1 : (x5_1 != 0) = true := bne_iff_ne.mpr c7
       by_cases c13 : 0 ≤ x5_1
       · rw [if_pos c13] at H
         have c13b0 := eq_true c13
         have c13b1 : decide (0 ≤ x5_1) = true := decide_eq_true c13
         clear c13
         by_cases c14 : x5_1 ≤ (t198.length : Int)
         · rw [if_pos c14] at H
           have c14b0 := eq_true c14
           have c14b1 : decide (x5_1 ≤ (t198.length : Int)) = true := decide_eq_true c14
           clear c14
           obtain ⟨y205, hy205⟩ : ∃ y_ : List Int, y_ = (t198.take (x5_1 : Int).toNat) := ⟨_, rfl⟩
           replace H : ((spec_l3Table.f k1 y205 (rd t198 x5_1)).bind fun t210 => (if 0 ≤ (rd t198 x5_1) then (if (rd t198 x5_1) < (t210.length : Int) then (if (rdOf false t210 (rd t198 x5_1) = true) then (spec_l3Minimal.l0 k1 x3_1 t198 (wrap64 (x5_1 + 1))) else (if x3_1.length < 17592186044416 then (spec_l3Minimal.l0 k1 (x3_1 ++ [rd t198 x5_1]) t198 (wrap64 (x5_1 + 1))) else (none))) else (none)) else (none))) = some r := by first | (rw [hy205]; with_reducible exact H) | (have H2_ := (Option.bind_some _ _).symm.trans H; rw [hy205]; with_reducible exact H2_) | (have H2_ := (Option.bind_some _ _).symm.trans H; with_reducible exact H2_) | with_reducible exact H | (rw [hy205]; exact H) | exact H
           have Ny205 := Aside0.mk hy205
           clear hy205
           replace H := Option.bind_eq_some_iff.mp H
           obtain ⟨t210, A150, H⟩ := H
           replace H : (if 0 ≤ (rd t198 x5_1) then (if (rd t198 x5_1) < (t210.length : Int) then (if (rdOf false t210 (rd t198 x5_1) = true) then (spec_l3Minimal.l0 k1 x3_1 t198 (wrap64 (x5_1 + 1))) else (if x3_1.length < 17592186044416 then (spec_l3Minimal.l0 k1 (x3_1 ++ [rd t198 x5_1]) t198 (wrap64 (x5_1 + 1))) else (none))) else (none)) else (none)) = some r := H
           have A15 := Aside0.mk A150
           clear A150
           by_cases c16 : 0 ≤ (rd t198 x5_1)
           · rw [if_pos c16] at H
             have c16b0 : decide (0 ≤ (rd t198 x5_1)) = true := decide_eq_true c16
             clear c16
             by_cases c17 : (rd t198 x5_1) < (t210.length : Int)
             · rw [if_pos c17] at H
               have c17b0 : decide ((rd t198 x5_1) < (t210.length : Int)) = true := decide_eq_true c17
               clear c17
               obtain ⟨bq18, hbq18⟩ : ∃ b_ : Bool, b_ = (rdOf false t210 (rd t198 x5_1)) := ⟨_, rfl⟩
               replace H : (if (bq18 = true) then (spec_l3Minimal.l0 k1 x3_1 t198 (wrap64 (x5_1 + 1))) else (if x3_1.length < 17592186044416 then (spec_l3Minimal.l0 k1 (x3_1 ++ [rd t198 x5_1]) t198 (wrap64 (x5_1 + 1))) else (none))) = some r := by rw [← hbq18] at H; exact H
               have Nbq18 := Aside0.mk hbq18
               clear hbq18
               by_cases c19 : (bq18 = true)
               · subst c19
                 have H1 : (spec_l3Minimal.l0 k1 x3_1 t198 (wrap64 (x5_1 + 1))) = some r := by rw [if_pos rfl] at H; exact H
                 clear H
                 have H := H1
                 clear H1
                 as_aux_lemma =>
                  have H' := Aside0.mk H
                  clear H
                  obtain ⟨Ao20, co20, eo20⟩ := Kd.R_slice HO_4.out
                  subst eo20
                  try go_wp2
                  have n0_ := Aside0.mk (Kd.R_drew HO_3.out)
                  have n1_ := Aside0.mk (Kd.R_drew HO_4.out)
                  have n2_ := Aside0.mk (below_drew1 HB.out)
                  clear HO_3
                  clear HO_4
                  clear HB
                  have HO_3 := n0_
                  have HO_4 := n1_
                  have HB := n2_
                  clear n0_ n1_ n2_
                  have q22 : (x5_1 : Int) ≤ ((t198.length : Int) : Int) := of_decide_eq_true (by first | (with_reducible assumption) | assumption)
                  obtain ⟨i022, hi022, _, hsz22, _⟩ := info_parts info3
                  have hroom22 : t198.length ≤ co20 := (Kd.R_reads' HO_4.out).2.1
                  have hC22 : Kd.C (Kd.int .i64) _ Ao20 t198.length t198 := (Kd.R_reads' HO_4.out).2.2
                  have hcut22 := cut_to (P := Try.prog) 22 3 .i64 Try.underlying22 hi022 Ao20 t198.length co20 x5_1 (of_decide_eq_true (by first | (with_reducible assumption) | assumption)) q22 hroom22
                  have hr22 := Kd.C_take (m := (x5_1 : Int).toNat) hC22 (by omega)
                  have hy22 : y205.length = (x5_1 : Int).toNat := (by rw [Ny205.out, List.length_take]; omega)
                  rw [← Ny205.out] at hr22
                  rw [← hy22] at hcut22
                  have HR208 := Aside0.mk hr22
                  have HC208 := Aside0.mk (show y205.length ≤ co20 from by omega)
                  clear hr22 hC22 hroom22 hi022 hsz22
                  have KY22 := Aside0.mk hy22
                  clear hy22
                  have KL22 := Aside0.mk (show (x5_1 : Int).toNat ≤ t198.length from by omega)
                  replace q22 := eq_true q22
                  have p209 : 0 ≤ (x5_1 : Int) := of_decide_eq_true (by first | (with_reducible assumption) | assumption)
                  have q209 : x5_1 < (t198.length : Int) := of_decide_eq_true (by first | (with_reducible assumption) | assumption)
                  obtain ⟨ad209, e209, hx209_0⟩ := Kd.at_int (Kd.R_reads' HO_4.out).2.2 x5_1 p209 q209
                  cases e209
                  replace p209 := eq_true p209
                  replace q209 := eq_true q209
                  have p213 : 0 ≤ (x5_1 : Int) := of_decide_eq_true (by first | (with_reducible assumption) | assumption)
                  have q213 : x5_1 < (t198.length : Int) := of_decide_eq_true (by first | (with_reducible assumption) | assumption)
                  obtain ⟨ad213, e213, hx213_0⟩ := Kd.at_int (Kd.R_reads' HO_4.out).2.2 x5_1 p213 q213
                  obtain rfl : ad209 = ad213 := (by injection e213)
                  replace p213 := eq_true p213
                  replace q213 := eq_true q213
                  refine start_ (n := 19) (S := fun w' => w'.cell? (ad209.add (x5_1).toNat) = some (.int .i64 (rd t198 x5_1)) ∧ w'.cell? (ad209.add (x5_1).toNat) = some (.int .i64 (rd t198 x5_1)) ∧ True) (ds := []) (B_ 0 19) (by kernel_rfl) rfl rfl ⟨hx209_0, hx213_0, trivial⟩ (fun hHeld => ?_); refine with_tabW spec_l3Minimal.tab6 spec_l3Minimal.bits6 (fun HT_ HW_ => ?_)
                  generalize wr.drew = w21 at HO_3 HO_4 HB HR208 hx209_0 hx213_0 hHeld ⊢
                  refine pu_ HT_ 0 15 (B_ 1 19) ?_
                  refine pu_ HT_ 1 16 (B_ 3 19) ?_
                  refine pu_ HT_ 2 17 (B_ 7 19) ?_
                  refine pu_ HT_ 3 18 (B_ 15 19) ?_
                  refine pu_ HT_ 4 19 (B_ 31 19) ?_
                  refine pu_ HT_ 5 20 (B_ 63 19) ?_
                  refine pu_ HT_ 6 21 (B_ 127 19) ?_
                  refine pu_ HT_ 7 22 (B_ 255 19) ?_
                  refine pu_ HT_ 8 23 (B_ 511 19) ?_
                  refine pu_ HT_ 11 26 (B_ 2559 19) ?_
                  refine pu_ HT_ 12 27 (B_ 6655 19) ?_
                  refine pu_ HT_ 13 28 (B_ 14847 19) ?_
                  refine tk3_ HT_ HW_ hHeld 9 24 (B_ 15359 19) ?_
                  refine tk3_ HT_ HW_ hHeld 14 29 (B_ 31743 19) ?_
                  refine one_ (i := 10) (N := some 25) (B_ 32767 19) rfl rfl (one_of HT_.out (by kernel_rfl)) (by decide) (fun K hK => ?_)
                  refine goes_ Try.func64 (by kernel_rfl) rfl #[.slice (some ad209) y205.length co20, .int .i64 (rd t198 x5_1)] (by rfl) rfl rfl (by (try simp only [List.map_toArray, List.map_cons, List.map_nil]); first | done | rfl | (simp only [List.length_drop, List.length_take]; rfl)) ?_
                  with_reducible refine (spec_l3Table.calls k1 _ _ y205 (rd t198 x5_1) t210 _ ?side1 ?side2 A15.out).mono ?_
                  (case side1 => repeat (first | exact (by repeat (first | (with_reducible exact HR208.out) | (with_reducible refine Kd.C_alloc ?_ _) | (with_reducible refine Kd.C_drewN ?_ _) | (with_reducible refine Kd.C_drew ?_) | exact HR208.out)) | (with_reducible refine Kd.C_alloc ?_ _) | (with_reducible refine Kd.C_drewN ?_ _) | (with_reducible refine Kd.C_drew ?_)))
                  (case side2 => exact HC208.out)
                  rintro e w23 ⟨v211, rfl, ho0, hb⟩
                  have HS0_ := (hb.cell (World.block_lt_of_cell? _ _ (hHeld.1))).trans (hHeld.1)
                  have HS1_ := (hb.cell (World.block_lt_of_cell? _ _ (hHeld.2.1))).trans (hHeld.2.1)
                  refine ⟨_, rfl, ?_⟩
                  have n0_ := Aside0.mk (Kd.R_below (re_ HO_3.out) hb)
                  have n1_ := Aside0.mk (Kd.R_below (re_ HO_4.out) hb)
                  have n2_ := Aside0.mk (Kd.R_lower ho0 (below_size (bl_ HB.out)))
                  have n3_ := Aside0.mk (Kd.C_below (by repeat (first | (with_reducible exact HR208.out) | (with_reducible refine Kd.C_alloc ?_ _) | (with_reducible refine Kd.C_drewN ?_ _) | (with_reducible refine Kd.C_drew ?_) | exact HR208.out)) hb)
                  have n4_ := Aside0.mk (below_step (bl_ HB.out) hb)
                  clear HO_3
                  clear HO_4
                  clear HR208
                  clear HB
                  have HO_3 := n0_
                  have HO_4 := n1_
                  have HO212 := n2_
                  have HR208 := n3_
                  have HB := n4_
                  clear n0_ n1_ n2_ n3_ n4_
                  (try clear hb)
                  (try clear hb2)
                  (try clear hk)
                  (try clear hi)
                  (try clear ho0)
                  obtain ⟨Ao24, co24, eo24⟩ := Kd.R_slice HO212.out
                  (first | subst eo24 | (injection eo24 with f1_ f2_ f3_; have f4_ := f1_.symm; have f5_ := f3_.symm; clear f1_ f2_ f3_; subst f4_; subst f5_))
                  have p214 : 0 ≤ ((rd t198 x5_1) : Int) := of_decide_eq_true (by first | (with_reducible assumption) | assumption)
                  have q214 : (rd t198 x5_1) < (t210.length : Int) := of_decide_eq_true (by first | (with_reducible assumption) | assumption)
                  obtain ⟨ad214, e214, hx214_0⟩ := Kd.at_bool (Kd.R_reads' HO212.out).2.2 (rd t198 x5_1) p214 q214
                  (try rw [← Nbq18.out] at hx214_0)
                  cases e214
                  replace p214 := eq_true p214
                  replace q214 := eq_true q214
                  refine hK.out _ _ ⟨HS0_, HS1_, trivial⟩ (fun _ => ?_); refine restart_ (S' := fun w' => w'.cell? (ad209.add (x5_1).toNat) = some (.int .i64 (rd t198 x5_1)) ∧ w'.cell? (ad209.add (x5_1).toNat) = some (.int .i64 (rd t198 x5_1)) ∧ w'.cell? (ad214.add ((rd t198 x5_1)).toNat) = some (.bool true)) (fun _ h => ⟨h.1, h.2.1, trivial⟩) ⟨HS0_, HS1_, hx214_0⟩ (fun hHeld => ?_)
                  clear hK K
                  refine norm_ (a' := ?_) ?_ ?_
                  rotate_left
                  · show Act.put _ (some 25) _ = _
                    simp only [Act.put, z1_, z2_, z3_, i64_w, i32_w]
                    rfl
                  refine pu_ HT_ 15 30 (B_ 65535 19) ?_
                  refine tk3_ HT_ HW_ hHeld 16 31 (B_ 131071 19) ?_
                  refine pu_ HT_ 17 32 (B_ 262143 19) ?_
                  refine pu_ HT_ 18 33 (B_ 524287 19) ?_
                  refine done_ (done_of HT_.out (by kernel_rfl)) ?_
                  try go_wp2
                  go_roundg k1
                  case measure => have := HK1.out; omega
                  case rel => exact ⟨(x3_1), (wrap64 (x5_1 + 1)), (by first | rfl | (simp; done) | (simp [*]; done)), H', ⟨by have := HK1.out; omega⟩, ⟨re_ HO_3.out⟩, ⟨re_ HO_4.out⟩, ⟨bl_ HB.out⟩⟩
               · replace c19 := Bool.eq_false_iff.mpr c19
                 subst c19
                 have H1 : (if x3_1.length < 17592186044416 then (spec_l3Minimal.l0 k1 (x3_1 ++ [rd t198 x5_1]) t198 (wrap64 (x5_1 + 1))) else (none)) = some r := by rw [if_neg (show ¬ (false = true) by decide)] at H; exact H
                 clear H
                 have H := H1
                 clear H1
                 by_cases c25 : x3_1.length < 17592186044416
                 · rw [if_pos c25] at H
                   have LMc25 := Aside0.mk c25
                   clear c25
                   obtain ⟨y216, hy216⟩ : ∃ y_ : List Int, y_ = (x3_1 ++ [rd t198 x5_1]) := ⟨_, rfl⟩
                   replace H : (spec_l3Minimal.l0 k1 y216 t198 (wrap64 (x5_1 + 1))) = some r := by first | (rw [hy216]; with_reducible exact H) | (have H2_ := (Option.bind_some _ _).symm.trans H; rw [hy216]; with_reducible exact H2_) | (have H2_ := (Option.bind_some _ _).symm.trans H; with_reducible exact H2_) | with_reducible exact H | (rw [hy216]; exact H) | exact H
                   have Ny216 := Aside0.mk hy216
                   clear hy216
                   as_aux_lemma =>
                    have H' := Aside0.mk H
                    clear H
                    obtain ⟨Ao26, co26, eo26⟩ := Kd.R_slice HO_4.out
                    subst eo26
                    try go_wp2
                    have n0_ := Aside0.mk (Kd.R_drew HO_3.out)
                    have n1_ := Aside0.mk (Kd.R_drew HO_4.out)
                    have n2_ := Aside0.mk (below_drew1 HB.out)
                    clear HO_3
                    clear HO_4
                    clear HB
                    have HO_3 := n0_
                    have HO_4 := n1_
                    have HB := n2_
                    clear n0_ n1_ n2_
                    have q28 : (x5_1 : Int) ≤ ((t198.length : Int) : Int) := of_decide_eq_true (by first | (with_reducible assumption) | assumption)
                    obtain ⟨i028, hi028, _, hsz28, _⟩ := info_parts info3
                    have hroom28 : t198.length ≤ co26 := (Kd.R_reads' HO_4.out).2.1
                    have hC28 : Kd.C (Kd.int .i64) _ Ao26 t198.length t198 := (Kd.R_reads' HO_4.out).2.2
                    have hcut28 := cut_to (P := Try.prog) 22 3 .i64 Try.underlying22 hi028 Ao26 t198.length co26 x5_1 (of_decide_eq_true (by first | (with_reducible assumption) | assumption)) q28 hroom28
                    have hr28 := Kd.C_take (m := (x5_1 : Int).toNat) hC28 (by omega)
                    have hy28 : y205.length = (x5_1 : Int).toNat := (by rw [Ny205.out, List.length_take]; omega)
                    rw [← Ny205.out] at hr28
                    rw [← hy28] at hcut28
                    have HR208 := Aside0.mk hr28
                    have HC208 := Aside0.mk (show y205.length ≤ co26 from by omega)
                    clear hr28 hC28 hroom28 hi028 hsz28
                    have KY28 := Aside0.mk hy28
                    clear hy28
                    have KL28 := Aside0.mk (show (x5_1 : Int).toNat ≤ t198.length from by omega)
                    replace q28 := eq_true q28
                    have p209 : 0 ≤ (x5_1 : Int) := of_decide_eq_true (by first | (with_reducible assumption) | assumption)
                    have q209 : x5_1 < (t198.length : Int) := of_decide_eq_true (by first | (with_reducible assumption) | assumption)
                    obtain ⟨ad209, e209, hx209_0⟩ := Kd.at_int (Kd.R_reads' HO_4.out).2.2 x5_1 p209 q209
                    cases e209
                    replace p209 := eq_true p209
                    replace q209 := eq_true q209
                    have p213 : 0 ≤ (x5_1 : Int) := of_decide_eq_true (by first | (with_reducible assumption) | assumption)
                    have q213 : x5_1 < (t198.length : Int) := of_decide_eq_true (by first | (with_reducible assumption) | assumption)
                    obtain ⟨ad213, e213, hx213_0⟩ := Kd.at_int (Kd.R_reads' HO_4.out).2.2 x5_1 p213 q213
                    obtain rfl : ad209 = ad213 := (by injection e213)
                    replace p213 := eq_true p213
                    replace q213 := eq_true q213
                    refine start_ (n := 19) (S := fun w' => w'.cell? (ad209.add (x5_1).toNat) = some (.int .i64 (rd t198 x5_1)) ∧ w'.cell? (ad209.add (x5_1).toNat) = some (.int .i64 (rd t198 x5_1)) ∧ True) (ds := []) (B_ 0 19) (by kernel_rfl) rfl rfl ⟨hx209_0, hx213_0, trivial⟩ (fun hHeld => ?_); refine with_tabW spec_l3Minimal.tab6 spec_l3Minimal.bits6 (fun HT_ HW_ => ?_)
                    generalize wr.drew = w27 at HO_3 HO_4 HB HR208 hx209_0 hx213_0 hHeld ⊢
                    refine pu_ HT_ 0 15 (B_ 1 19) ?_
                    refine pu_ HT_ 1 16 (B_ 3 19) ?_
                    refine pu_ HT_ 2 17 (B_ 7 19) ?_
                    refine pu_ HT_ 3 18 (B_ 15 19) ?_
                    refine pu_ HT_ 4 19 (B_ 31 19) ?_
                    refine pu_ HT_ 5 20 (B_ 63 19) ?_
                    refine pu_ HT_ 6 21 (B_ 127 19) ?_
                    refine pu_ HT_ 7 22 (B_ 255 19) ?_
                    refine pu_ HT_ 8 23 (B_ 511 19) ?_
                    refine pu_ HT_ 11 26 (B_ 2559 19) ?_
                    refine pu_ HT_ 12 27 (B_ 6655 19) ?_
                    refine pu_ HT_ 13 28 (B_ 14847 19) ?_
                    refine tk3_ HT_ HW_ hHeld 9 24 (B_ 15359 19) ?_
                    refine tk3_ HT_ HW_ hHeld 14 29 (B_ 31743 19) ?_
                    refine one_ (i := 10) (N := some 25) (B_ 32767 19) rfl rfl (one_of HT_.out (by kernel_rfl)) (by decide) (fun K hK => ?_)
                    refine goes_ Try.func64 (by kernel_rfl) rfl #[.slice (some ad209) y205.length co26, .int .i64 (rd t198 x5_1)] (by rfl) rfl rfl (by (try simp only [List.map_toArray, List.map_cons, List.map_nil]); first | done | rfl | (simp only [List.length_drop, List.length_take]; rfl)) ?_
                    with_reducible refine (spec_l3Table.calls k1 _ _ y205 (rd t198 x5_1) t210 _ ?side1 ?side2 A15.out).mono ?_
                    (case side1 => repeat (first | exact (by repeat (first | (with_reducible exact HR208.out) | (with_reducible refine Kd.C_alloc ?_ _) | (with_reducible refine Kd.C_drewN ?_ _) | (with_reducible refine Kd.C_drew ?_) | exact HR208.out)) | (with_reducible refine Kd.C_alloc ?_ _) | (with_reducible refine Kd.C_drewN ?_ _) | (with_reducible refine Kd.C_drew ?_)))
                    (case side2 => exact HC208.out)
                    rintro e w29 ⟨v211, rfl, ho0, hb⟩
                    have HS0_ := (hb.cell (World.block_lt_of_cell? _ _ (hHeld.1))).trans (hHeld.1)
                    have HS1_ := (hb.cell (World.block_lt_of_cell? _ _ (hHeld.2.1))).trans (hHeld.2.1)
                    refine ⟨_, rfl, ?_⟩
                    have n0_ := Aside0.mk (Kd.R_below (re_ HO_3.out) hb)
                    have n1_ := Aside0.mk (Kd.R_below (re_ HO_4.out) hb)
                    have n2_ := Aside0.mk (Kd.R_lower ho0 (below_size (bl_ HB.out)))
                    have n3_ := Aside0.mk (Kd.C_below (by repeat (first | (with_reducible exact HR208.out) | (with_reducible refine Kd.C_alloc ?_ _) | (with_reducible refine Kd.C_drewN ?_ _) | (with_reducible refine Kd.C_drew ?_) | exact HR208.out)) hb)
                    have n4_ := Aside0.mk (below_step (bl_ HB.out) hb)
                    clear HO_3
                    clear HO_4
                    clear HR208
                    clear HB
                    have HO_3 := n0_
                    have HO_4 := n1_
                    have HO212 := n2_
                    have HR208 := n3_
                    have HB := n4_
                    clear n0_ n1_ n2_ n3_ n4_
                    (try clear hb)
                    (try clear hb2)
                    (try clear hk)
                    (try clear hi)
                    (try clear ho0)
                    obtain ⟨Ao30, co30, eo30⟩ := Kd.R_slice HO212.out
                    (first | subst eo30 | (injection eo30 with f1_ f2_ f3_; have f4_ := f1_.symm; have f5_ := f3_.symm; clear f1_ f2_ f3_; subst f4_; subst f5_))
                    have p214 : 0 ≤ ((rd t198 x5_1) : Int) := of_decide_eq_true (by first | (with_reducible assumption) | assumption)
                    have q214 : (rd t198 x5_1) < (t210.length : Int) := of_decide_eq_true (by first | (with_reducible assumption) | assumption)
                    obtain ⟨ad214, e214, hx214_0⟩ := Kd.at_bool (Kd.R_reads' HO212.out).2.2 (rd t198 x5_1) p214 q214
                    (try rw [← Nbq18.out] at hx214_0)
                    cases e214
                    replace p214 := eq_true p214
                    replace q214 := eq_true q214
                    refine hK.out _ _ ⟨HS0_, HS1_, trivial⟩ (fun _ => ?_); refine restart_ (S' := fun w' => w'.cell? (ad209.add (x5_1).toNat) = some (.int .i64 (rd t198 x5_1)) ∧ w'.cell? (ad209.add (x5_1).toNat) = some (.int .i64 (rd t198 x5_1)) ∧ w'.cell? (ad214.add ((rd t198 x5_1)).toNat) = some (.bool false)) (fun _ h => ⟨h.1, h.2.1, trivial⟩) ⟨HS0_, HS1_, hx214_0⟩ (fun hHeld => ?_)
                    clear hK K
                    refine norm_ (a' := ?_) ?_ ?_
                    rotate_left
                    · show Act.put _ (some 25) _ = _
                      simp only [Act.put, z1_, z2_, z3_, i64_w, i32_w]
                      rfl
                    refine pu_ HT_ 15 30 (B_ 65535 19) ?_
                    refine tk3_ HT_ HW_ hHeld 16 31 (B_ 131071 19) ?_
                    refine pu_ HT_ 17 32 (B_ 262143 19) ?_
                    refine pu_ HT_ 18 33 (B_ 524287 19) ?_
                    refine done_ (done_of HT_.out (by kernel_rfl)) ?_
                    have p215 : 0 ≤ (x5_1 : Int) := of_decide_eq_true (by first | (with_reducible assumption) | assumption)
                    have q215 : x5_1 < (t198.length : Int) := of_decide_eq_true (by first | (with_reducible assumption) | assumption)
                    obtain ⟨ad215, e215, hx215_0⟩ := Kd.at_int (Kd.R_reads' HO_4.out).2.2 x5_1 p215 q215
                    obtain rfl : ad209 = ad215 := (by injection e215)
                    replace p215 := eq_true p215
                    replace q215 := eq_true q215
                    try go_wp2_with (first | ((with_reducible refine gate_builtin (b := .append) (xs := #[.tmp 34, .tmp 39]) rfl ?_); at_builtin; refine Kd.R_append (Kd.int .i64) (w0 := w) w.heap.size rfl (.tmp 34) (.tmp 39) 22 3 (.int .i64 0) 8 rfl Try.underlying22 info3 rfl (by decide) (by omega) u3 x3_1 (rd t198 x5_1) [.int .i64 (rd t198 x5_1)] (fun k_ => some k_ ≠ (.slice (some ad209) t198.length co26 : Value).ownBlock) (fun _ => False) rfl rfl ?aP (fun _ hk => hk.elim) ?aF ?aO ?aB ?aS ?aL ?_; (case aP => exact rfl); (case aB => exact (bl_ HB.out)); (case aF => exact (fun k_ hk => Kd.fresh' (Kd.R_lt (re_ HO_4.out)) k_ hk)); (case aO => exact (re_ HO_3.out)); (case aS => exact (below_size (bl_ HB.out))); (case aL => have := LMc25.out; omega); intro v217 w31 ho hb hg hat; rw [← Ny216.out] at ho; have n0_ := Aside0.mk (Kd.R_after (ok := (fun _ => True)) (by (with_reducible repeat (first | apply Kd.R_alloc | apply Kd.R_drewN | apply Kd.R_drew)); exact Kd.R_mono HO_4.out (fun _ hk => ⟨trivial, hk⟩)) hg hat); have n1_ := Aside0.mk (Kd.R_over' (re_ HO212.out) (Kd.R_typed (re_ HO_3.out)) (by decide) hg); have n2_ := Aside0.mk (hb); have n3_ := Aside0.mk ((show Kd.C (Kd.int .i64) w31 (some ad209) y205.length y205 from by rw [Ny205.out]; exact Kd.C_take (m := (x5_1 : Int).toNat) ((Kd.R_reads' (Kd.R_after (ok := (fun _ => True)) (by (with_reducible repeat (first | apply Kd.R_alloc | apply Kd.R_drewN | apply Kd.R_drew)); exact Kd.R_mono HO_4.out (fun _ hk => ⟨trivial, hk⟩)) hg hat)).2.2) KL28.out)); have n4_ := Aside0.mk (ho); clear HO_4; clear HO212; clear HB; clear HR208; clear HO_3; have HO_4 := n0_; have HO212 := n1_; have HB := n2_; have HR208 := n3_; have HO218 := n4_; clear n0_ n1_ n2_ n3_ n4_; clear ho hb hg hat))
                    go_roundg k1
                    case measure => have := HK1.out; omega
                    case rel => exact ⟨(y216), (wrap64 (x5_1 + 1)), (by first | rfl | (simp; done) | (simp [*]; done)), H', ⟨by have := HK1.out; omega⟩, ⟨re_ HO218.out⟩, ⟨by (with_reducible repeat (first | apply Kd.R_alloc | apply Kd.R_drewN | apply Kd.R_drew)); exact Kd.R_mono HO_4.out (fun _ hk => hk.2)⟩, ⟨bl_ HB.out⟩⟩
                 · rw [if_neg c25] at H
                   exact absurd H (by simp)
             · rw [if_neg c17] at H
               exact absurd H (by simp)
           · rw [if_neg c16] at H
             exact absurd H (by simp)
         · rw [if_neg c14] at H
           exact absurd H (by simp)
       · rw [if_neg c13] at H
         exact absurd H (by simp)
   · rw [if_neg c6] at H
     have c6b0 : decide (x5_1 < (t198.length : Int)) = false := decide_eq_false c6
     clear c6
     as_aux_lemma =>
      obtain rfl := Option.some.inj H
      obtain ⟨Ao32, co32, eo32⟩ := Kd.R_slice HO_4.out
      subst eo32
      go_wp2
      go_ret
      exact ⟨_, by first | rfl | (simp [errW_none, errW_some] <;> rfl) | (simp [*, errW_none, errW_some] <;> rfl), by (with_reducible repeat (first | apply Kd.R_alloc | apply Kd.R_drewN | apply Kd.R_drew)); exact Kd.R_mono HO_3.out (fun _ hk => trivial), bl_ HB.out⟩
end Go.Proofs.Ytapdhljbhekcdaa.PC
end
