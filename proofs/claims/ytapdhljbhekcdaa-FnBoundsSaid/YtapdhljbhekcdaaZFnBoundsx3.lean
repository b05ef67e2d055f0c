-- Bundled by shake.py from this session's printed and written texts; Lean checks it.
import Derived.Test.YtapdhljbhekcdaaZFnBoundsx1
import Derived.Test.YtapdhljbhekcdaaZFnBoundsx2
section
namespace Go.Proofs.Ytapdhljbhekcdaa.PB
open Go.RowKit Go.Proofs.YtapdhljbhekcdaaW.PrintWords Go.Proofs.YtapdhljbhekcdaaW.PrintLast Go.Proofs.YtapdhljbhekcdaaW.PrintMore
set_option linter.unusedVariables false
set_option linter.unusedSimpArgs false
mutual
def spec_SortList.l0 : Nat → List Int → List Int → Int → Option (List Int)
 | 0, _, _, _ => none
 | k + 1, x0, x3, x4 => if x4 < (x0.length : Int) then (spec_SortList.l1 k x0 x3 x4 (x3.length : Int)) else (some x3)
def spec_SortList.l1 : Nat → List Int → List Int → Int → Int → Option (List Int)
 | 0, _, _, _, _ => none
 | k + 1, x0, x3, x4, x5 => if x5 > 0 then (if 0 ≤ (wrap64 (x5 - 1)) then (if (wrap64 (x5 - 1)) < (x3.length : Int) then (if 0 ≤ x4 then (if x4 < (x0.length : Int) then (if (rd x3 (wrap64 (x5 - 1))) > (rd x0 x4) then (spec_SortList.l1 k x0 x3 x4 (wrap64 (x5 - 1))) else (if (rd x3 (wrap64 (x5 - 1))) = (rd x0 x4) then (spec_SortList.l0 k x0 x3 (wrap64 (x4 + 1))) else ((some (([] : List Int) : List Int)).bind fun y148 => (if 0 ≤ x5 then (if x5 ≤ (x3.length : Int) then ((some (x3.drop (x5 : Int).toNat : List Int)).bind fun y151 => (if y148.length + y151.length < 17592186044416 then ((some (y148 ++ y151 : List Int)).bind fun y155 => ((some (x3.take (x5 : Int).toNat : List Int)).bind fun y158 => (if y158.length < 17592186044416 then ((some (y158 ++ [rd x0 x4] : List Int)).bind fun y162 => (if y162.length + y155.length < 17592186044416 then (spec_SortList.l0 k x0 (y162 ++ y155) (wrap64 (x4 + 1))) else (none))) else (none)))) else (none))) else (none)) else (none))))) else (none)) else (none)) else (none)) else (none)) else ((some (([] : List Int) : List Int)).bind fun y168 => (if 0 ≤ x5 then (if x5 ≤ (x3.length : Int) then ((some (x3.drop (x5 : Int).toNat : List Int)).bind fun y171 => (if y168.length + y171.length < 17592186044416 then ((some (y168 ++ y171 : List Int)).bind fun y175 => ((some (x3.take (x5 : Int).toNat : List Int)).bind fun y178 => (if 0 ≤ x4 then (if x4 < (x0.length : Int) then (if y178.length < 17592186044416 then ((some (y178 ++ [rd x0 x4] : List Int)).bind fun y182 => (if y182.length + y175.length < 17592186044416 then (spec_SortList.l0 k x0 (y182 ++ y175) (wrap64 (x4 + 1))) else (none))) else (none)) else (none)) else (none)))) else (none))) else (none)) else (none)))
end
def spec_SortList.f (k : Nat) (l0 : List Int) : Option (List Int) := spec_SortList.l0 k l0 (([] : List Int)) 0
theorem spec_SortList.mono_l : ∀ k, (∀ y0 y1 y2, LeO (spec_SortList.l0 k y0 y1 y2) (spec_SortList.l0 (k + 1) y0 y1 y2)) ∧ (∀ y0 y1 y2 y3, LeO (spec_SortList.l1 k y0 y1 y2 y3) (spec_SortList.l1 (k + 1) y0 y1 y2 y3))
 | 0 => ⟨fun _ _ _ r h => by simp [spec_SortList.l0] at h, fun _ _ _ _ r h => by simp [spec_SortList.l1] at h⟩
 | k + 1 => by
  obtain ⟨ih0, ih1⟩ := spec_SortList.mono_l k
  refine ⟨?_, ?_⟩
  · intro y0 y1 y2
    unfold spec_SortList.l0
    repeat' first
    | (with_reducible exact ih0 _ _ _)
    | (with_reducible exact ih1 _ _ _ _)
    | (with_reducible exact LeO.refl _)
    | (with_reducible exact LeO.none _)
    | (with_reducible refine LeO.ite ?_ ?_)
    | (with_reducible refine LeO.bind ?_ (fun _ => ?_))
    | exact ih0 _ _ _
    | exact ih1 _ _ _ _
    | exact LeO.none _
    | refine LeO.ite ?_ ?_
    | refine LeO.bind ?_ (fun _ => ?_)
  · intro y0 y1 y2 y3
    unfold spec_SortList.l1
    repeat' first
    | (with_reducible exact ih0 _ _ _)
    | (with_reducible exact ih1 _ _ _ _)
    | (with_reducible exact LeO.refl _)
    | (with_reducible exact LeO.none _)
    | (with_reducible refine LeO.ite ?_ ?_)
    | (with_reducible refine LeO.bind ?_ (fun _ => ?_))
    | exact ih0 _ _ _
    | exact ih1 _ _ _ _
    | exact LeO.none _
    | refine LeO.ite ?_ ?_
    | refine LeO.bind ?_ (fun _ => ?_)
theorem spec_SortList.mono : ∀ a0 k, LeO (spec_SortList.f k a0) (spec_SortList.f (k + 1) a0) := by
 intro a0 k
 obtain ⟨ih0, ih1⟩ := spec_SortList.mono_l k
 unfold spec_SortList.f
 repeat' first
  | (with_reducible exact ih0 _ _ _)
  | (with_reducible exact ih1 _ _ _ _)
  | (with_reducible exact LeO.refl _)
  | (with_reducible exact LeO.none _)
  | (with_reducible refine LeO.ite ?_ ?_)
  | (with_reducible refine LeO.bind ?_ (fun _ => ?_))
  | exact ih0 _ _ _
  | exact ih1 _ _ _ _
  | exact LeO.none _
  | refine LeO.ite ?_ ?_
  | refine LeO.bind ?_ (fun _ => ?_)
def spec_SortList.T6 : Bool × List (List Nat × List Nat) := (true, [([], []), ([0], [0]), ([1], [1]), ([2], [2]), ([2], [2]), ([4, 2], [2, 4]), ([3, 5, 2], [2, 3, 5]), ([6, 2], [2, 6]), ([2], [2]), ([2], [2]), ([8, 9, 2], [2, 8, 9]), ([10, 2], [2, 10]), ([7, 11, 2], [2, 7, 11]), ([2, 12], [2, 12])])
def spec_SortList.B6 : List Nat := [0, 1, 3, 7, 7, 23, 63, 127, 7, 7, 775, 1799, 4095, 8191]
theorem spec_SortList.tab6 : rtab .any (opsOf Try.f109 6) = spec_SortList.T6 := by kernel_rfl
theorem spec_SortList.bits6 : waitsOk spec_SortList.T6.2 spec_SortList.B6 = true := by kernel_rfl
def spec_SortList.T8 : Bool × List (List Nat × List Nat) := (true, [([], []), ([0], [0]), ([1], [1]), ([2], [2]), ([2], [2]), ([4, 2], [2, 4]), ([3, 5, 2], [2, 3, 5]), ([6, 2], [2, 6]), ([2], [2]), ([2], [2]), ([8, 9, 2], [2, 8, 9]), ([10, 2], [2, 10]), ([7, 11, 2], [2, 7, 11]), ([2, 12], [2, 12])])
def spec_SortList.B8 : List Nat := [0, 1, 3, 7, 7, 23, 63, 127, 7, 7, 775, 1799, 4095, 8191]
theorem spec_SortList.tab8 : rtab .any (opsOf Try.f109 8) = spec_SortList.T8 := by kernel_rfl
theorem spec_SortList.bits8 : waitsOk spec_SortList.T8.2 spec_SortList.B8 = true := by kernel_rfl
def spec_SortList.T10 : Bool × List (List Nat × List Nat) := (true, [([], []), ([], []), ([0, 1], [0, 1]), ([], []), ([], []), ([3, 4], [3, 4]), ([5], [5]), ([6], [6]), ([2, 7], [2, 7]), ([], []), ([8, 9, 8], [8, 9]), ([10, 10, 0, 1, 2, 3, 4, 5, 6, 7, 8, 9, 10], [0, 10])])
def spec_SortList.B10 : List Nat := [0, 0, 3, 0, 0, 24, 56, 120, 255, 0, 1023, 2047]
theorem spec_SortList.tab10 : rtab .any (opsOf Try.f109 10) = spec_SortList.T10 := by kernel_rfl
theorem spec_SortList.bits10 : waitsOk spec_SortList.T10.2 spec_SortList.B10 = true := by kernel_rfl
set_option maxHeartbeats 8000000 in
set_option maxRecDepth 100000 in
theorem spec_SortList.calls (k : Nat) (A0 : Option Addr) (c0 : Nat) (l0 : List Int) (r : List Int) (w : World) (hr0 : Kd.C (Kd.int .i64) w A0 l0.length l0) (hc0 : l0.length ≤ c0) (h : spec_SortList.f k l0 = some r) :
 Calls Try.prog 109 #[.slice A0 l0.length c0] w fun e w' => ∃ v0_ : Value, e = .returned (v0_) ∧ Kd.R (Kd.int .i64) 3 w' w.heap.size (fun _ => True) v0_ r ∧ Below w.heap.size w w' := by
 have HR0 := Aside0.mk hr0
 have HC0 := Aside0.mk hc0
 clear hr0 hc0
 have HB := Aside0.mk (Below.refl w.heap.size w)
 have H : (spec_SortList.l0 k l0 (([] : List Int)) 0) = some r := h
 clear h
 obtain ⟨y141, hy141⟩ : ∃ y_ : List Int, y_ = (([] : List Int)) := ⟨_, rfl⟩
 replace H : (spec_SortList.l0 k l0 y141 0) = some r := by first | (rw [hy141]; with_reducible exact H) | (have H2_ := (Option.bind_some _ _).symm.trans H; rw [hy141]; with_reducible exact H2_) | (have H2_ := (Option.bind_some _ _).symm.trans H; with_reducible exact H2_) | with_reducible exact H | (rw [hy141]; exact H) | exact H
 have Ny141 := Aside0.mk hy141
 clear hy141
 have H' := Aside0.mk H
 clear H
 go_enter Try.func109, Try.ntmps109
 go_wp2_with (first | ((with_reducible refine gate_dst (N := 7) rfl ?_); refine Kd.R_lit (Kd.int .i64) _ 3 ?hg (N := 7) ?hd (xs := ([] : List Int)) (inner := []) (ok := fun _ => True) (okp := fun _ => True) ?hr ?hp (fun _ hk => hk) trivial (Below.refl _ _) (Nat.le_refl _) (by simp) ?_; (case hd => rfl); (case hg => rfl); (case hr => first | (go_simp; done) | (go_simp; rfl)); (case hp => exact (Reps.none _ _)); intro v142 w2 ho3 hb hg_ hnew_; clear hg_ hnew_; (first | rw [← Ny141.out] at ho3 | (simp only [Int.reduceToNat] at ho3; rw [← Ny141.out] at ho3)); have n0_ := Aside0.mk (Kd.R_lower ho3 (below_size (bl_ HB.out))); have n1_ := Aside0.mk (below_step (bl_ HB.out) hb); clear HB; have HO143 := n0_; have HB := n1_; clear n0_ n1_; clear hb ho3))
 go_loopg [3, 4] k (fun kq v3 v4 w' => ∃ (x3_1 : List Int) (x4_1 : Int), v4 = .int .i64 x4_1 ∧ Aside0 (spec_SortList.l0 kq l0 x3_1 x4_1 = some r) ∧ Aside0 (kq ≤ k) ∧ Aside0 (Kd.R (Kd.int .i64) 3 w' w.heap.size (fun _ => True) v3 x3_1) ∧ Aside0 (Below w.heap.size w w'))
 case atStart => exact ⟨(y141), (0), (by first | rfl | (simp; done) | (simp [*]; done)), H', ⟨Nat.le_refl _⟩, ⟨re_ HO143.out⟩, ⟨bl_ HB.out⟩⟩
 case round =>
  clear H'
  try clear c1
  try clear p2
  obtain ⟨x3_1, x4_1, rfl, HA, HK1, HO_3, HB⟩ := hrel
  cases gk with
  | zero => exact absurd HA.out (by simp [spec_SortList.l0])
  | succ k1 =>
   have H := HA.out
   clear HA
   simp only [spec_SortList.l0] at H
   by_cases c4 : x4_1 < (l0.length : Int)
   · rw [if_pos c4] at H
     have c4b0 : decide (x4_1 < (l0.length : Int)) = true := decide_eq_true c4
     clear c4
     have H' := Aside0.mk H
     clear H
     obtain ⟨Ao5, co5, eo5⟩ := Kd.R_slice HO_3.out
     subst eo5
     go_wp2
     go_loopg [5] k1 (fun kq v5 w' => ∃ (x5_2 : Int), v5 = .int .i64 x5_2 ∧ Aside0 (spec_SortList.l1 kq l0 x3_1 x4_1 x5_2 = some r) ∧ Aside0 (kq ≤ k1) ∧ Aside0 (Kd.R (Kd.int .i64) 3 w' w.heap.size (fun _ => True) (.slice Ao5 x3_1.length co5) x3_1) ∧ Aside0 (Below w.heap.size w w'))
     case atStart => exact ⟨((x3_1.length : Int)), (by first | rfl | (simp; done) | (simp [*]; done)), H', ⟨Nat.le_refl _⟩, ⟨re_ HO_3.out⟩, ⟨bl_ HB.out⟩⟩
     case round =>
      clear H'
      try clear c1
      try clear p2
      try clear c4
      try clear c4b0
      try clear p2
      obtain ⟨x5_2, rfl, HA, HK2, HO_3, HB⟩ := hrel
      cases gk with
      | zero => exact absurd HA.out (by simp [spec_SortList.l1])
      | succ k2 =>
       have H := HA.out
       clear HA
       simp only [spec_SortList.l1] at H
       by_cases c6 : x5_2 > 0
       · rw [if_pos c6] at H
         have c6b0 : decide (0 < x5_2) = true := decide_eq_true c6
         clear c6
         obtain ⟨ji7, hji7⟩ : ∃ j_ : Int, (wrap64 (x5_2 - 1)) = j_ := ⟨_, rfl⟩
         replace H : (if 0 ≤ (ji7) then (if (ji7) < (x3_1.length : Int) then (if 0 ≤ x4_1 then (if x4_1 < (l0.length : Int) then (if (rd x3_1 (ji7)) > (rd l0 x4_1) then (spec_SortList.l1 k2 l0 x3_1 x4_1 ji7) else (if (rd x3_1 (ji7)) = (rd l0 x4_1) then (spec_SortList.l0 k2 l0 x3_1 (wrap64 (x4_1 + 1))) else ((some (([] : List Int) : List Int)).bind fun y148 => (if 0 ≤ x5_2 then (if x5_2 ≤ (x3_1.length : Int) then ((some (x3_1.drop (x5_2 : Int).toNat : List Int)).bind fun y151 => (if y148.length + y151.length < 17592186044416 then ((some (y148 ++ y151 : List Int)).bind fun y155 => ((some (x3_1.take (x5_2 : Int).toNat : List Int)).bind fun y158 => (if y158.length < 17592186044416 then ((some (y158 ++ [rd l0 x4_1] : List Int)).bind fun y162 => (if y162.length + y155.length < 17592186044416 then (spec_SortList.l0 k2 l0 (y162 ++ y155) (wrap64 (x4_1 + 1))) else (none))) else (none)))) else (none))) else (none)) else (none))))) else (none)) else (none)) else (none)) else (none)) = some r := by first | (rw [hji7] at H; exact H) | (simp only [hji7] at H ⊢; exact H)
         have hji7w : (IntKind.i64.wrap (x5_2 - 1)) = ji7 := (i64_w _).trans hji7
         by_cases c8 : 0 ≤ (ji7)
         · rw [if_pos c8] at H
           have c8b0 : decide (0 ≤ (ji7)) = true := decide_eq_true c8
           clear c8
           by_cases c9 : (ji7) < (x3_1.length : Int)
           · rw [if_pos c9] at H
             have c9b0 : decide ((ji7) < (x3_1.length : Int)) = true := decide_eq_true c9
             clear c9
             by_cases c10 : 0 ≤ x4_1
             · rw [if_pos c10] at H
               have c10b0 : decide (0 ≤ x4_1) = true := decide_eq_true c10
               clear c10
               by_cases c11 : x4_1 < (l0.length : Int)
               · rw [if_pos c11] at H
                 have c11b0 : decide (x4_1 < (l0.length : Int)) = true := decide_eq_true c11
                 clear c11
                 by_cases c12 : (rd x3_1 (ji7)) > (rd l0 x4_1)
                 · rw [if_pos c12] at H
                   have c12b0 : decide ((rd l0 x4_1) < (rd x3_1 (ji7))) = true := decide_eq_true c12
                   clear c12
                   have H' := Aside0.mk H
                   clear H
                   try go_wp2
                   have n0_ := Aside0.mk (Kd.R_drew HO_3.out)
                   have n1_ := Aside0.mk (below_drew1 HB.out)
                   clear HO_3
                   clear HB
                   have HO_3 := n0_
                   have HB := n1_
                   clear n0_ n1_
                   have p144 : 0 ≤ ((ji7) : Int) := of_decide_eq_true (by first | (with_reducible assumption) | assumption)
                   have q144 : (ji7) < (x3_1.length : Int) := of_decide_eq_true (by first | (with_reducible assumption) | assumption)
                   obtain ⟨ad144, e144, hx144_0⟩ := Kd.at_int (Kd.R_reads' HO_3.out).2.2 (ji7) p144 q144
                   cases e144
                   replace p144 := eq_true p144
                   replace q144 := eq_true q144
                   have p145 : 0 ≤ (x4_1 : Int) := of_decide_eq_true (by first | (with_reducible assumption) | assumption)
                   have q145 : x4_1 < (l0.length : Int) := of_decide_eq_true (by first | (with_reducible assumption) | assumption)
                   obtain ⟨ad145, e145, hx145_0⟩ := Kd.at_int HR0.out x4_1 p145 q145
                   have hw145_0 := hx145_0
                   cases e145
                   (try replace hx145_0 := (HB.out.cell (World.block_lt_of_cell? w _ hx145_0)).trans hx145_0)
                   replace p145 := eq_true p145
                   replace q145 := eq_true q145
                   refine start_ (n := 14) (S := fun w' => w'.cell? (ad144.add ((ji7)).toNat) = some (.int .i64 (rd x3_1 (ji7))) ∧ w'.cell? (ad145.add (x4_1).toNat) = some (.int .i64 (rd l0 x4_1))) (ds := []) (B_ 0 14) (by kernel_rfl) rfl rfl ⟨hx144_0, ((HB.out.cell (World.block_lt_of_cell? w _ hw145_0)).trans hw145_0)⟩ (fun hHeld => ?_); refine with_tabW spec_SortList.tab6 spec_SortList.bits6 (fun HT_ HW_ => ?_)
                   generalize wr.drew = w13 at HO_3 HB hx144_0 hx145_0 hHeld ⊢
                   refine pu_ HT_ 0 16 (B_ 1 14) ?_
                   refine pu_ HT_ 1 17 (B_ 3 14) ?_
                   refine pu_ HT_ 2 18 (B_ 7 14) ?_
                   refine pu_ HT_ 3 19 (B_ 15 14) ?_
                   refine pu_ HT_ 4 20 (B_ 31 14) ?_
                   refine pu_ HT_ 5 21 (B_ 63 14) ?_
                   refine pu_ HT_ 6 22 (B_ 127 14) ?_
                   refine pu_ HT_ 8 24 (B_ 383 14) ?_
                   refine pu_ HT_ 9 25 (B_ 895 14) ?_
                   refine pu_ HT_ 10 26 (B_ 1919 14) ?_
                   refine tk2_ HT_ HW_ hHeld 7 23 (B_ 2047 14) ?_
                   refine tk2_ HT_ HW_ hHeld 11 27 (B_ 4095 14) ?_
                   refine pu_ HT_ 12 28 (B_ 8191 14) ?_
                   refine pu_ HT_ 13 29 (B_ 16383 14) ?_
                   refine done_ (done_of HT_.out (by kernel_rfl)) ?_
                   try go_wp2
                   go_roundg k2
                   case measure => have := HK1.out; have := HK2.out; omega
                   case rel => exact ⟨(ji7), (by first | rfl | (simp; done) | (simp only [← hji7] <;> (first | rfl | simp)) | (simp [*]; done)), H', ⟨by have := HK1.out; have := HK2.out; omega⟩, ⟨re_ HO_3.out⟩, ⟨bl_ HB.out⟩⟩
                 · rw [if_neg c12] at H
                   have c12b0 : decide ((rd l0 x4_1) < (rd x3_1 (ji7))) = false := decide_eq_false c12
                   clear c12
                   by_cases c14 : (rd x3_1 (ji7)) = (rd l0 x4_1)
                   · rw [if_pos c14] at H
                     have c14b0 : ((rd x3_1 (ji7)) == (rd l0 x4_1)) = true := beq_iff_eq.mpr c14
                     have c14b1 : ((rd x3_1 (ji7)) != (rd l0 x4_1)) = false := bne_eq_false_iff_eq.mpr c14
                     clear c14
                     have H' := Aside0.mk H
                     clear H
                     try go_wp2
                     have n0_ := Aside0.mk (Kd.R_drew HO_3.out)
                     have n1_ := Aside0.mk (below_drew1 HB.out)
                     clear HO_3
                     clear HB
                     have HO_3 := n0_
                     have HB := n1_
                     clear n0_ n1_
                     have p144 : 0 ≤ ((ji7) : Int) := of_decide_eq_true (by first | (with_reducible assumption) | assumption)
                     have q144 : (ji7) < (x3_1.length : Int) := of_decide_eq_true (by first | (with_reducible assumption) | assumption)
                     obtain ⟨ad144, e144, hx144_0⟩ := Kd.at_int (Kd.R_reads' HO_3.out).2.2 (ji7) p144 q144
                     cases e144
                     replace p144 := eq_true p144
                     replace q144 := eq_true q144
                     have p145 : 0 ≤ (x4_1 : Int) := of_decide_eq_true (by first | (with_reducible assumption) | assumption)
                     have q145 : x4_1 < (l0.length : Int) := of_decide_eq_true (by first | (with_reducible assumption) | assumption)
                     obtain ⟨ad145, e145, hx145_0⟩ := Kd.at_int HR0.out x4_1 p145 q145
                     have hw145_0 := hx145_0
                     cases e145
                     (try replace hx145_0 := (HB.out.cell (World.block_lt_of_cell? w _ hx145_0)).trans hx145_0)
                     replace p145 := eq_true p145
                     replace q145 := eq_true q145
                     refine start_ (n := 14) (S := fun w' => w'.cell? (ad144.add ((ji7)).toNat) = some (.int .i64 (rd x3_1 (ji7))) ∧ w'.cell? (ad145.add (x4_1).toNat) = some (.int .i64 (rd l0 x4_1))) (ds := []) (B_ 0 14) (by kernel_rfl) rfl rfl ⟨hx144_0, ((HB.out.cell (World.block_lt_of_cell? w _ hw145_0)).trans hw145_0)⟩ (fun hHeld => ?_); refine with_tabW spec_SortList.tab6 spec_SortList.bits6 (fun HT_ HW_ => ?_)
                     generalize wr.drew = w15 at HO_3 HB hx144_0 hx145_0 hHeld ⊢
                     refine pu_ HT_ 0 16 (B_ 1 14) ?_
                     refine pu_ HT_ 1 17 (B_ 3 14) ?_
                     refine pu_ HT_ 2 18 (B_ 7 14) ?_
                     refine pu_ HT_ 3 19 (B_ 15 14) ?_
                     refine pu_ HT_ 4 20 (B_ 31 14) ?_
                     refine pu_ HT_ 5 21 (B_ 63 14) ?_
                     refine pu_ HT_ 6 22 (B_ 127 14) ?_
                     refine pu_ HT_ 8 24 (B_ 383 14) ?_
                     refine pu_ HT_ 9 25 (B_ 895 14) ?_
                     refine pu_ HT_ 10 26 (B_ 1919 14) ?_
                     refine tk2_ HT_ HW_ hHeld 7 23 (B_ 2047 14) ?_
                     refine tk2_ HT_ HW_ hHeld 11 27 (B_ 4095 14) ?_
                     refine pu_ HT_ 12 28 (B_ 8191 14) ?_
                     refine pu_ HT_ 13 29 (B_ 16383 14) ?_
                     refine done_ (done_of HT_.out (by kernel_rfl)) ?_
                     try go_wp2
                     have n0_ := Aside0.mk (Kd.R_drew HO_3.out)
                     have n1_ := Aside0.mk (below_drew1 HB.out)
                     clear HO_3
                     clear HB
                     have HO_3 := n0_
                     have HB := n1_
                     clear n0_ n1_
                     have p146 : 0 ≤ ((ji7) : Int) := of_decide_eq_true (by first | (with_reducible assumption) | assumption)
                     have q146 : (ji7) < (x3_1.length : Int) := of_decide_eq_true (by first | (with_reducible assumption) | assumption)
                     obtain ⟨ad146, e146, hx146_0⟩ := Kd.at_int (Kd.R_reads' HO_3.out).2.2 (ji7) p146 q146
                     obtain rfl : ad144 = ad146 := (by injection e146)
                     replace p146 := eq_true p146
                     replace q146 := eq_true q146
                     have p147 : 0 ≤ (x4_1 : Int) := of_decide_eq_true (by first | (with_reducible assumption) | assumption)
                     have q147 : x4_1 < (l0.length : Int) := of_decide_eq_true (by first | (with_reducible assumption) | assumption)
                     obtain ⟨ad147, e147, hx147_0⟩ := Kd.at_int HR0.out x4_1 p147 q147
                     have hw147_0 := hx147_0
                     obtain rfl : ad145 = ad147 := (by injection e147)
                     (try replace hx147_0 := (HB.out.cell (World.block_lt_of_cell? w _ hx147_0)).trans hx147_0)
                     replace p147 := eq_true p147
                     replace q147 := eq_true q147
                     refine start_ (n := 14) (S := fun w' => w'.cell? (ad144.add ((ji7)).toNat) = some (.int .i64 (rd x3_1 (ji7))) ∧ w'.cell? (ad145.add (x4_1).toNat) = some (.int .i64 (rd l0 x4_1))) (ds := []) (B_ 0 14) (by kernel_rfl) rfl rfl ⟨hx146_0, ((HB.out.cell (World.block_lt_of_cell? w _ hw147_0)).trans hw147_0)⟩ (fun hHeld => ?_); refine with_tabW spec_SortList.tab8 spec_SortList.bits8 (fun HT_ HW_ => ?_)
                     generalize w15.drew = w16 at HO_3 HB hx146_0 hx147_0 hHeld ⊢
                     refine pu_ HT_ 0 32 (B_ 1 14) ?_
                     refine pu_ HT_ 1 33 (B_ 3 14) ?_
                     refine pu_ HT_ 2 34 (B_ 7 14) ?_
                     refine pu_ HT_ 3 35 (B_ 15 14) ?_
                     refine pu_ HT_ 4 36 (B_ 31 14) ?_
                     refine pu_ HT_ 5 37 (B_ 63 14) ?_
                     refine pu_ HT_ 6 38 (B_ 127 14) ?_
                     refine pu_ HT_ 8 40 (B_ 383 14) ?_
                     refine pu_ HT_ 9 41 (B_ 895 14) ?_
                     refine pu_ HT_ 10 42 (B_ 1919 14) ?_
                     refine tk2_ HT_ HW_ hHeld 7 39 (B_ 2047 14) ?_
                     refine tk2_ HT_ HW_ hHeld 11 43 (B_ 4095 14) ?_
                     refine pu_ HT_ 12 44 (B_ 8191 14) ?_
                     refine pu_ HT_ 13 45 (B_ 16383 14) ?_
                     refine done_ (done_of HT_.out (by kernel_rfl)) ?_
                     try go_wp2
                     go_roundg k2
                     case measure => have := HK1.out; have := HK2.out; omega
                     case rel => exact ⟨(x3_1), (wrap64 (x4_1 + 1)), (by first | rfl | (simp; done) | (simp [*]; done)), H', ⟨by have := HK1.out; have := HK2.out; omega⟩, ⟨re_ HO_3.out⟩, ⟨bl_ HB.out⟩⟩
                   · rw [if_neg c14] at H
                     have c14b0 : ((rd x3_1 (ji7)) == (rd l0 x4_1)) = false := beq_eq_false_iff_ne.mpr c14
                     have c14b1 : ((rd x3_1 (ji7)) != (rd l0 x4_1)) = true := bne_iff_ne.mpr c14
                     obtain ⟨y148, hy148⟩ : ∃ y_ : List Int, y_ = (([] : List Int)) := ⟨_, rfl⟩
                     replace H : (if 0 ≤ x5_2 then (if x5_2 ≤ (x3_1.length : Int) then ((some (x3_1.drop (x5_2 : Int).toNat : List Int)).bind fun y151 => (if y148.length + y151.length < 17592186044416 then ((some (y148 ++ y151 : List Int)).bind fun y155 => ((some (x3_1.take (x5_2 : Int).toNat : List Int)).bind fun y158 => (if y158.length < 17592186044416 then ((some (y158 ++ [rd l0 x4_1] : List Int)).bind fun y162 => (if y162.length + y155.length < 17592186044416 then (spec_SortList.l0 k2 l0 (y162 ++ y155) (wrap64 (x4_1 + 1))) else (none))) else (none)))) else (none))) else (none)) else (none)) = some r := by first | (rw [hy148]; with_reducible exact H) | (have H2_ := (Option.bind_some _ _).symm.trans H; rw [hy148]; with_reducible exact H2_) | (have H2_ := (Option.bind_some _ _).symm.trans H; with_reducible exact H2_) | with_reducible exact H | (rw [hy148]; exact H) | exact H
                     have Ny148 := Aside0.mk hy148
                     clear hy148
                     by_cases c17 : 0 ≤ x5_2
                     · rw [if_pos c17] at H
                       have c17b0 := eq_true c17
                       have c17b1 : decide (0 ≤ x5_2) = true := decide_eq_true c17
                       clear c17
                       by_cases c18 : x5_2 ≤ (x3_1.length : Int)
                       · rw [if_pos c18] at H
                         have c18b0 := eq_true c18
                         have c18b1 : decide (x5_2 ≤ (x3_1.length : Int)) = true := decide_eq_true c18
                         clear c18
                         obtain ⟨y151, hy151⟩ : ∃ y_ : List Int, y_ = (x3_1.drop (x5_2 : Int).toNat) := ⟨_, rfl⟩
                         replace H : (if y148.length + y151.length < 17592186044416 then ((some (y148 ++ y151 : List Int)).bind fun y155 => ((some (x3_1.take (x5_2 : Int).toNat : List Int)).bind fun y158 => (if y158.length < 17592186044416 then ((some (y158 ++ [rd l0 x4_1] : List Int)).bind fun y162 => (if y162.length + y155.length < 17592186044416 then (spec_SortList.l0 k2 l0 (y162 ++ y155) (wrap64 (x4_1 + 1))) else (none))) else (none)))) else (none)) = some r := by first | (rw [hy151]; with_reducible exact H) | (have H2_ := (Option.bind_some _ _).symm.trans H; rw [hy151]; with_reducible exact H2_) | (have H2_ := (Option.bind_some _ _).symm.trans H; with_reducible exact H2_) | with_reducible exact H | (rw [hy151]; exact H) | exact H
                         have Ny151 := Aside0.mk hy151
                         clear hy151
                         by_cases c19 : y148.length + y151.length < 17592186044416
                         · rw [if_pos c19] at H
                           have LMc19 := Aside0.mk c19
                           clear c19
                           obtain ⟨y155, hy155⟩ : ∃ y_ : List Int, y_ = (y148 ++ y151) := ⟨_, rfl⟩
                           replace H : ((some (x3_1.take (x5_2 : Int).toNat : List Int)).bind fun y158 => (if y158.length < 17592186044416 then ((some (y158 ++ [rd l0 x4_1] : List Int)).bind fun y162 => (if y162.length + y155.length < 17592186044416 then (spec_SortList.l0 k2 l0 (y162 ++ y155) (wrap64 (x4_1 + 1))) else (none))) else (none))) = some r := by first | (rw [hy155]; with_reducible exact H) | (have H2_ := (Option.bind_some _ _).symm.trans H; rw [hy155]; with_reducible exact H2_) | (have H2_ := (Option.bind_some _ _).symm.trans H; with_reducible exact H2_) | with_reducible exact H | (rw [hy155]; exact H) | exact H
                           have Ny155 := Aside0.mk hy155
                           clear hy155
                           have c20b0 := eq_true (of_decide_eq_true (by first | (with_reducible assumption) | assumption) : x5_2 ≤ (x3_1.length : Int))
                           obtain ⟨y158, hy158⟩ : ∃ y_ : List Int, y_ = (x3_1.take (x5_2 : Int).toNat) := ⟨_, rfl⟩
                           replace H : (if y158.length < 17592186044416 then ((some (y158 ++ [rd l0 x4_1] : List Int)).bind fun y162 => (if y162.length + y155.length < 17592186044416 then (spec_SortList.l0 k2 l0 (y162 ++ y155) (wrap64 (x4_1 + 1))) else (none))) else (none)) = some r := by first | (rw [hy158]; with_reducible exact H) | (have H2_ := (Option.bind_some _ _).symm.trans H; rw [hy158]; with_reducible exact H2_) | (have H2_ := (Option.bind_some _ _).symm.trans H; with_reducible exact H2_) | with_reducible exact H | (rw [hy158]; exact H) | exact H
                           have Ny158 := Aside0.mk hy158
                           clear hy158
                           by_cases c21 : y158.length < 17592186044416
                           · rw [if_pos c21] at H
                             have LMc21 := Aside0.mk c21
                             clear c21
                             obtain ⟨y162, hy162⟩ : ∃ y_ : List Int, y_ = (y158 ++ [rd l0 x4_1]) := ⟨_, rfl⟩
                             replace H : (if y162.length + y155.length < 17592186044416 then (spec_SortList.l0 k2 l0 (y162 ++ y155) (wrap64 (x4_1 + 1))) else (none)) = some r := by first | (rw [hy162]; with_reducible exact H) | (have H2_ := (Option.bind_some _ _).symm.trans H; rw [hy162]; with_reducible exact H2_) | (have H2_ := (Option.bind_some _ _).symm.trans H; with_reducible exact H2_) | with_reducible exact H | (rw [hy162]; exact H) | exact H
                             have Ny162 := Aside0.mk hy162
                             clear hy162
                             by_cases c22 : y162.length + y155.length < 17592186044416
                             · rw [if_pos c22] at H
                               have LMc22 := Aside0.mk c22
                               clear c22
                               obtain ⟨y165, hy165⟩ : ∃ y_ : List Int, y_ = (y162 ++ y155) := ⟨_, rfl⟩
                               replace H : (spec_SortList.l0 k2 l0 y165 (wrap64 (x4_1 + 1))) = some r := by first | (rw [hy165]; with_reducible exact H) | (have H2_ := (Option.bind_some _ _).symm.trans H; rw [hy165]; with_reducible exact H2_) | (have H2_ := (Option.bind_some _ _).symm.trans H; with_reducible exact H2_) | with_reducible exact H | (rw [hy165]; exact H) | exact H
                               have Ny165 := Aside0.mk hy165
                               clear hy165
                               have H' := Aside0.mk H
                               clear H
                               try go_wp2
                               have n0_ := Aside0.mk (Kd.R_drew HO_3.out)
                               have n1_ := Aside0.mk (below_drew1 HB.out)
                               clear HO_3
                               clear HB
                               have HO_3 := n0_
                               have HB := n1_
                               clear n0_ n1_
                               have p144 : 0 ≤ ((ji7) : Int) := of_decide_eq_true (by first | (with_reducible assumption) | assumption)
                               have q144 : (ji7) < (x3_1.length : Int) := of_decide_eq_true (by first | (with_reducible assumption) | assumption)
                               obtain ⟨ad144, e144, hx144_0⟩ := Kd.at_int (Kd.R_reads' HO_3.out).2.2 (ji7) p144 q144
                               cases e144
                               replace p144 := eq_true p144
                               replace q144 := eq_true q144
                               have p145 : 0 ≤ (x4_1 : Int) := of_decide_eq_true (by first | (with_reducible assumption) | assumption)
                               have q145 : x4_1 < (l0.length : Int) := of_decide_eq_true (by first | (with_reducible assumption) | assumption)
                               obtain ⟨ad145, e145, hx145_0⟩ := Kd.at_int HR0.out x4_1 p145 q145
                               have hw145_0 := hx145_0
                               cases e145
                               (try replace hx145_0 := (HB.out.cell (World.block_lt_of_cell? w _ hx145_0)).trans hx145_0)
                               replace p145 := eq_true p145
                               replace q145 := eq_true q145
                               refine start_ (n := 14) (S := fun w' => w'.cell? (ad144.add ((ji7)).toNat) = some (.int .i64 (rd x3_1 (ji7))) ∧ w'.cell? (ad145.add (x4_1).toNat) = some (.int .i64 (rd l0 x4_1))) (ds := []) (B_ 0 14) (by kernel_rfl) rfl rfl ⟨hx144_0, ((HB.out.cell (World.block_lt_of_cell? w _ hw145_0)).trans hw145_0)⟩ (fun hHeld => ?_); refine with_tabW spec_SortList.tab6 spec_SortList.bits6 (fun HT_ HW_ => ?_)
                               generalize wr.drew = w23 at HO_3 HB hx144_0 hx145_0 hHeld ⊢
                               refine pu_ HT_ 0 16 (B_ 1 14) ?_
                               refine pu_ HT_ 1 17 (B_ 3 14) ?_
                               refine pu_ HT_ 2 18 (B_ 7 14) ?_
                               refine pu_ HT_ 3 19 (B_ 15 14) ?_
                               refine pu_ HT_ 4 20 (B_ 31 14) ?_
                               refine pu_ HT_ 5 21 (B_ 63 14) ?_
                               refine pu_ HT_ 6 22 (B_ 127 14) ?_
                               refine pu_ HT_ 8 24 (B_ 383 14) ?_
                               refine pu_ HT_ 9 25 (B_ 895 14) ?_
                               refine pu_ HT_ 10 26 (B_ 1919 14) ?_
                               refine tk2_ HT_ HW_ hHeld 7 23 (B_ 2047 14) ?_
                               refine tk2_ HT_ HW_ hHeld 11 27 (B_ 4095 14) ?_
                               refine pu_ HT_ 12 28 (B_ 8191 14) ?_
                               refine pu_ HT_ 13 29 (B_ 16383 14) ?_
                               refine done_ (done_of HT_.out (by kernel_rfl)) ?_
                               try go_wp2
                               have n0_ := Aside0.mk (Kd.R_drew HO_3.out)
                               have n1_ := Aside0.mk (below_drew1 HB.out)
                               clear HO_3
                               clear HB
                               have HO_3 := n0_
                               have HB := n1_
                               clear n0_ n1_
                               have p146 : 0 ≤ ((ji7) : Int) := of_decide_eq_true (by first | (with_reducible assumption) | assumption)
                               have q146 : (ji7) < (x3_1.length : Int) := of_decide_eq_true (by first | (with_reducible assumption) | assumption)
                               obtain ⟨ad146, e146, hx146_0⟩ := Kd.at_int (Kd.R_reads' HO_3.out).2.2 (ji7) p146 q146
                               obtain rfl : ad144 = ad146 := (by injection e146)
                               replace p146 := eq_true p146
                               replace q146 := eq_true q146
                               have p147 : 0 ≤ (x4_1 : Int) := of_decide_eq_true (by first | (with_reducible assumption) | assumption)
                               have q147 : x4_1 < (l0.length : Int) := of_decide_eq_true (by first | (with_reducible assumption) | assumption)
                               obtain ⟨ad147, e147, hx147_0⟩ := Kd.at_int HR0.out x4_1 p147 q147
                               have hw147_0 := hx147_0
                               obtain rfl : ad145 = ad147 := (by injection e147)
                               (try replace hx147_0 := (HB.out.cell (World.block_lt_of_cell? w _ hx147_0)).trans hx147_0)
                               replace p147 := eq_true p147
                               replace q147 := eq_true q147
                               refine start_ (n := 14) (S := fun w' => w'.cell? (ad144.add ((ji7)).toNat) = some (.int .i64 (rd x3_1 (ji7))) ∧ w'.cell? (ad145.add (x4_1).toNat) = some (.int .i64 (rd l0 x4_1))) (ds := []) (B_ 0 14) (by kernel_rfl) rfl rfl ⟨hx146_0, ((HB.out.cell (World.block_lt_of_cell? w _ hw147_0)).trans hw147_0)⟩ (fun hHeld => ?_); refine with_tabW spec_SortList.tab8 spec_SortList.bits8 (fun HT_ HW_ => ?_)
                               generalize w23.drew = w24 at HO_3 HB hx146_0 hx147_0 hHeld ⊢
                               refine pu_ HT_ 0 32 (B_ 1 14) ?_
                               refine pu_ HT_ 1 33 (B_ 3 14) ?_
                               refine pu_ HT_ 2 34 (B_ 7 14) ?_
                               refine pu_ HT_ 3 35 (B_ 15 14) ?_
                               refine pu_ HT_ 4 36 (B_ 31 14) ?_
                               refine pu_ HT_ 5 37 (B_ 63 14) ?_
                               refine pu_ HT_ 6 38 (B_ 127 14) ?_
                               refine pu_ HT_ 8 40 (B_ 383 14) ?_
                               refine pu_ HT_ 9 41 (B_ 895 14) ?_
                               refine pu_ HT_ 10 42 (B_ 1919 14) ?_
                               refine tk2_ HT_ HW_ hHeld 7 39 (B_ 2047 14) ?_
                               refine tk2_ HT_ HW_ hHeld 11 43 (B_ 4095 14) ?_
                               refine pu_ HT_ 12 44 (B_ 8191 14) ?_
                               refine pu_ HT_ 13 45 (B_ 16383 14) ?_
                               refine done_ (done_of HT_.out (by kernel_rfl)) ?_
                               try go_wp2_with (first | ((with_reducible refine gate_dst (N := 46) rfl ?_); refine Kd.R_lit (Kd.int .i64) _ 3 ?hg (N := 46) ?hd (xs := ([] : List Int)) (inner := []) (ok := fun _ => True) (okp := fun _ => True) ?hr ?hp (fun _ hk => hk) trivial (Below.refl _ _) (Nat.le_refl _) (by simp) ?_; (case hd => rfl); (case hg => rfl); (case hr => first | (go_simp; done) | (go_simp; rfl)); (case hp => exact (Reps.none _ _)); intro v149 w25 ho26 hb hg_ hnew_; clear hg_ hnew_; (first | rw [← Ny148.out] at ho26 | (simp only [Int.reduceToNat] at ho26; rw [← Ny148.out] at ho26)); have n0_ := Aside0.mk (Kd.R_elder' (re_ HO_3.out) (Kd.R_base ho26) hb); have n1_ := Aside0.mk (Kd.R_lower (Kd.R_new' ho26 (Kd.R_lt (re_ HO_3.out))) (below_size (bl_ HB.out))); have n2_ := Aside0.mk (below_step (bl_ HB.out) hb); clear HO_3; clear HB; have HO_3 := n0_; have HO150 := n1_; have HB := n2_; clear n0_ n1_ n2_; clear hb ho26; have q27 : (x5_2 : Int) ≤ ((x3_1.length : Int) : Int) := of_decide_eq_true (by first | (with_reducible assumption) | assumption); obtain ⟨i027, hi027, _, hsz27, _⟩ := info_parts info3; have hroom27 : x3_1.length ≤ co5 := (Kd.R_reads' HO_3.out).2.1; have hC27 : Kd.C (Kd.int .i64) _ (some ad144) x3_1.length x3_1 := (Kd.R_reads' HO_3.out).2.2; have q027 : (0 : Int) ≤ (x5_2 : Int) := of_decide_eq_true (by first | (with_reducible assumption) | assumption); have hcut27 := cut_from (P := Try.prog) 22 3 .i64 Try.underlying22 hi027 1 hsz27 (some ad144) x3_1.length co5 x5_2 q027 q27; have hr27 := Kd.C_drop (m := (x5_2 : Int).toNat) (c := co5) hC27 (by omega) hroom27; obtain ⟨A27, hA27⟩ : ∃ A1, A1 = (if co5 = (x5_2 : Int).toNat then (some ad144) else ((some ad144) : Option Addr).map (·.add ((x5_2 : Int).toNat * 1))) := ⟨_, rfl⟩; obtain ⟨c27, hc27⟩ : ∃ c1, c1 = co5 - (x5_2 : Int).toNat := ⟨_, rfl⟩; have hy27 : y151.length = x3_1.length - (x5_2 : Int).toNat := (by rw [Ny151.out, List.length_drop] <;> omega); rw [show (x3_1).drop (x5_2 : Int).toNat = y151 from Ny151.out.symm] at hr27; replace hr27 : Kd.C (Kd.int .i64) _ A27 y151.length y151 := (by rw [hA27]; exact hr27); rw [← hy27, ← hA27, ← hc27] at hcut27; have HR154 := Aside0.mk hr27; have HC154 := Aside0.mk (show y151.length ≤ c27 from by rw [hy27, hc27]; exact Nat.sub_le_sub_right hroom27 _); clear hr27 hC27 hroom27 hi027 hsz27 hc27; have KY27 := Aside0.mk hy27; have KA27 := Aside0.mk hA27; clear hy27 hA27; have KL27 := Aside0.mk (show (x5_2 : Int).toNat ≤ x3_1.length from by omega); replace q27 := eq_true q27) | ((with_reducible refine gate_builtin (b := .append) (xs := #[.tmp 46, .tmp 49]) rfl ?_); at_builtin; refine Kd.R_append_rows (Kd.int .i64) (w0 := w) w.heap.size rfl (.tmp 46) (.tmp 49) 22 3 (.int .i64 0) 8 rfl Try.underlying22 info3 rfl (by decide) (by omega) v149 y148 y151 _ _ _ (fun k_ => some k_ ≠ (.slice (some ad144) x3_1.length co5 : Value).ownBlock) (fun _ => False) rfl rfl ?aO ?aR (fun _ _ h => h) (fun _ h => h.elim) ?aF ?aB ?aS ?aL ?_; (case aR => repeat (first | exact (by repeat (first | (with_reducible exact HR154.out) | (with_reducible refine Kd.C_alloc ?_ _) | (with_reducible refine Kd.C_drewN ?_ _) | (with_reducible refine Kd.C_drew ?_) | exact HR154.out)) | (with_reducible refine Kd.C_alloc ?_ _) | (with_reducible refine Kd.C_drewN ?_ _) | (with_reducible refine Kd.C_drew ?_))); (case aB => exact (bl_ HB.out)); (case aF => exact (fun k_ hk => Kd.fresh' (Kd.R_lt (re_ HO_3.out)) k_ hk)); (case aO => exact (by (with_reducible repeat (first | apply Kd.R_alloc | apply Kd.R_drewN | apply Kd.R_drew)); exact Kd.R_mono HO150.out (fun _ hk => hk.2))); (case aS => exact (below_size (bl_ HB.out))); (case aL => have := LMc19.out; omega); intro v156 w28 ho hb hg hat; rw [← Ny155.out] at ho; have n0_ := Aside0.mk (Kd.R_after (ok := (fun _ => True)) (re_ HO_3.out) hg hat); have n1_ := Aside0.mk (hb); have n2_ := Aside0.mk ((show Kd.C (Kd.int .i64) w28 A27 y151.length y151 from by rw [Ny151.out, KA27.out]; exact Kd.C_drop (m := (x5_2 : Int).toNat) (c := co5) ((Kd.R_reads' (Kd.R_after (ok := (fun _ => True)) (re_ HO_3.out) hg hat)).2.2) KL27.out ((Kd.R_reads' (Kd.R_after (ok := (fun _ => True)) (re_ HO_3.out) hg hat)).2.1))); have n3_ := Aside0.mk (ho); clear HO_3; clear HB; clear HR154; clear HO150; have HO_3 := n0_; have HB := n1_; have HR154 := n2_; have HO157 := n3_; clear n0_ n1_ n2_ n3_; clear ho hb hg hat))
                               have n0_ := Aside0.mk (Kd.R_drew HO_3.out)
                               have n1_ := Aside0.mk (Kd.R_drew HO157.out)
                               have n2_ := Aside0.mk (Kd.C_drew HR154.out)
                               have n3_ := Aside0.mk (below_drew1 HB.out)
                               clear HO_3
                               clear HO157
                               clear HR154
                               clear HB
                               have HO_3 := n0_
                               have HO157 := n1_
                               have HR154 := n2_
                               have HB := n3_
                               clear n0_ n1_ n2_ n3_
                               have q30 : (x5_2 : Int) ≤ ((x3_1.length : Int) : Int) := of_decide_eq_true (by first | (with_reducible assumption) | assumption)
                               obtain ⟨i030, hi030, _, hsz30, _⟩ := info_parts info3
                               have hcut30 := cut_to (P := Try.prog) 22 3 .i64 Try.underlying22 hi030 (some ad144) x3_1.length co5 x5_2 (of_decide_eq_true (by first | (with_reducible assumption) | assumption)) q30 (Kd.R_reads' HO_3.out).2.1
                               have hr30 := Kd.R_take (m := (x5_2 : Int).toNat) HO_3.out (by omega)
                               have hy30 : y158.length = (x5_2 : Int).toNat := (by rw [Ny158.out, List.length_take]; omega)
                               rw [← Ny158.out] at hr30
                               rw [← hy30] at hr30 hcut30
                               clear hy30 hi030 hsz30 HO_3
                               have HO160 := Aside0.mk hr30
                               clear hr30
                               replace q30 := eq_true q30
                               have p161 : 0 ≤ (x4_1 : Int) := of_decide_eq_true (by first | (with_reducible assumption) | assumption)
                               have q161 : x4_1 < (l0.length : Int) := of_decide_eq_true (by first | (with_reducible assumption) | assumption)
                               obtain ⟨ad161, e161, hx161_0⟩ := Kd.at_int HR0.out x4_1 p161 q161
                               have hw161_0 := hx161_0
                               obtain rfl : ad145 = ad161 := (by injection e161)
                               (try replace hx161_0 := (HB.out.cell (World.block_lt_of_cell? w _ hx161_0)).trans hx161_0)
                               replace p161 := eq_true p161
                               replace q161 := eq_true q161
                               refine start_ (n := 12) (S := fun w' => w'.cell? (ad145.add (x4_1).toNat) = some (.int .i64 (rd l0 x4_1))) (ds := []) (B_ 0 12) (by kernel_rfl) rfl rfl (by first | exact hw161_0 | exact (HB.out.cell (World.block_lt_of_cell? w _ hw161_0)).trans hw161_0 | (obtain ⟨_, e_, h_⟩ := Kd.at_int HR0.out x4_1 (of_eq_true p161) (of_eq_true q161); cases e_; exact h_)) (fun hHeld => ?_); refine with_tabW spec_SortList.tab10 spec_SortList.bits10 (fun HT_ HW_ => ?_)
                               generalize w28.drew = w29 at HO_3 HO157 HR154 HB HO160 hx161_0 hHeld ⊢
                               refine pu_ HT_ 0 51 (B_ 1 12) ?_
                               refine pu_ HT_ 1 52 (B_ 3 12) ?_
                               refine pu_ HT_ 2 53 (B_ 7 12) ?_
                               refine pu_ HT_ 3 54 (B_ 15 12) ?_
                               refine pu_ HT_ 4 55 (B_ 31 12) ?_
                               refine pu_ HT_ 5 56 (B_ 63 12) ?_
                               refine pu_ HT_ 9 60 (B_ 575 12) ?_
                               refine tk1_ HT_ HW_ hHeld 6 57 (B_ 639 12) ?_
                               refine one_ (i := 7) (N := some 58) (B_ 767 12) rfl rfl (one_of HT_.out (by kernel_rfl)) (by decide) (fun K hK => ?_)
                               refine value_ (w1 := ?_) (v := ?_) (by rfl) rfl ?_ ?_
                               rotate_left 2
                               · go_simp
                                 constructor
                                 · rfl
                                 · rfl
                               refine hK.out _ _ ((World.cell?_alloc_lt _ _ _ (World.block_lt_of_cell? _ _ (by first | exact hw161_0 | exact (HB.out.cell (World.block_lt_of_cell? w _ hw161_0)).trans hw161_0 | (obtain ⟨_, e_, h_⟩ := Kd.at_int HR0.out x4_1 (of_eq_true p161) (of_eq_true q161); cases e_; exact h_)))).trans (by first | exact hw161_0 | exact (HB.out.cell (World.block_lt_of_cell? w _ hw161_0)).trans hw161_0 | (obtain ⟨_, e_, h_⟩ := Kd.at_int HR0.out x4_1 (of_eq_true p161) (of_eq_true q161); cases e_; exact h_))) (fun hHeld => ?_)
                               clear hK K
                               refine norm_ (a' := ?_) ?_ ?_
                               rotate_left
                               · show Act.put _ (some 58) _ = _
                                 simp only [Act.put, z1_, z2_, z3_, i64_w, i32_w]
                                 rfl
                               refine one_ (i := 8) (N := some 59) (B_ 1023 12) rfl rfl (one_of HT_.out (by kernel_rfl)) (by decide) (fun K hK => ?_)
                               refine Kd.R_append_step (Kd.int .i64) (w0 := w) w.heap.size (by rfl) (.tmp 53) (.tmp 58) 22 3 (.int .i64 0) 8 rfl Try.underlying22 info3 rfl (by decide) (by omega) (.slice (some ad144) y158.length co5) y158 (rd l0 x4_1) [.int .i64 (rd l0 x4_1)] (fun k_ => some k_ ≠ (v156 : Value).ownBlock) (fun _ => False) rfl rfl ?aP (fun _ hk => hk.elim) ?aF ?aO ?aB ?aS ?aL ?_
                               (case aP => exact rfl)
                               (case aB => exact (bl_ HB.out))
                               (case aF => exact (fun k_ hk => Kd.fresh' (Kd.R_lt (re_ HO157.out)) k_ hk))
                               (case aO => exact (by (with_reducible repeat (first | apply Kd.R_alloc | apply Kd.R_drewN | apply Kd.R_drew)); exact Kd.R_mono HO160.out (fun _ hk => hk.2)))
                               (case aS => exact (below_size (bl_ HB.out)))
                               (case aL => have := LMc21.out; omega)
                               intro v163 w31 ho hb hg hat
                               rw [← Ny162.out] at ho
                               have n0_ := Aside0.mk (Kd.R_after (ok := (fun _ => True)) (by (with_reducible repeat (first | apply Kd.R_alloc | apply Kd.R_drewN | apply Kd.R_drew)); exact Kd.R_mono HO157.out (fun _ hk => ⟨trivial, by first | exact hk | exact (fun e_ => hk (e_.trans (own_len_ _ _ _ _ _)))⟩)) hg hat)
                               have n1_ := Aside0.mk (hb)
                               have n2_ := Aside0.mk (ho)
                               clear HO157
                               clear HB
                               clear HO160
                               have HO157 := n0_
                               have HB := n1_
                               have HO164 := n2_
                               clear n0_ n1_ n2_
                               clear ho hb hg hat
                               obtain ⟨Ao33, co33, eo33⟩ := Kd.R_slice HO157.out
                               (first | subst eo33 | (injection eo33 with f1_ f2_ f3_; have f4_ := f1_.symm; have f5_ := f3_.symm; clear f1_ f2_ f3_; subst f4_; subst f5_))
                               refine hK.out _ _ (by first | exact hw161_0 | exact (HB.out.cell (World.block_lt_of_cell? w _ hw161_0)).trans hw161_0 | (obtain ⟨_, e_, h_⟩ := Kd.at_int HR0.out x4_1 (of_eq_true p161) (of_eq_true q161); cases e_; exact h_)) (fun hHeld => ?_)
                               clear hK K
                               refine norm_ (a' := ?_) ?_ ?_
                               rotate_left
                               · show Act.put _ (some 59) _ = _
                                 simp only [Act.put, z1_, z2_, z3_, i64_w, i32_w]
                                 rfl
                               refine one_ (i := 10) (N := some 61) (B_ 2047 12) rfl rfl (one_of HT_.out (by kernel_rfl)) (by decide) (fun K hK => ?_)
                               refine Kd.R_append_rows_step (Kd.int .i64) (w0 := w) w.heap.size (by rfl) (.tmp 59) (.tmp 60) 22 3 (.int .i64 0) 8 rfl Try.underlying22 info3 rfl (by decide) (by omega) v163 y162 y155 _ _ _ (fun k_ => some k_ ≠ (.slice Ao33 y155.length co33 : Value).ownBlock) (fun _ => False) rfl rfl ?aO ?aR (fun _ _ h => h) (fun _ h => h.elim) ?aF ?aB ?aS ?aL ?_
                               (case aR => exact ce_ ((Kd.R_reads' HO157.out).2.2))
                               (case aB => exact (bl_ HB.out))
                               (case aF => exact (fun k_ hk => Kd.fresh' (Kd.R_lt (re_ HO157.out)) k_ hk))
                               (case aO => exact (re_ HO164.out))
                               (case aS => exact (below_size (bl_ HB.out)))
                               (case aL => have := LMc22.out; omega)
                               intro v166 w32 ho hb hg hat
                               rw [← Ny165.out] at ho
                               have n0_ := Aside0.mk (Kd.R_after (ok := (fun _ => True)) (re_ HO157.out) hg hat)
                               have n1_ := Aside0.mk (hb)
                               have n2_ := Aside0.mk (ho)
                               clear HO157
                               clear HB
                               clear HO164
                               have HO157 := n0_
                               have HB := n1_
                               have HO167 := n2_
                               clear n0_ n1_ n2_
                               clear ho hb hg hat
                               refine hK.out _ _ (by first | exact hw161_0 | exact (HB.out.cell (World.block_lt_of_cell? w _ hw161_0)).trans hw161_0 | (obtain ⟨_, e_, h_⟩ := Kd.at_int HR0.out x4_1 (of_eq_true p161) (of_eq_true q161); cases e_; exact h_)) (fun hHeld => ?_)
                               clear hK K
                               refine norm_ (a' := ?_) ?_ ?_
                               rotate_left
                               · show Act.put _ (some 61) _ = _
                                 simp only [Act.put, z1_, z2_, z3_, i64_w, i32_w]
                                 rfl
                               refine pu_ HT_ 11 3 (B_ 4095 12) ?_
                               refine done_ (done_of HT_.out (by kernel_rfl)) ?_
                               try go_wp2
                               go_roundg k2
                               case measure => have := HK1.out; have := HK2.out; omega
                               case rel => exact ⟨(y165), (wrap64 (x4_1 + 1)), (by first | rfl | (simp; done) | (simp [*]; done)), H', ⟨by have := HK1.out; have := HK2.out; omega⟩, ⟨by (with_reducible repeat (first | apply Kd.R_alloc | apply Kd.R_drewN | apply Kd.R_drew)); exact Kd.R_mono HO167.out (fun _ hk => trivial)⟩, ⟨bl_ HB.out⟩⟩
                             · rw [if_neg c22] at H
                               exact absurd H (by simp)
                           · rw [if_neg c21] at H
                             exact absurd H (by simp)
                         · rw [if_neg c19] at H
                           exact absurd H (by simp)
                       · rw [if_neg c18] at H
                         exact absurd H (by simp)
                     · rw [if_neg c17] at H
                       exact absurd H (by simp)
               · rw [if_neg c11] at H
                 exact absurd H (by simp)
             · rw [if_neg c10] at H
               exact absurd H (by simp)
           · rw [if_neg c9] at H
             exact absurd H (by simp)
         · rw [if_neg c8] at H
           exact absurd H (by simp)
       · rw [if_neg c6] at H
         have c6b0 : decide (0 < x5_2) = false := decide_eq_false c6
         clear c6
         obtain ⟨y168, hy168⟩ : ∃ y_ : List Int, y_ = (([] : List Int)) := ⟨_, rfl⟩
         replace H : (if 0 ≤ x5_2 then (if x5_2 ≤ (x3_1.length : Int) then ((some (x3_1.drop (x5_2 : Int).toNat : List Int)).bind fun y171 => (if y168.length + y171.length < 17592186044416 then ((some (y168 ++ y171 : List Int)).bind fun y175 => ((some (x3_1.take (x5_2 : Int).toNat : List Int)).bind fun y178 => (if 0 ≤ x4_1 then (if x4_1 < (l0.length : Int) then (if y178.length < 17592186044416 then ((some (y178 ++ [rd l0 x4_1] : List Int)).bind fun y182 => (if y182.length + y175.length < 17592186044416 then (spec_SortList.l0 k2 l0 (y182 ++ y175) (wrap64 (x4_1 + 1))) else (none))) else (none)) else (none)) else (none)))) else (none))) else (none)) else (none)) = some r := by first | (rw [hy168]; with_reducible exact H) | (have H2_ := (Option.bind_some _ _).symm.trans H; rw [hy168]; with_reducible exact H2_) | (have H2_ := (Option.bind_some _ _).symm.trans H; with_reducible exact H2_) | with_reducible exact H | (rw [hy168]; exact H) | exact H
         have Ny168 := Aside0.mk hy168
         clear hy168
         by_cases c34 : 0 ≤ x5_2
         · rw [if_pos c34] at H
           have c34b0 := eq_true c34
           have c34b1 : decide (0 ≤ x5_2) = true := decide_eq_true c34
           clear c34
           by_cases c35 : x5_2 ≤ (x3_1.length : Int)
           · rw [if_pos c35] at H
             have c35b0 := eq_true c35
             have c35b1 : decide (x5_2 ≤ (x3_1.length : Int)) = true := decide_eq_true c35
             clear c35
             obtain ⟨y171, hy171⟩ : ∃ y_ : List Int, y_ = (x3_1.drop (x5_2 : Int).toNat) := ⟨_, rfl⟩
             replace H : (if y168.length + y171.length < 17592186044416 then ((some (y168 ++ y171 : List Int)).bind fun y175 => ((some (x3_1.take (x5_2 : Int).toNat : List Int)).bind fun y178 => (if 0 ≤ x4_1 then (if x4_1 < (l0.length : Int) then (if y178.length < 17592186044416 then ((some (y178 ++ [rd l0 x4_1] : List Int)).bind fun y182 => (if y182.length + y175.length < 17592186044416 then (spec_SortList.l0 k2 l0 (y182 ++ y175) (wrap64 (x4_1 + 1))) else (none))) else (none)) else (none)) else (none)))) else (none)) = some r := by first | (rw [hy171]; with_reducible exact H) | (have H2_ := (Option.bind_some _ _).symm.trans H; rw [hy171]; with_reducible exact H2_) | (have H2_ := (Option.bind_some _ _).symm.trans H; with_reducible exact H2_) | with_reducible exact H | (rw [hy171]; exact H) | exact H
             have Ny171 := Aside0.mk hy171
             clear hy171
             by_cases c36 : y168.length + y171.length < 17592186044416
             · rw [if_pos c36] at H
               have LMc36 := Aside0.mk c36
               clear c36
               obtain ⟨y175, hy175⟩ : ∃ y_ : List Int, y_ = (y168 ++ y171) := ⟨_, rfl⟩
               replace H : ((some (x3_1.take (x5_2 : Int).toNat : List Int)).bind fun y178 => (if 0 ≤ x4_1 then (if x4_1 < (l0.length : Int) then (if y178.length < 17592186044416 then ((some (y178 ++ [rd l0 x4_1] : List Int)).bind fun y182 => (if y182.length + y175.length < 17592186044416 then (spec_SortList.l0 k2 l0 (y182 ++ y175) (wrap64 (x4_1 + 1))) else (none))) else (none)) else (none)) else (none))) = some r := by first | (rw [hy175]; with_reducible exact H) | (have H2_ := (Option.bind_some _ _).symm.trans H; rw [hy175]; with_reducible exact H2_) | (have H2_ := (Option.bind_some _ _).symm.trans H; with_reducible exact H2_) | with_reducible exact H | (rw [hy175]; exact H) | exact H
               have Ny175 := Aside0.mk hy175
               clear hy175
               have c37b0 := eq_true (of_decide_eq_true (by first | (with_reducible assumption) | assumption) : x5_2 ≤ (x3_1.length : Int))
               obtain ⟨y178, hy178⟩ : ∃ y_ : List Int, y_ = (x3_1.take (x5_2 : Int).toNat) := ⟨_, rfl⟩
               replace H : (if 0 ≤ x4_1 then (if x4_1 < (l0.length : Int) then (if y178.length < 17592186044416 then ((some (y178 ++ [rd l0 x4_1] : List Int)).bind fun y182 => (if y182.length + y175.length < 17592186044416 then (spec_SortList.l0 k2 l0 (y182 ++ y175) (wrap64 (x4_1 + 1))) else (none))) else (none)) else (none)) else (none)) = some r := by first | (rw [hy178]; with_reducible exact H) | (have H2_ := (Option.bind_some _ _).symm.trans H; rw [hy178]; with_reducible exact H2_) | (have H2_ := (Option.bind_some _ _).symm.trans H; with_reducible exact H2_) | with_reducible exact H | (rw [hy178]; exact H) | exact H
               have Ny178 := Aside0.mk hy178
               clear hy178
               by_cases c38 : 0 ≤ x4_1
               · rw [if_pos c38] at H
                 have c38b0 : decide (0 ≤ x4_1) = true := decide_eq_true c38
                 clear c38
                 by_cases c39 : x4_1 < (l0.length : Int)
                 · rw [if_pos c39] at H
                   have c39b0 : decide (x4_1 < (l0.length : Int)) = true := decide_eq_true c39
                   clear c39
                   by_cases c40 : y178.length < 17592186044416
                   · rw [if_pos c40] at H
                     have LMc40 := Aside0.mk c40
                     clear c40
                     obtain ⟨y182, hy182⟩ : ∃ y_ : List Int, y_ = (y178 ++ [rd l0 x4_1]) := ⟨_, rfl⟩
                     replace H : (if y182.length + y175.length < 17592186044416 then (spec_SortList.l0 k2 l0 (y182 ++ y175) (wrap64 (x4_1 + 1))) else (none)) = some r := by first | (rw [hy182]; with_reducible exact H) | (have H2_ := (Option.bind_some _ _).symm.trans H; rw [hy182]; with_reducible exact H2_) | (have H2_ := (Option.bind_some _ _).symm.trans H; with_reducible exact H2_) | with_reducible exact H | (rw [hy182]; exact H) | exact H
                     have Ny182 := Aside0.mk hy182
                     clear hy182
                     by_cases c41 : y182.length + y175.length < 17592186044416
                     · rw [if_pos c41] at H
                       have LMc41 := Aside0.mk c41
                       clear c41
                       obtain ⟨y185, hy185⟩ : ∃ y_ : List Int, y_ = (y182 ++ y175) := ⟨_, rfl⟩
                       replace H : (spec_SortList.l0 k2 l0 y185 (wrap64 (x4_1 + 1))) = some r := by first | (rw [hy185]; with_reducible exact H) | (have H2_ := (Option.bind_some _ _).symm.trans H; rw [hy185]; with_reducible exact H2_) | (have H2_ := (Option.bind_some _ _).symm.trans H; with_reducible exact H2_) | with_reducible exact H | (rw [hy185]; exact H) | exact H
                       have Ny185 := Aside0.mk hy185
                       clear hy185
                       have H' := Aside0.mk H
                       clear H
                       try go_wp2
                       have n0_ := Aside0.mk (Kd.R_drew HO_3.out)
                       have n1_ := Aside0.mk (below_drew1 HB.out)
                       clear HO_3
                       clear HB
                       have HO_3 := n0_
                       have HB := n1_
                       clear n0_ n1_
                       refine start_ (n := 14) (S := fun w' => True) (ds := []) (B_ 0 14) (by kernel_rfl) rfl rfl trivial (fun hHeld => ?_); refine with_tabW spec_SortList.tab6 spec_SortList.bits6 (fun HT_ HW_ => ?_)
                       generalize wr.drew = w42 at HO_3 HB hHeld ⊢
                       refine pu_ HT_ 0 16 (B_ 1 14) ?_
                       refine pu_ HT_ 1 17 (B_ 3 14) ?_
                       refine pu_ HT_ 2 18 (B_ 7 14) ?_
                       refine pn_ HT_ 3 19 (B_ 15 14) ?_
                       refine pn_ HT_ 4 20 (B_ 31 14) ?_
                       refine pn_ HT_ 5 21 (B_ 63 14) ?_
                       refine pn_ HT_ 6 22 (B_ 127 14) ?_
                       refine pn_ HT_ 7 23 (B_ 255 14) ?_
                       refine pn_ HT_ 8 24 (B_ 511 14) ?_
                       refine pn_ HT_ 9 25 (B_ 1023 14) ?_
                       refine pn_ HT_ 10 26 (B_ 2047 14) ?_
                       refine pn_ HT_ 11 27 (B_ 4095 14) ?_
                       refine pn_ HT_ 12 28 (B_ 8191 14) ?_
                       refine pu_ HT_ 13 29 (B_ 16383 14) ?_
                       refine done_ (done_of HT_.out (by kernel_rfl)) ?_
                       try go_wp2
                       have n0_ := Aside0.mk (Kd.R_drew HO_3.out)
                       have n1_ := Aside0.mk (below_drew1 HB.out)
                       clear HO_3
                       clear HB
                       have HO_3 := n0_
                       have HB := n1_
                       clear n0_ n1_
                       refine start_ (n := 14) (S := fun w' => True) (ds := []) (B_ 0 14) (by kernel_rfl) rfl rfl trivial (fun hHeld => ?_); refine with_tabW spec_SortList.tab8 spec_SortList.bits8 (fun HT_ HW_ => ?_)
                       generalize w42.drew = w43 at HO_3 HB hHeld ⊢
                       refine pu_ HT_ 0 32 (B_ 1 14) ?_
                       refine pu_ HT_ 1 33 (B_ 3 14) ?_
                       refine pu_ HT_ 2 34 (B_ 7 14) ?_
                       refine pn_ HT_ 3 35 (B_ 15 14) ?_
                       refine pn_ HT_ 4 36 (B_ 31 14) ?_
                       refine pn_ HT_ 5 37 (B_ 63 14) ?_
                       refine pn_ HT_ 6 38 (B_ 127 14) ?_
                       refine pn_ HT_ 7 39 (B_ 255 14) ?_
                       refine pn_ HT_ 8 40 (B_ 511 14) ?_
                       refine pn_ HT_ 9 41 (B_ 1023 14) ?_
                       refine pn_ HT_ 10 42 (B_ 2047 14) ?_
                       refine pn_ HT_ 11 43 (B_ 4095 14) ?_
                       refine pn_ HT_ 12 44 (B_ 8191 14) ?_
                       refine pu_ HT_ 13 45 (B_ 16383 14) ?_
                       refine done_ (done_of HT_.out (by kernel_rfl)) ?_
                       try go_wp2_with (first | ((with_reducible refine gate_dst (N := 46) rfl ?_); refine Kd.R_lit (Kd.int .i64) _ 3 ?hg (N := 46) ?hd (xs := ([] : List Int)) (inner := []) (ok := fun _ => True) (okp := fun _ => True) ?hr ?hp (fun _ hk => hk) trivial (Below.refl _ _) (Nat.le_refl _) (by simp) ?_; (case hd => rfl); (case hg => rfl); (case hr => first | (go_simp; done) | (go_simp; rfl)); (case hp => exact (Reps.none _ _)); intro v169 w44 ho45 hb hg_ hnew_; clear hg_ hnew_; (first | rw [← Ny168.out] at ho45 | (simp only [Int.reduceToNat] at ho45; rw [← Ny168.out] at ho45)); have n0_ := Aside0.mk (Kd.R_elder' (re_ HO_3.out) (Kd.R_base ho45) hb); have n1_ := Aside0.mk (Kd.R_lower (Kd.R_new' ho45 (Kd.R_lt (re_ HO_3.out))) (below_size (bl_ HB.out))); have n2_ := Aside0.mk (below_step (bl_ HB.out) hb); clear HO_3; clear HB; have HO_3 := n0_; have HO170 := n1_; have HB := n2_; clear n0_ n1_ n2_; clear hb ho45; have q46 : (x5_2 : Int) ≤ ((x3_1.length : Int) : Int) := of_decide_eq_true (by first | (with_reducible assumption) | assumption); obtain ⟨i046, hi046, _, hsz46, _⟩ := info_parts info3; have hroom46 : x3_1.length ≤ co5 := (Kd.R_reads' HO_3.out).2.1; have hC46 : Kd.C (Kd.int .i64) _ Ao5 x3_1.length x3_1 := (Kd.R_reads' HO_3.out).2.2; have q046 : (0 : Int) ≤ (x5_2 : Int) := of_decide_eq_true (by first | (with_reducible assumption) | assumption); have hcut46 := cut_from (P := Try.prog) 22 3 .i64 Try.underlying22 hi046 1 hsz46 Ao5 x3_1.length co5 x5_2 q046 q46; have hr46 := Kd.C_drop (m := (x5_2 : Int).toNat) (c := co5) hC46 (by omega) hroom46; obtain ⟨A46, hA46⟩ : ∃ A1, A1 = (if co5 = (x5_2 : Int).toNat then Ao5 else (Ao5 : Option Addr).map (·.add ((x5_2 : Int).toNat * 1))) := ⟨_, rfl⟩; obtain ⟨c46, hc46⟩ : ∃ c1, c1 = co5 - (x5_2 : Int).toNat := ⟨_, rfl⟩; have hy46 : y171.length = x3_1.length - (x5_2 : Int).toNat := (by rw [Ny171.out, List.length_drop] <;> omega); rw [show (x3_1).drop (x5_2 : Int).toNat = y171 from Ny171.out.symm] at hr46; replace hr46 : Kd.C (Kd.int .i64) _ A46 y171.length y171 := (by rw [hA46]; exact hr46); rw [← hy46, ← hA46, ← hc46] at hcut46; have HR174 := Aside0.mk hr46; have HC174 := Aside0.mk (show y171.length ≤ c46 from by rw [hy46, hc46]; exact Nat.sub_le_sub_right hroom46 _); clear hr46 hC46 hroom46 hi046 hsz46 hc46; have KY46 := Aside0.mk hy46; have KA46 := Aside0.mk hA46; clear hy46 hA46; have KL46 := Aside0.mk (show (x5_2 : Int).toNat ≤ x3_1.length from by omega); replace q46 := eq_true q46) | ((with_reducible refine gate_builtin (b := .append) (xs := #[.tmp 46, .tmp 49]) rfl ?_); at_builtin; refine Kd.R_append_rows (Kd.int .i64) (w0 := w) w.heap.size rfl (.tmp 46) (.tmp 49) 22 3 (.int .i64 0) 8 rfl Try.underlying22 info3 rfl (by decide) (by omega) v169 y168 y171 _ _ _ (fun k_ => some k_ ≠ (.slice Ao5 x3_1.length co5 : Value).ownBlock) (fun _ => False) rfl rfl ?aO ?aR (fun _ _ h => h) (fun _ h => h.elim) ?aF ?aB ?aS ?aL ?_; (case aR => repeat (first | exact (by repeat (first | (with_reducible exact HR174.out) | (with_reducible refine Kd.C_alloc ?_ _) | (with_reducible refine Kd.C_drewN ?_ _) | (with_reducible refine Kd.C_drew ?_) | exact HR174.out)) | (with_reducible refine Kd.C_alloc ?_ _) | (with_reducible refine Kd.C_drewN ?_ _) | (with_reducible refine Kd.C_drew ?_))); (case aB => exact (bl_ HB.out)); (case aF => exact (fun k_ hk => Kd.fresh' (Kd.R_lt (re_ HO_3.out)) k_ hk)); (case aO => exact (by (with_reducible repeat (first | apply Kd.R_alloc | apply Kd.R_drewN | apply Kd.R_drew)); exact Kd.R_mono HO170.out (fun _ hk => hk.2))); (case aS => exact (below_size (bl_ HB.out))); (case aL => have := LMc36.out; omega); intro v176 w47 ho hb hg hat; rw [← Ny175.out] at ho; have n0_ := Aside0.mk (Kd.R_after (ok := (fun _ => True)) (re_ HO_3.out) hg hat); have n1_ := Aside0.mk (hb); have n2_ := Aside0.mk ((show Kd.C (Kd.int .i64) w47 A46 y171.length y171 from by rw [Ny171.out, KA46.out]; exact Kd.C_drop (m := (x5_2 : Int).toNat) (c := co5) ((Kd.R_reads' (Kd.R_after (ok := (fun _ => True)) (re_ HO_3.out) hg hat)).2.2) KL46.out ((Kd.R_reads' (Kd.R_after (ok := (fun _ => True)) (re_ HO_3.out) hg hat)).2.1))); have n3_ := Aside0.mk (ho); clear HO_3; clear HB; clear HR174; clear HO170; have HO_3 := n0_; have HB := n1_; have HR174 := n2_; have HO177 := n3_; clear n0_ n1_ n2_ n3_; clear ho hb hg hat))
                       have n0_ := Aside0.mk (Kd.R_drew HO_3.out)
                       have n1_ := Aside0.mk (Kd.R_drew HO177.out)
                       have n2_ := Aside0.mk (Kd.C_drew HR174.out)
                       have n3_ := Aside0.mk (below_drew1 HB.out)
                       clear HO_3
                       clear HO177
                       clear HR174
                       clear HB
                       have HO_3 := n0_
                       have HO177 := n1_
                       have HR174 := n2_
                       have HB := n3_
                       clear n0_ n1_ n2_ n3_
                       have q49 : (x5_2 : Int) ≤ ((x3_1.length : Int) : Int) := of_decide_eq_true (by first | (with_reducible assumption) | assumption)
                       obtain ⟨i049, hi049, _, hsz49, _⟩ := info_parts info3
                       have hcut49 := cut_to (P := Try.prog) 22 3 .i64 Try.underlying22 hi049 Ao5 x3_1.length co5 x5_2 (of_decide_eq_true (by first | (with_reducible assumption) | assumption)) q49 (Kd.R_reads' HO_3.out).2.1
                       have hr49 := Kd.R_take (m := (x5_2 : Int).toNat) HO_3.out (by omega)
                       have hy49 : y178.length = (x5_2 : Int).toNat := (by rw [Ny178.out, List.length_take]; omega)
                       rw [← Ny178.out] at hr49
                       rw [← hy49] at hr49 hcut49
                       clear hy49 hi049 hsz49 HO_3
                       have HO180 := Aside0.mk hr49
                       clear hr49
                       replace q49 := eq_true q49
                       have p181 : 0 ≤ (x4_1 : Int) := of_decide_eq_true (by first | (with_reducible assumption) | assumption)
                       have q181 : x4_1 < (l0.length : Int) := of_decide_eq_true (by first | (with_reducible assumption) | assumption)
                       obtain ⟨ad181, e181, hx181_0⟩ := Kd.at_int HR0.out x4_1 p181 q181
                       have hw181_0 := hx181_0
                       cases e181
                       (try replace hx181_0 := (HB.out.cell (World.block_lt_of_cell? w _ hx181_0)).trans hx181_0)
                       replace p181 := eq_true p181
                       replace q181 := eq_true q181
                       refine start_ (n := 12) (S := fun w' => w'.cell? (ad181.add (x4_1).toNat) = some (.int .i64 (rd l0 x4_1))) (ds := []) (B_ 0 12) (by kernel_rfl) rfl rfl (by first | exact hw181_0 | exact (HB.out.cell (World.block_lt_of_cell? w _ hw181_0)).trans hw181_0 | (obtain ⟨_, e_, h_⟩ := Kd.at_int HR0.out x4_1 (of_eq_true p181) (of_eq_true q181); cases e_; exact h_)) (fun hHeld => ?_); refine with_tabW spec_SortList.tab10 spec_SortList.bits10 (fun HT_ HW_ => ?_)
                       generalize w47.drew = w48 at HO_3 HO177 HR174 HB HO180 hx181_0 hHeld ⊢
                       refine pu_ HT_ 0 51 (B_ 1 12) ?_
                       refine pu_ HT_ 1 52 (B_ 3 12) ?_
                       refine pu_ HT_ 2 53 (B_ 7 12) ?_
                       refine pu_ HT_ 3 54 (B_ 15 12) ?_
                       refine pu_ HT_ 4 55 (B_ 31 12) ?_
                       refine pu_ HT_ 5 56 (B_ 63 12) ?_
                       refine pu_ HT_ 9 60 (B_ 575 12) ?_
                       refine tk1_ HT_ HW_ hHeld 6 57 (B_ 639 12) ?_
                       refine one_ (i := 7) (N := some 58) (B_ 767 12) rfl rfl (one_of HT_.out (by kernel_rfl)) (by decide) (fun K hK => ?_)
                       refine value_ (w1 := ?_) (v := ?_) (by rfl) rfl ?_ ?_
                       rotate_left 2
                       · go_simp
                         constructor
                         · rfl
                         · rfl
                       refine hK.out _ _ ((World.cell?_alloc_lt _ _ _ (World.block_lt_of_cell? _ _ (by first | exact hw181_0 | exact (HB.out.cell (World.block_lt_of_cell? w _ hw181_0)).trans hw181_0 | (obtain ⟨_, e_, h_⟩ := Kd.at_int HR0.out x4_1 (of_eq_true p181) (of_eq_true q181); cases e_; exact h_)))).trans (by first | exact hw181_0 | exact (HB.out.cell (World.block_lt_of_cell? w _ hw181_0)).trans hw181_0 | (obtain ⟨_, e_, h_⟩ := Kd.at_int HR0.out x4_1 (of_eq_true p181) (of_eq_true q181); cases e_; exact h_))) (fun hHeld => ?_)
                       clear hK K
                       refine norm_ (a' := ?_) ?_ ?_
                       rotate_left
                       · show Act.put _ (some 58) _ = _
                         simp only [Act.put, z1_, z2_, z3_, i64_w, i32_w]
                         rfl
                       refine one_ (i := 8) (N := some 59) (B_ 1023 12) rfl rfl (one_of HT_.out (by kernel_rfl)) (by decide) (fun K hK => ?_)
                       refine Kd.R_append_step (Kd.int .i64) (w0 := w) w.heap.size (by rfl) (.tmp 53) (.tmp 58) 22 3 (.int .i64 0) 8 rfl Try.underlying22 info3 rfl (by decide) (by omega) (.slice Ao5 y178.length co5) y178 (rd l0 x4_1) [.int .i64 (rd l0 x4_1)] (fun k_ => some k_ ≠ (v176 : Value).ownBlock) (fun _ => False) rfl rfl ?aP (fun _ hk => hk.elim) ?aF ?aO ?aB ?aS ?aL ?_
                       (case aP => exact rfl)
                       (case aB => exact (bl_ HB.out))
                       (case aF => exact (fun k_ hk => Kd.fresh' (Kd.R_lt (re_ HO177.out)) k_ hk))
                       (case aO => exact (by (with_reducible repeat (first | apply Kd.R_alloc | apply Kd.R_drewN | apply Kd.R_drew)); exact Kd.R_mono HO180.out (fun _ hk => hk.2)))
                       (case aS => exact (below_size (bl_ HB.out)))
                       (case aL => have := LMc40.out; omega)
                       intro v183 w50 ho hb hg hat
                       rw [← Ny182.out] at ho
                       have n0_ := Aside0.mk (Kd.R_after (ok := (fun _ => True)) (by (with_reducible repeat (first | apply Kd.R_alloc | apply Kd.R_drewN | apply Kd.R_drew)); exact Kd.R_mono HO177.out (fun _ hk => ⟨trivial, by first | exact hk | exact (fun e_ => hk (e_.trans (own_len_ _ _ _ _ _)))⟩)) hg hat)
                       have n1_ := Aside0.mk (hb)
                       have n2_ := Aside0.mk (ho)
                       clear HO177
                       clear HB
                       clear HO180
                       have HO177 := n0_
                       have HB := n1_
                       have HO184 := n2_
                       clear n0_ n1_ n2_
                       clear ho hb hg hat
                       obtain ⟨Ao52, co52, eo52⟩ := Kd.R_slice HO177.out
                       (first | subst eo52 | (injection eo52 with f1_ f2_ f3_; have f4_ := f1_.symm; have f5_ := f3_.symm; clear f1_ f2_ f3_; subst f4_; subst f5_))
                       refine hK.out _ _ (by first | exact hw181_0 | exact (HB.out.cell (World.block_lt_of_cell? w _ hw181_0)).trans hw181_0 | (obtain ⟨_, e_, h_⟩ := Kd.at_int HR0.out x4_1 (of_eq_true p181) (of_eq_true q181); cases e_; exact h_)) (fun hHeld => ?_)
                       clear hK K
                       refine norm_ (a' := ?_) ?_ ?_
                       rotate_left
                       · show Act.put _ (some 59) _ = _
                         simp only [Act.put, z1_, z2_, z3_, i64_w, i32_w]
                         rfl
                       refine one_ (i := 10) (N := some 61) (B_ 2047 12) rfl rfl (one_of HT_.out (by kernel_rfl)) (by decide) (fun K hK => ?_)
                       refine Kd.R_append_rows_step (Kd.int .i64) (w0 := w) w.heap.size (by rfl) (.tmp 59) (.tmp 60) 22 3 (.int .i64 0) 8 rfl Try.underlying22 info3 rfl (by decide) (by omega) v183 y182 y175 _ _ _ (fun k_ => some k_ ≠ (.slice Ao52 y175.length co52 : Value).ownBlock) (fun _ => False) rfl rfl ?aO ?aR (fun _ _ h => h) (fun _ h => h.elim) ?aF ?aB ?aS ?aL ?_
                       (case aR => exact ce_ ((Kd.R_reads' HO177.out).2.2))
                       (case aB => exact (bl_ HB.out))
                       (case aF => exact (fun k_ hk => Kd.fresh' (Kd.R_lt (re_ HO177.out)) k_ hk))
                       (case aO => exact (re_ HO184.out))
                       (case aS => exact (below_size (bl_ HB.out)))
                       (case aL => have := LMc41.out; omega)
                       intro v186 w51 ho hb hg hat
                       rw [← Ny185.out] at ho
                       have n0_ := Aside0.mk (Kd.R_after (ok := (fun _ => True)) (re_ HO177.out) hg hat)
                       have n1_ := Aside0.mk (hb)
                       have n2_ := Aside0.mk (ho)
                       clear HO177
                       clear HB
                       clear HO184
                       have HO177 := n0_
                       have HB := n1_
                       have HO187 := n2_
                       clear n0_ n1_ n2_
                       clear ho hb hg hat
                       refine hK.out _ _ (by first | exact hw181_0 | exact (HB.out.cell (World.block_lt_of_cell? w _ hw181_0)).trans hw181_0 | (obtain ⟨_, e_, h_⟩ := Kd.at_int HR0.out x4_1 (of_eq_true p181) (of_eq_true q181); cases e_; exact h_)) (fun hHeld => ?_)
                       clear hK K
                       refine norm_ (a' := ?_) ?_ ?_
                       rotate_left
                       · show Act.put _ (some 61) _ = _
                         simp only [Act.put, z1_, z2_, z3_, i64_w, i32_w]
                         rfl
                       refine pu_ HT_ 11 3 (B_ 4095 12) ?_
                       refine done_ (done_of HT_.out (by kernel_rfl)) ?_
                       try go_wp2
                       go_roundg k2
                       case measure => have := HK1.out; have := HK2.out; omega
                       case rel => exact ⟨(y185), (wrap64 (x4_1 + 1)), (by first | rfl | (simp; done) | (simp [*]; done)), H', ⟨by have := HK1.out; have := HK2.out; omega⟩, ⟨by (with_reducible repeat (first | apply Kd.R_alloc | apply Kd.R_drewN | apply Kd.R_drew)); exact Kd.R_mono HO187.out (fun _ hk => trivial)⟩, ⟨bl_ HB.out⟩⟩
                     · rw [if_neg c41] at H
                       exact absurd H (by simp)
                   · rw [if_neg c40] at H
                     exact absurd H (by simp)
                 · rw [if_neg c39] at H
                   exact absurd H (by simp)
               · rw [if_neg c38] at H
                 exact absurd H (by simp)
             · rw [if_neg c36] at H
               exact absurd H (by simp)
           · rw [if_neg c35] at H
             exact absurd H (by simp)
         · rw [if_neg c34] at H
           exact absurd H (by simp)
   · rw [if_neg c4] at H
     have c4b0 : decide (x4_1 < (l0.length : Int)) = false := decide_eq_false c4
     clear c4
     obtain rfl := Option.some.inj H
     go_wp2
     go_ret
     exact ⟨_, by first | rfl | (simp [errW_none, errW_some] <;> rfl) | (simp [*, errW_none, errW_some] <;> rfl), re_ HO_3.out, bl_ HB.out⟩
end Go.Proofs.Ytapdhljbhekcdaa.PB
end
section
namespace Go.Proofs.Ytapdhljbhekcdaa.PB
open Go.RowKit Go.Proofs.YtapdhljbhekcdaaW.PrintWords Go.Proofs.YtapdhljbhekcdaaW.PrintLast Go.Proofs.YtapdhljbhekcdaaW.PrintMore
set_option linter.unusedVariables false
set_option linter.unusedSimpArgs false
def spec_l3Minimal.l0 : Nat → List Int → List Int → Int → Option (List Int)
 | 0, _, _, _ => none
 | k + 1, x3, x4, x5 => if x5 < (x4.length : Int) then (if x5 = 0 then (if 0 ≤ x5 then (if x3.length < 17592186044416 then (spec_l3Minimal.l0 k (x3 ++ [rd x4 x5]) x4 (wrap64 (x5 + 1))) else (none)) else (none)) else (if 0 ≤ x5 then (if x5 ≤ (x4.length : Int) then ((spec_l3Table.f k (x4.take (x5 : Int).toNat) (rd x4 x5)).bind fun t203 => (if 0 ≤ (rd x4 x5) then (if (rd x4 x5) < (t203.length : Int) then (if (rdOf false t203 (rd x4 x5) = true) then (spec_l3Minimal.l0 k x3 x4 (wrap64 (x5 + 1))) else (if x3.length < 17592186044416 then (spec_l3Minimal.l0 k (x3 ++ [rd x4 x5]) x4 (wrap64 (x5 + 1))) else (none))) else (none)) else (none))) else (none)) else (none))) else (some x3)
def spec_l3Minimal.f (k : Nat) (l0 : List Int) : Option (List Int) := (spec_SortList.f k l0).bind fun t191 => (spec_l3Minimal.l0 k (([] : List Int)) t191 0)
theorem spec_l3Minimal.mono_l : ∀ k, (∀ y0 y1 y2, LeO (spec_l3Minimal.l0 k y0 y1 y2) (spec_l3Minimal.l0 (k + 1) y0 y1 y2))
 | 0 => fun _ _ _ r h => by simp [spec_l3Minimal.l0] at h
 | k + 1 => by
  have ih0 := spec_l3Minimal.mono_l k
  · intro y0 y1 y2
    unfold spec_l3Minimal.l0
    repeat' first
    | (with_reducible exact ih0 _ _ _)
    | (with_reducible exact spec_SortList.mono _ _)
    | (with_reducible exact spec_l3Table.mono _ _ _)
    | (with_reducible exact LeO.refl _)
    | (with_reducible exact LeO.none _)
    | (with_reducible refine LeO.ite ?_ ?_)
    | (with_reducible refine LeO.bind ?_ (fun _ => ?_))
    | exact ih0 _ _ _
    | exact spec_SortList.mono _ _
    | exact spec_l3Table.mono _ _ _
    | exact LeO.none _
    | refine LeO.ite ?_ ?_
    | refine LeO.bind ?_ (fun _ => ?_)
theorem spec_l3Minimal.mono : ∀ a0 k, LeO (spec_l3Minimal.f k a0) (spec_l3Minimal.f (k + 1) a0) := by
 intro a0 k
 have ih0 := spec_l3Minimal.mono_l k
 unfold spec_l3Minimal.f
 repeat' first
  | (with_reducible exact ih0 _ _ _)
  | (with_reducible exact spec_SortList.mono _ _)
  | (with_reducible exact spec_l3Table.mono _ _ _)
  | (with_reducible exact LeO.refl _)
  | (with_reducible exact LeO.none _)
  | (with_reducible refine LeO.ite ?_ ?_)
  | (with_reducible refine LeO.bind ?_ (fun _ => ?_))
  | exact ih0 _ _ _
  | exact spec_SortList.mono _ _
  | exact spec_l3Table.mono _ _ _
  | exact LeO.none _
  | refine LeO.ite ?_ ?_
  | refine LeO.bind ?_ (fun _ => ?_)
def spec_l3Minimal.T6 : Bool × List (List Nat × List Nat) := (true, [([], []), ([0], [0]), ([1], [1]), ([2], [2]), ([2], [2]), ([3, 4, 2], [2, 3, 4]), ([2], [2]), ([2], [2]), ([6, 7, 2], [2, 6, 7]), ([8, 2], [2, 8]), ([5, 9, 2, 2], [2, 5, 9]), ([2], [2]), ([2], [2]), ([11, 12, 2], [2, 11, 12]), ([13, 2], [2, 13]), ([10, 14, 2], [2, 10, 14]), ([15, 2], [2, 15]), ([16, 2], [2, 16]), ([2, 17], [2, 17])])
def spec_l3Minimal.B6 : List Nat := [0, 1, 3, 7, 7, 31, 7, 7, 199, 455, 1023, 7, 7, 6151, 14343, 32767, 65535, 131071, 262143]
theorem spec_l3Minimal.tab6 : rtab .any (opsOf Try.f82 6) = spec_l3Minimal.T6 := by kernel_rfl
theorem spec_l3Minimal.bits6 : waitsOk spec_l3Minimal.T6.2 spec_l3Minimal.B6 = true := by kernel_rfl
set_option maxHeartbeats 8000000 in
set_option maxRecDepth 100000 in
theorem spec_l3Minimal.calls (k : Nat) (A0 : Option Addr) (c0 : Nat) (l0 : List Int) (r : List Int) (w : World) (hr0 : Kd.C (Kd.int .i64) w A0 l0.length l0) (hc0 : l0.length ≤ c0) (h : spec_l3Minimal.f k l0 = some r) :
 Calls Try.prog 82 #[.slice A0 l0.length c0] w fun e w' => ∃ v0_ : Value, e = .returned (v0_) ∧ Kd.R (Kd.int .i64) 3 w' w.heap.size (fun _ => True) v0_ r ∧ Below w.heap.size w w' := by
 have HR0 := Aside0.mk hr0
 have HC0 := Aside0.mk hc0
 clear hr0 hc0
 have HB := Aside0.mk (Below.refl w.heap.size w)
 have H : ((spec_SortList.f k l0).bind fun t191 => (spec_l3Minimal.l0 k (([] : List Int)) t191 0)) = some r := h
 clear h
 obtain ⟨y188, hy188⟩ : ∃ y_ : List Int, y_ = (([] : List Int)) := ⟨_, rfl⟩
 replace H : ((spec_SortList.f k l0).bind fun t191 => (spec_l3Minimal.l0 k y188 t191 0)) = some r := by first | (rw [hy188]; with_reducible exact H) | (have H2_ := (Option.bind_some _ _).symm.trans H; rw [hy188]; with_reducible exact H2_) | (have H2_ := (Option.bind_some _ _).symm.trans H; with_reducible exact H2_) | with_reducible exact H | (rw [hy188]; exact H) | exact H
 have Ny188 := Aside0.mk hy188
 clear hy188
 replace H := Option.bind_eq_some_iff.mp H
 obtain ⟨t191, A20, H⟩ := H
 replace H : (spec_l3Minimal.l0 k y188 t191 0) = some r := H
 have A2 := Aside0.mk A20
 clear A20
 have H' := Aside0.mk H
 clear H
 go_enter Try.func82, Try.ntmps82
 go_wp2_with (first | ((with_reducible refine gate_dst (N := 6) rfl ?_); refine Kd.R_lit (Kd.int .i64) _ 3 ?hg (N := 6) ?hd (xs := ([] : List Int)) (inner := []) (ok := fun _ => True) (okp := fun _ => True) ?hr ?hp (fun _ hk => hk) trivial (Below.refl _ _) (Nat.le_refl _) (by simp) ?_; (case hd => rfl); (case hg => rfl); (case hr => first | (go_simp; done) | (go_simp; rfl)); (case hp => exact (Reps.none _ _)); intro v189 w3 ho4 hb hg_ hnew_; clear hg_ hnew_; (first | rw [← Ny188.out] at ho4 | (simp only [Int.reduceToNat] at ho4; rw [← Ny188.out] at ho4)); have n0_ := Aside0.mk (Kd.R_lower ho4 (below_size (bl_ HB.out))); have n1_ := Aside0.mk (below_step (bl_ HB.out) hb); clear HB; have HO190 := n0_; have HB := n1_; clear n0_ n1_; clear hb ho4) | ((with_reducible refine gate_callee (f := 109) rfl ?_); refine goesL_ (some 8) rfl rfl Try.func109 (by kernel_rfl) rfl #[.slice A0 l0.length c0] rfl (by (try simp only [List.map_toArray, List.map_cons, List.map_nil]); first | done | rfl | (simp only [List.length_drop, List.length_take]; rfl)) ?_; (with_reducible refine (spec_SortList.calls k _ _ l0 t191 _ ?side1 ?side2 A2.out).mono ?_); (case side1 => exact ce_ ((Kd.C_below HR0.out HB.out))); (case side2 => exact HC0.out); rintro e w5 ⟨v192, rfl, ho0, hb⟩; refine ⟨_, rfl, ?_⟩; have n0_ := Aside0.mk (Kd.R_elder' (re_ HO190.out) (Kd.R_base ho0) hb); have n1_ := Aside0.mk (Kd.R_lower (Kd.R_new' ho0 (Kd.R_lt (re_ HO190.out))) (below_size (bl_ HB.out))); have n2_ := Aside0.mk (below_step (bl_ HB.out) hb); clear HO190; clear HB; have HO190 := n0_; have HO193 := n1_; have HB := n2_; clear n0_ n1_ n2_; (try clear hb); (try clear hb2); (try clear hk); (try clear hi); (try clear ho0)))
 go_loopg [3, 5] k (fun kq v3 v5 w' => ∃ (x3_1 : List Int) (x5_1 : Int), v5 = .int .i64 x5_1 ∧ Aside0 (spec_l3Minimal.l0 kq x3_1 t191 x5_1 = some r) ∧ Aside0 (kq ≤ k) ∧ Aside0 (Kd.R (Kd.int .i64) 3 w' w.heap.size (fun k_ => some k_ ≠ (v192 : Value).ownBlock) v3 x3_1) ∧ Aside0 (Kd.R (Kd.int .i64) 3 w' w.heap.size (fun k_ => some k_ ≠ (v3 : Value).ownBlock) v192 t191) ∧ Aside0 (Below w.heap.size w w'))
 case atStart => exact ⟨(y188), (0), (by first | rfl | (simp; done) | (simp [*]; done)), H', ⟨Nat.le_refl _⟩, ⟨by (with_reducible repeat (first | apply Kd.R_alloc | apply Kd.R_drewN | apply Kd.R_drew)); exact Kd.R_mono HO190.out (fun _ hk => hk.2)⟩, ⟨by (with_reducible repeat (first | apply Kd.R_alloc | apply Kd.R_drewN | apply Kd.R_drew)); exact Kd.R_mono HO193.out (fun _ hk => hk.2)⟩, ⟨bl_ HB.out⟩⟩
 case round =>
  clear H'
  try clear c1
  try clear p2
  obtain ⟨x3_1, x5_1, rfl, HA, HK1, HO_3, HO_4, HB⟩ := hrel
  cases gk with
  | zero => exact absurd HA.out (by simp [spec_l3Minimal.l0])
  | succ k1 =>
   have H := HA.out
   clear HA
   simp only [spec_l3Minimal.l0] at H
   by_cases c6 : x5_1 < (t191.length : Int)
   · rw [if_pos c6] at H
     have c6b0 : decide (x5_1 < (t191.length : Int)) = true := decide_eq_true c6
     clear c6
     by_cases c7 : x5_1 = 0
     · rw [if_pos c7] at H
       have c7b0 : (x5_1 == 0) = true := beq_iff_eq.mpr c7
       have c7b1 : (x5_1 != 0) = false := bne_eq_false_iff_eq.mpr c7
       clear c7
       by_cases c8 : 0 ≤ x5_1
       · rw [if_pos c8] at H
         have c8b0 : decide (0 ≤ x5_1) = true := decide_eq_true c8
         clear c8
         by_cases c9 : x3_1.length < 17592186044416
         · rw [if_pos c9] at H
           have LMc9 := Aside0.mk c9
           clear c9
           obtain ⟨y195, hy195⟩ : ∃ y_ : List Int, y_ = (x3_1 ++ [rd t191 x5_1]) := ⟨_, rfl⟩
           replace H : (spec_l3Minimal.l0 k1 y195 t191 (wrap64 (x5_1 + 1))) = some r := by first | (rw [hy195]; with_reducible exact H) | (have H2_ := (Option.bind_some _ _).symm.trans H; rw [hy195]; with_reducible exact H2_) | (have H2_ := (Option.bind_some _ _).symm.trans H; with_reducible exact H2_) | with_reducible exact H | (rw [hy195]; exact H) | exact H
           have Ny195 := Aside0.mk hy195
           clear hy195
           have H' := Aside0.mk H
           clear H
           obtain ⟨Ao10, co10, eo10⟩ := Kd.R_slice HO_4.out
           subst eo10
           try go_wp2
           have n0_ := Aside0.mk (Kd.R_drew HO_3.out)
           have n1_ := Aside0.mk (Kd.R_drew HO_4.out)
           have n2_ := Aside0.mk (below_drew1 HB.out)
           clear HO_3
           clear HO_4
           clear HB
           have HO_3 := n0_
           have HO_4 := n1_
           have HB := n2_
           clear n0_ n1_ n2_
           refine start_ (n := 19) (S := fun w' => True) (ds := []) (B_ 0 19) (by kernel_rfl) rfl rfl trivial (fun hHeld => ?_); refine with_tabW spec_l3Minimal.tab6 spec_l3Minimal.bits6 (fun HT_ HW_ => ?_)
           generalize wr.drew = w11 at HO_3 HO_4 HB hHeld ⊢
           refine pu_ HT_ 0 15 (B_ 1 19) ?_
           refine pu_ HT_ 1 16 (B_ 3 19) ?_
           refine pu_ HT_ 2 17 (B_ 7 19) ?_
           refine pn_ HT_ 3 18 (B_ 15 19) ?_
           refine pn_ HT_ 4 19 (B_ 31 19) ?_
           refine pn_ HT_ 5 20 (B_ 63 19) ?_
           refine pn_ HT_ 6 21 (B_ 127 19) ?_
           refine pn_ HT_ 7 22 (B_ 255 19) ?_
           refine pn_ HT_ 8 23 (B_ 511 19) ?_
           refine pn_ HT_ 9 24 (B_ 1023 19) ?_
           refine pn_ HT_ 10 25 (B_ 2047 19) ?_
           refine pn_ HT_ 11 26 (B_ 4095 19) ?_
           refine pn_ HT_ 12 27 (B_ 8191 19) ?_
           refine pn_ HT_ 13 28 (B_ 16383 19) ?_
           refine pn_ HT_ 14 29 (B_ 32767 19) ?_
           refine pn_ HT_ 15 30 (B_ 65535 19) ?_
           refine pn_ HT_ 16 31 (B_ 131071 19) ?_
           refine pn_ HT_ 17 32 (B_ 262143 19) ?_
           refine pu_ HT_ 18 33 (B_ 524287 19) ?_
           refine done_ (done_of HT_.out (by kernel_rfl)) ?_
           have p194 : 0 ≤ (x5_1 : Int) := of_decide_eq_true (by first | (with_reducible assumption) | assumption)
           have q194 : x5_1 < (t191.length : Int) := of_decide_eq_true (by first | (with_reducible assumption) | assumption)
           obtain ⟨ad194, e194, hx194_0⟩ := Kd.at_int (Kd.R_reads' HO_4.out).2.2 x5_1 p194 q194
           cases e194
           replace p194 := eq_true p194
           replace q194 := eq_true q194
           try go_wp2_with (first | ((with_reducible refine gate_builtin (b := .append) (xs := #[.tmp 34, .tmp 39]) rfl ?_); at_builtin; refine Kd.R_append (Kd.int .i64) (w0 := w) w.heap.size rfl (.tmp 34) (.tmp 39) 22 3 (.int .i64 0) 8 rfl Try.underlying22 info3 rfl (by decide) (by omega) u3 x3_1 (rd t191 x5_1) [.int .i64 (rd t191 x5_1)] (fun k_ => some k_ ≠ (.slice (some ad194) t191.length co10 : Value).ownBlock) (fun _ => False) rfl rfl ?aP (fun _ hk => hk.elim) ?aF ?aO ?aB ?aS ?aL ?_; (case aP => exact rfl); (case aB => exact (bl_ HB.out)); (case aF => exact (fun k_ hk => Kd.fresh' (Kd.R_lt (re_ HO_4.out)) k_ hk)); (case aO => exact (re_ HO_3.out)); (case aS => exact (below_size (bl_ HB.out))); (case aL => have := LMc9.out; omega); intro v196 w12 ho hb hg hat; rw [← Ny195.out] at ho; have n0_ := Aside0.mk (Kd.R_after (ok := (fun _ => True)) (by (with_reducible repeat (first | apply Kd.R_alloc | apply Kd.R_drewN | apply Kd.R_drew)); exact Kd.R_mono HO_4.out (fun _ hk => ⟨trivial, hk⟩)) hg hat); have n1_ := Aside0.mk (hb); have n2_ := Aside0.mk (ho); clear HO_4; clear HB; clear HO_3; have HO_4 := n0_; have HB := n1_; have HO197 := n2_; clear n0_ n1_ n2_; clear ho hb hg hat))
           go_roundg k1
           case measure => have := HK1.out; omega
           case rel => exact ⟨(y195), (wrap64 (x5_1 + 1)), (by first | rfl | (simp; done) | (simp [*]; done)), H', ⟨by have := HK1.out; omega⟩, ⟨re_ HO197.out⟩, ⟨by (with_reducible repeat (first | apply Kd.R_alloc | apply Kd.R_drewN | apply Kd.R_drew)); exact Kd.R_mono HO_4.out (fun _ hk => hk.2)⟩, ⟨bl_ HB.out⟩⟩
         · rw [if_neg c9] at H
           exact absurd H (by simp)
       · rw [if_neg c8] at H
         exact absurd H (by simp)
     · rw [if_neg c7] at H
       have c7b0 : (x5_1 == 0) = false := beq_eq_false_iff_ne.mpr c7
       have c7b1 : (x5_1 != 0) = true := bne_iff_ne.mpr c7
       by_cases c13 : 0 ≤ x5_1
       · rw [if_pos c13] at H
         have c13b0 := eq_true c13
         have c13b1 : decide (0 ≤ x5_1) = true := decide_eq_true c13
         clear c13
         by_cases c14 : x5_1 ≤ (t191.length : Int)
         · rw [if_pos c14] at H
           have c14b0 := eq_true c14
           have c14b1 : decide (x5_1 ≤ (t191.length : Int)) = true := decide_eq_true c14
           clear c14
           obtain ⟨y198, hy198⟩ : ∃ y_ : List Int, y_ = (t191.take (x5_1 : Int).toNat) := ⟨_, rfl⟩
           replace H : ((spec_l3Table.f k1 y198 (rd t191 x5_1)).bind fun t203 => (if 0 ≤ (rd t191 x5_1) then (if (rd t191 x5_1) < (t203.length : Int) then (if (rdOf false t203 (rd t191 x5_1) = true) then (spec_l3Minimal.l0 k1 x3_1 t191 (wrap64 (x5_1 + 1))) else (if x3_1.length < 17592186044416 then (spec_l3Minimal.l0 k1 (x3_1 ++ [rd t191 x5_1]) t191 (wrap64 (x5_1 + 1))) else (none))) else (none)) else (none))) = some r := by first | (rw [hy198]; with_reducible exact H) | (have H2_ := (Option.bind_some _ _).symm.trans H; rw [hy198]; with_reducible exact H2_) | (have H2_ := (Option.bind_some _ _).symm.trans H; with_reducible exact H2_) | with_reducible exact H | (rw [hy198]; exact H) | exact H
           have Ny198 := Aside0.mk hy198
           clear hy198
           replace H := Option.bind_eq_some_iff.mp H
           obtain ⟨t203, A150, H⟩ := H
           replace H : (if 0 ≤ (rd t191 x5_1) then (if (rd t191 x5_1) < (t203.length : Int) then (if (rdOf false t203 (rd t191 x5_1) = true) then (spec_l3Minimal.l0 k1 x3_1 t191 (wrap64 (x5_1 + 1))) else (if x3_1.length < 17592186044416 then (spec_l3Minimal.l0 k1 (x3_1 ++ [rd t191 x5_1]) t191 (wrap64 (x5_1 + 1))) else (none))) else (none)) else (none)) = some r := H
           have A15 := Aside0.mk A150
           clear A150
           by_cases c16 : 0 ≤ (rd t191 x5_1)
           · rw [if_pos c16] at H
             have c16b0 : decide (0 ≤ (rd t191 x5_1)) = true := decide_eq_true c16
             clear c16
             by_cases c17 : (rd t191 x5_1) < (t203.length : Int)
             · rw [if_pos c17] at H
               have c17b0 : decide ((rd t191 x5_1) < (t203.length : Int)) = true := decide_eq_true c17
               clear c17
               obtain ⟨bq18, hbq18⟩ : ∃ b_ : Bool, b_ = (rdOf false t203 (rd t191 x5_1)) := ⟨_, rfl⟩
               replace H : (if (bq18 = true) then (spec_l3Minimal.l0 k1 x3_1 t191 (wrap64 (x5_1 + 1))) else (if x3_1.length < 17592186044416 then (spec_l3Minimal.l0 k1 (x3_1 ++ [rd t191 x5_1]) t191 (wrap64 (x5_1 + 1))) else (none))) = some r := by rw [← hbq18] at H; exact H
               have Nbq18 := Aside0.mk hbq18
               clear hbq18
               by_cases c19 : (bq18 = true)
               · subst c19
                 have H1 : (spec_l3Minimal.l0 k1 x3_1 t191 (wrap64 (x5_1 + 1))) = some r := by rw [if_pos rfl] at H; exact H
                 clear H
                 have H := H1
                 clear H1
                 have H' := Aside0.mk H
                 clear H
                 obtain ⟨Ao20, co20, eo20⟩ := Kd.R_slice HO_4.out
                 subst eo20
                 try go_wp2
                 have n0_ := Aside0.mk (Kd.R_drew HO_3.out)
                 have n1_ := Aside0.mk (Kd.R_drew HO_4.out)
                 have n2_ := Aside0.mk (below_drew1 HB.out)
                 clear HO_3
                 clear HO_4
                 clear HB
                 have HO_3 := n0_
                 have HO_4 := n1_
                 have HB := n2_
                 clear n0_ n1_ n2_
                 have q22 : (x5_1 : Int) ≤ ((t191.length : Int) : Int) := of_decide_eq_true (by first | (with_reducible assumption) | assumption)
                 obtain ⟨i022, hi022, _, hsz22, _⟩ := info_parts info3
                 have hroom22 : t191.length ≤ co20 := (Kd.R_reads' HO_4.out).2.1
                 have hC22 : Kd.C (Kd.int .i64) _ Ao20 t191.length t191 := (Kd.R_reads' HO_4.out).2.2
                 have hcut22 := cut_to (P := Try.prog) 22 3 .i64 Try.underlying22 hi022 Ao20 t191.length co20 x5_1 (of_decide_eq_true (by first | (with_reducible assumption) | assumption)) q22 hroom22
                 have hr22 := Kd.C_take (m := (x5_1 : Int).toNat) hC22 (by omega)
                 have hy22 : y198.length = (x5_1 : Int).toNat := (by rw [Ny198.out, List.length_take]; omega)
                 rw [← Ny198.out] at hr22
                 rw [← hy22] at hcut22
                 have HR201 := Aside0.mk hr22
                 have HC201 := Aside0.mk (show y198.length ≤ co20 from by omega)
                 clear hr22 hC22 hroom22 hi022 hsz22
                 have KY22 := Aside0.mk hy22
                 clear hy22
                 have KL22 := Aside0.mk (show (x5_1 : Int).toNat ≤ t191.length from by omega)
                 replace q22 := eq_true q22
                 have p202 : 0 ≤ (x5_1 : Int) := of_decide_eq_true (by first | (with_reducible assumption) | assumption)
                 have q202 : x5_1 < (t191.length : Int) := of_decide_eq_true (by first | (with_reducible assumption) | assumption)
                 obtain ⟨ad202, e202, hx202_0⟩ := Kd.at_int (Kd.R_reads' HO_4.out).2.2 x5_1 p202 q202
                 cases e202
                 replace p202 := eq_true p202
                 replace q202 := eq_true q202
                 have p206 : 0 ≤ (x5_1 : Int) := of_decide_eq_true (by first | (with_reducible assumption) | assumption)
                 have q206 : x5_1 < (t191.length : Int) := of_decide_eq_true (by first | (with_reducible assumption) | assumption)
                 obtain ⟨ad206, e206, hx206_0⟩ := Kd.at_int (Kd.R_reads' HO_4.out).2.2 x5_1 p206 q206
                 obtain rfl : ad202 = ad206 := (by injection e206)
                 replace p206 := eq_true p206
                 replace q206 := eq_true q206
                 refine start_ (n := 19) (S := fun w' => w'.cell? (ad202.add (x5_1).toNat) = some (.int .i64 (rd t191 x5_1)) ∧ w'.cell? (ad202.add (x5_1).toNat) = some (.int .i64 (rd t191 x5_1)) ∧ True) (ds := []) (B_ 0 19) (by kernel_rfl) rfl rfl ⟨hx202_0, hx206_0, trivial⟩ (fun hHeld => ?_); refine with_tabW spec_l3Minimal.tab6 spec_l3Minimal.bits6 (fun HT_ HW_ => ?_)
                 generalize wr.drew = w21 at HO_3 HO_4 HB HR201 hx202_0 hx206_0 hHeld ⊢
                 refine pu_ HT_ 0 15 (B_ 1 19) ?_
                 refine pu_ HT_ 1 16 (B_ 3 19) ?_
                 refine pu_ HT_ 2 17 (B_ 7 19) ?_
                 refine pu_ HT_ 3 18 (B_ 15 19) ?_
                 refine pu_ HT_ 4 19 (B_ 31 19) ?_
                 refine pu_ HT_ 5 20 (B_ 63 19) ?_
                 refine pu_ HT_ 6 21 (B_ 127 19) ?_
                 refine pu_ HT_ 7 22 (B_ 255 19) ?_
                 refine pu_ HT_ 8 23 (B_ 511 19) ?_
                 refine pu_ HT_ 11 26 (B_ 2559 19) ?_
                 refine pu_ HT_ 12 27 (B_ 6655 19) ?_
                 refine pu_ HT_ 13 28 (B_ 14847 19) ?_
                 refine tk3_ HT_ HW_ hHeld 9 24 (B_ 15359 19) ?_
                 refine tk3_ HT_ HW_ hHeld 14 29 (B_ 31743 19) ?_
                 refine one_ (i := 10) (N := some 25) (B_ 32767 19) rfl rfl (one_of HT_.out (by kernel_rfl)) (by decide) (fun K hK => ?_)
                 refine goes_ Try.func64 (by kernel_rfl) rfl #[.slice (some ad202) y198.length co20, .int .i64 (rd t191 x5_1)] (by rfl) rfl rfl (by (try simp only [List.map_toArray, List.map_cons, List.map_nil]); first | done | rfl | (simp only [List.length_drop, List.length_take]; rfl)) ?_
                 with_reducible refine (spec_l3Table.calls k1 _ _ y198 (rd t191 x5_1) t203 _ ?side1 ?side2 A15.out).mono ?_
                 (case side1 => repeat (first | exact (by repeat (first | (with_reducible exact HR201.out) | (with_reducible refine Kd.C_alloc ?_ _) | (with_reducible refine Kd.C_drewN ?_ _) | (with_reducible refine Kd.C_drew ?_) | exact HR201.out)) | (with_reducible refine Kd.C_alloc ?_ _) | (with_reducible refine Kd.C_drewN ?_ _) | (with_reducible refine Kd.C_drew ?_)))
                 (case side2 => exact HC201.out)
                 rintro e w23 ⟨v204, rfl, ho0, hb⟩
                 have HS0_ := (hb.cell (World.block_lt_of_cell? _ _ (hHeld.1))).trans (hHeld.1)
                 have HS1_ := (hb.cell (World.block_lt_of_cell? _ _ (hHeld.2.1))).trans (hHeld.2.1)
                 refine ⟨_, rfl, ?_⟩
                 have n0_ := Aside0.mk (Kd.R_below (re_ HO_3.out) hb)
                 have n1_ := Aside0.mk (Kd.R_below (re_ HO_4.out) hb)
                 have n2_ := Aside0.mk (Kd.R_lower ho0 (below_size (bl_ HB.out)))
                 have n3_ := Aside0.mk (Kd.C_below (by repeat (first | (with_reducible exact HR201.out) | (with_reducible refine Kd.C_alloc ?_ _) | (with_reducible refine Kd.C_drewN ?_ _) | (with_reducible refine Kd.C_drew ?_) | exact HR201.out)) hb)
                 have n4_ := Aside0.mk (below_step (bl_ HB.out) hb)
                 clear HO_3
                 clear HO_4
                 clear HR201
                 clear HB
                 have HO_3 := n0_
                 have HO_4 := n1_
                 have HO205 := n2_
                 have HR201 := n3_
                 have HB := n4_
                 clear n0_ n1_ n2_ n3_ n4_
                 (try clear hb)
                 (try clear hb2)
                 (try clear hk)
                 (try clear hi)
                 (try clear ho0)
                 obtain ⟨Ao24, co24, eo24⟩ := Kd.R_slice HO205.out
                 (first | subst eo24 | (injection eo24 with f1_ f2_ f3_; have f4_ := f1_.symm; have f5_ := f3_.symm; clear f1_ f2_ f3_; subst f4_; subst f5_))
                 have p207 : 0 ≤ ((rd t191 x5_1) : Int) := of_decide_eq_true (by first | (with_reducible assumption) | assumption)
                 have q207 : (rd t191 x5_1) < (t203.length : Int) := of_decide_eq_true (by first | (with_reducible assumption) | assumption)
                 obtain ⟨ad207, e207, hx207_0⟩ := Kd.at_bool (Kd.R_reads' HO205.out).2.2 (rd t191 x5_1) p207 q207
                 (try rw [← Nbq18.out] at hx207_0)
                 cases e207
                 replace p207 := eq_true p207
                 replace q207 := eq_true q207
                 refine hK.out _ _ ⟨HS0_, HS1_, trivial⟩ (fun _ => ?_); refine restart_ (S' := fun w' => w'.cell? (ad202.add (x5_1).toNat) = some (.int .i64 (rd t191 x5_1)) ∧ w'.cell? (ad202.add (x5_1).toNat) = some (.int .i64 (rd t191 x5_1)) ∧ w'.cell? (ad207.add ((rd t191 x5_1)).toNat) = some (.bool true)) (fun _ h => ⟨h.1, h.2.1, trivial⟩) ⟨HS0_, HS1_, hx207_0⟩ (fun hHeld => ?_)
                 clear hK K
                 refine norm_ (a' := ?_) ?_ ?_
                 rotate_left
                 · show Act.put _ (some 25) _ = _
                   simp only [Act.put, z1_, z2_, z3_, i64_w, i32_w]
                   rfl
                 refine pu_ HT_ 15 30 (B_ 65535 19) ?_
                 refine tk3_ HT_ HW_ hHeld 16 31 (B_ 131071 19) ?_
                 refine pu_ HT_ 17 32 (B_ 262143 19) ?_
                 refine pu_ HT_ 18 33 (B_ 524287 19) ?_
                 refine done_ (done_of HT_.out (by kernel_rfl)) ?_
                 try go_wp2
                 go_roundg k1
                 case measure => have := HK1.out; omega
                 case rel => exact ⟨(x3_1), (wrap64 (x5_1 + 1)), (by first | rfl | (simp; done) | (simp [*]; done)), H', ⟨by have := HK1.out; omega⟩, ⟨re_ HO_3.out⟩, ⟨re_ HO_4.out⟩, ⟨bl_ HB.out⟩⟩
               · replace c19 := Bool.eq_false_iff.mpr c19
                 subst c19
                 have H1 : (if x3_1.length < 17592186044416 then (spec_l3Minimal.l0 k1 (x3_1 ++ [rd t191 x5_1]) t191 (wrap64 (x5_1 + 1))) else (none)) = some r := by rw [if_neg (show ¬ (false = true) by decide)] at H; exact H
                 clear H
                 have H := H1
                 clear H1
                 by_cases c25 : x3_1.length < 17592186044416
                 · rw [if_pos c25] at H
                   have LMc25 := Aside0.mk c25
                   clear c25
                   obtain ⟨y209, hy209⟩ : ∃ y_ : List Int, y_ = (x3_1 ++ [rd t191 x5_1]) := ⟨_, rfl⟩
                   replace H : (spec_l3Minimal.l0 k1 y209 t191 (wrap64 (x5_1 + 1))) = some r := by first | (rw [hy209]; with_reducible exact H) | (have H2_ := (Option.bind_some _ _).symm.trans H; rw [hy209]; with_reducible exact H2_) | (have H2_ := (Option.bind_some _ _).symm.trans H; with_reducible exact H2_) | with_reducible exact H | (rw [hy209]; exact H) | exact H
                   have Ny209 := Aside0.mk hy209
                   clear hy209
                   have H' := Aside0.mk H
                   clear H
                   obtain ⟨Ao26, co26, eo26⟩ := Kd.R_slice HO_4.out
                   subst eo26
                   try go_wp2
                   have n0_ := Aside0.mk (Kd.R_drew HO_3.out)
                   have n1_ := Aside0.mk (Kd.R_drew HO_4.out)
                   have n2_ := Aside0.mk (below_drew1 HB.out)
                   clear HO_3
                   clear HO_4
                   clear HB
                   have HO_3 := n0_
                   have HO_4 := n1_
                   have HB := n2_
                   clear n0_ n1_ n2_
                   have q28 : (x5_1 : Int) ≤ ((t191.length : Int) : Int) := of_decide_eq_true (by first | (with_reducible assumption) | assumption)
                   obtain ⟨i028, hi028, _, hsz28, _⟩ := info_parts info3
                   have hroom28 : t191.length ≤ co26 := (Kd.R_reads' HO_4.out).2.1
                   have hC28 : Kd.C (Kd.int .i64) _ Ao26 t191.length t191 := (Kd.R_reads' HO_4.out).2.2
                   have hcut28 := cut_to (P := Try.prog) 22 3 .i64 Try.underlying22 hi028 Ao26 t191.length co26 x5_1 (of_decide_eq_true (by first | (with_reducible assumption) | assumption)) q28 hroom28
                   have hr28 := Kd.C_take (m := (x5_1 : Int).toNat) hC28 (by omega)
                   have hy28 : y198.length = (x5_1 : Int).toNat := (by rw [Ny198.out, List.length_take]; omega)
                   rw [← Ny198.out] at hr28
                   rw [← hy28] at hcut28
                   have HR201 := Aside0.mk hr28
                   have HC201 := Aside0.mk (show y198.length ≤ co26 from by omega)
                   clear hr28 hC28 hroom28 hi028 hsz28
                   have KY28 := Aside0.mk hy28
                   clear hy28
                   have KL28 := Aside0.mk (show (x5_1 : Int).toNat ≤ t191.length from by omega)
                   replace q28 := eq_true q28
                   have p202 : 0 ≤ (x5_1 : Int) := of_decide_eq_true (by first | (with_reducible assumption) | assumption)
                   have q202 : x5_1 < (t191.length : Int) := of_decide_eq_true (by first | (with_reducible assumption) | assumption)
                   obtain ⟨ad202, e202, hx202_0⟩ := Kd.at_int (Kd.R_reads' HO_4.out).2.2 x5_1 p202 q202
                   cases e202
                   replace p202 := eq_true p202
                   replace q202 := eq_true q202
                   have p206 : 0 ≤ (x5_1 : Int) := of_decide_eq_true (by first | (with_reducible assumption) | assumption)
                   have q206 : x5_1 < (t191.length : Int) := of_decide_eq_true (by first | (with_reducible assumption) | assumption)
                   obtain ⟨ad206, e206, hx206_0⟩ := Kd.at_int (Kd.R_reads' HO_4.out).2.2 x5_1 p206 q206
                   obtain rfl : ad202 = ad206 := (by injection e206)
                   replace p206 := eq_true p206
                   replace q206 := eq_true q206
                   refine start_ (n := 19) (S := fun w' => w'.cell? (ad202.add (x5_1).toNat) = some (.int .i64 (rd t191 x5_1)) ∧ w'.cell? (ad202.add (x5_1).toNat) = some (.int .i64 (rd t191 x5_1)) ∧ True) (ds := []) (B_ 0 19) (by kernel_rfl) rfl rfl ⟨hx202_0, hx206_0, trivial⟩ (fun hHeld => ?_); refine with_tabW spec_l3Minimal.tab6 spec_l3Minimal.bits6 (fun HT_ HW_ => ?_)
                   generalize wr.drew = w27 at HO_3 HO_4 HB HR201 hx202_0 hx206_0 hHeld ⊢
                   refine pu_ HT_ 0 15 (B_ 1 19) ?_
                   refine pu_ HT_ 1 16 (B_ 3 19) ?_
                   refine pu_ HT_ 2 17 (B_ 7 19) ?_
                   refine pu_ HT_ 3 18 (B_ 15 19) ?_
                   refine pu_ HT_ 4 19 (B_ 31 19) ?_
                   refine pu_ HT_ 5 20 (B_ 63 19) ?_
                   refine pu_ HT_ 6 21 (B_ 127 19) ?_
                   refine pu_ HT_ 7 22 (B_ 255 19) ?_
                   refine pu_ HT_ 8 23 (B_ 511 19) ?_
                   refine pu_ HT_ 11 26 (B_ 2559 19) ?_
                   refine pu_ HT_ 12 27 (B_ 6655 19) ?_
                   refine pu_ HT_ 13 28 (B_ 14847 19) ?_
                   refine tk3_ HT_ HW_ hHeld 9 24 (B_ 15359 19) ?_
                   refine tk3_ HT_ HW_ hHeld 14 29 (B_ 31743 19) ?_
                   refine one_ (i := 10) (N := some 25) (B_ 32767 19) rfl rfl (one_of HT_.out (by kernel_rfl)) (by decide) (fun K hK => ?_)
                   refine goes_ Try.func64 (by kernel_rfl) rfl #[.slice (some ad202) y198.length co26, .int .i64 (rd t191 x5_1)] (by rfl) rfl rfl (by (try simp only [List.map_toArray, List.map_cons, List.map_nil]); first | done | rfl | (simp only [List.length_drop, List.length_take]; rfl)) ?_
                   with_reducible refine (spec_l3Table.calls k1 _ _ y198 (rd t191 x5_1) t203 _ ?side1 ?side2 A15.out).mono ?_
                   (case side1 => repeat (first | exact (by repeat (first | (with_reducible exact HR201.out) | (with_reducible refine Kd.C_alloc ?_ _) | (with_reducible refine Kd.C_drewN ?_ _) | (with_reducible refine Kd.C_drew ?_) | exact HR201.out)) | (with_reducible refine Kd.C_alloc ?_ _) | (with_reducible refine Kd.C_drewN ?_ _) | (with_reducible refine Kd.C_drew ?_)))
                   (case side2 => exact HC201.out)
                   rintro e w29 ⟨v204, rfl, ho0, hb⟩
                   have HS0_ := (hb.cell (World.block_lt_of_cell? _ _ (hHeld.1))).trans (hHeld.1)
                   have HS1_ := (hb.cell (World.block_lt_of_cell? _ _ (hHeld.2.1))).trans (hHeld.2.1)
                   refine ⟨_, rfl, ?_⟩
                   have n0_ := Aside0.mk (Kd.R_below (re_ HO_3.out) hb)
                   have n1_ := Aside0.mk (Kd.R_below (re_ HO_4.out) hb)
                   have n2_ := Aside0.mk (Kd.R_lower ho0 (below_size (bl_ HB.out)))
                   have n3_ := Aside0.mk (Kd.C_below (by repeat (first | (with_reducible exact HR201.out) | (with_reducible refine Kd.C_alloc ?_ _) | (with_reducible refine Kd.C_drewN ?_ _) | (with_reducible refine Kd.C_drew ?_) | exact HR201.out)) hb)
                   have n4_ := Aside0.mk (below_step (bl_ HB.out) hb)
                   clear HO_3
                   clear HO_4
                   clear HR201
                   clear HB
                   have HO_3 := n0_
                   have HO_4 := n1_
                   have HO205 := n2_
                   have HR201 := n3_
                   have HB := n4_
                   clear n0_ n1_ n2_ n3_ n4_
                   (try clear hb)
                   (try clear hb2)
                   (try clear hk)
                   (try clear hi)
                   (try clear ho0)
                   obtain ⟨Ao30, co30, eo30⟩ := Kd.R_slice HO205.out
                   (first | subst eo30 | (injection eo30 with f1_ f2_ f3_; have f4_ := f1_.symm; have f5_ := f3_.symm; clear f1_ f2_ f3_; subst f4_; subst f5_))
                   have p207 : 0 ≤ ((rd t191 x5_1) : Int) := of_decide_eq_true (by first | (with_reducible assumption) | assumption)
                   have q207 : (rd t191 x5_1) < (t203.length : Int) := of_decide_eq_true (by first | (with_reducible assumption) | assumption)
                   obtain ⟨ad207, e207, hx207_0⟩ := Kd.at_bool (Kd.R_reads' HO205.out).2.2 (rd t191 x5_1) p207 q207
                   (try rw [← Nbq18.out] at hx207_0)
                   cases e207
                   replace p207 := eq_true p207
                   replace q207 := eq_true q207
                   refine hK.out _ _ ⟨HS0_, HS1_, trivial⟩ (fun _ => ?_); refine restart_ (S' := fun w' => w'.cell? (ad202.add (x5_1).toNat) = some (.int .i64 (rd t191 x5_1)) ∧ w'.cell? (ad202.add (x5_1).toNat) = some (.int .i64 (rd t191 x5_1)) ∧ w'.cell? (ad207.add ((rd t191 x5_1)).toNat) = some (.bool false)) (fun _ h => ⟨h.1, h.2.1, trivial⟩) ⟨HS0_, HS1_, hx207_0⟩ (fun hHeld => ?_)
                   clear hK K
                   refine norm_ (a' := ?_) ?_ ?_
                   rotate_left
                   · show Act.put _ (some 25) _ = _
                     simp only [Act.put, z1_, z2_, z3_, i64_w, i32_w]
                     rfl
                   refine pu_ HT_ 15 30 (B_ 65535 19) ?_
                   refine tk3_ HT_ HW_ hHeld 16 31 (B_ 131071 19) ?_
                   refine pu_ HT_ 17 32 (B_ 262143 19) ?_
                   refine pu_ HT_ 18 33 (B_ 524287 19) ?_
                   refine done_ (done_of HT_.out (by kernel_rfl)) ?_
                   have p208 : 0 ≤ (x5_1 : Int) := of_decide_eq_true (by first | (with_reducible assumption) | assumption)
                   have q208 : x5_1 < (t191.length : Int) := of_decide_eq_true (by first | (with_reducible assumption) | assumption)
                   obtain ⟨ad208, e208, hx208_0⟩ := Kd.at_int (Kd.R_reads' HO_4.out).2.2 x5_1 p208 q208
                   obtain rfl : ad202 = ad208 := (by injection e208)
                   replace p208 := eq_true p208
                   replace q208 := eq_true q208
                   try go_wp2_with (first | ((with_reducible refine gate_builtin (b := .append) (xs := #[.tmp 34, .tmp 39]) rfl ?_); at_builtin; refine Kd.R_append (Kd.int .i64) (w0 := w) w.heap.size rfl (.tmp 34) (.tmp 39) 22 3 (.int .i64 0) 8 rfl Try.underlying22 info3 rfl (by decide) (by omega) u3 x3_1 (rd t191 x5_1) [.int .i64 (rd t191 x5_1)] (fun k_ => some k_ ≠ (.slice (some ad202) t191.length co26 : Value).ownBlock) (fun _ => False) rfl rfl ?aP (fun _ hk => hk.elim) ?aF ?aO ?aB ?aS ?aL ?_; (case aP => exact rfl); (case aB => exact (bl_ HB.out)); (case aF => exact (fun k_ hk => Kd.fresh' (Kd.R_lt (re_ HO_4.out)) k_ hk)); (case aO => exact (re_ HO_3.out)); (case aS => exact (below_size (bl_ HB.out))); (case aL => have := LMc25.out; omega); intro v210 w31 ho hb hg hat; rw [← Ny209.out] at ho; have n0_ := Aside0.mk (Kd.R_after (ok := (fun _ => True)) (by (with_reducible repeat (first | apply Kd.R_alloc | apply Kd.R_drewN | apply Kd.R_drew)); exact Kd.R_mono HO_4.out (fun _ hk => ⟨trivial, hk⟩)) hg hat); have n1_ := Aside0.mk (Kd.R_over' (re_ HO205.out) (Kd.R_typed (re_ HO_3.out)) (by decide) hg); have n2_ := Aside0.mk (hb); have n3_ := Aside0.mk ((show Kd.C (Kd.int .i64) w31 (some ad202) y198.length y198 from by rw [Ny198.out]; exact Kd.C_take (m := (x5_1 : Int).toNat) ((Kd.R_reads' (Kd.R_after (ok := (fun _ => True)) (by (with_reducible repeat (first | apply Kd.R_alloc | apply Kd.R_drewN | apply Kd.R_drew)); exact Kd.R_mono HO_4.out (fun _ hk => ⟨trivial, hk⟩)) hg hat)).2.2) KL28.out)); have n4_ := Aside0.mk (ho); clear HO_4; clear HO205; clear HB; clear HR201; clear HO_3; have HO_4 := n0_; have HO205 := n1_; have HB := n2_; have HR201 := n3_; have HO211 := n4_; clear n0_ n1_ n2_ n3_ n4_; clear ho hb hg hat))
                   go_roundg k1
                   case measure => have := HK1.out; omega
                   case rel => exact ⟨(y209), (wrap64 (x5_1 + 1)), (by first | rfl | (simp; done) | (simp [*]; done)), H', ⟨by have := HK1.out; omega⟩, ⟨re_ HO211.out⟩, ⟨by (with_reducible repeat (first | apply Kd.R_alloc | apply Kd.R_drewN | apply Kd.R_drew)); exact Kd.R_mono HO_4.out (fun _ hk => hk.2)⟩, ⟨bl_ HB.out⟩⟩
                 · rw [if_neg c25] at H
                   exact absurd H (by simp)
             · rw [if_neg c17] at H
               exact absurd H (by simp)
           · rw [if_neg c16] at H
             exact absurd H (by simp)
         · rw [if_neg c14] at H
           exact absurd H (by simp)
       · rw [if_neg c13] at H
         exact absurd H (by simp)
   · rw [if_neg c6] at H
     have c6b0 : decide (x5_1 < (t191.length : Int)) = false := decide_eq_false c6
     clear c6
     obtain rfl := Option.some.inj H
     obtain ⟨Ao32, co32, eo32⟩ := Kd.R_slice HO_4.out
     subst eo32
     go_wp2
     go_ret
     exact ⟨_, by first | rfl | (simp [errW_none, errW_some] <;> rfl) | (simp [*, errW_none, errW_some] <;> rfl), by (with_reducible repeat (first | apply Kd.R_alloc | apply Kd.R_drewN | apply Kd.R_drew)); exact Kd.R_mono HO_3.out (fun _ hk => trivial), bl_ HB.out⟩
end Go.Proofs.Ytapdhljbhekcdaa.PB
end
