-- Bundled by shake.py from this session's printed and written texts; Lean checks it.
import Derived.Test.YtjjajcldmkmgkaaDoorZFnExactDescribeSemigroupx1
section
namespace Go.Proofs.YtjjajcldmkmgkaaDoor.PA
open Go.RowKit Go.Proofs.YtjjajcldmkmgkaaDoorW.PrintWords Go.Proofs.YtjjajcldmkmgkaaDoorW.PrintLast Go.Proofs.YtjjajcldmkmgkaaDoorW.PrintMore
attribute [local go_sem] max2_int min2_int max_two min_two max_three min_three max_four min_four
set_option linter.unusedVariables false
set_option linter.unusedSimpArgs false
mutual
def spec_SortList.l0 : Nat → List Int → List Int → Int → Option (List Int)
 | 0, _, _, _ => none
 | k + 1, x0, x3, x4 => if x4 < (x0.length : Int) then (spec_SortList.l1 k x0 x3 x4 (x3.length : Int)) else (some x3)
def spec_SortList.l1 : Nat → List Int → List Int → Int → Int → Option (List Int)
 | 0, _, _, _, _ => none
 | k + 1, x0, x3, x4, x5 => if x5 > 0 then (if 0 ≤ (wrap64 (x5 - 1)) then (if (wrap64 (x5 - 1)) < (x3.length : Int) then (if 0 ≤ x4 then (if x4 < (x0.length : Int) then (if (rd x3 (wrap64 (x5 - 1))) > (rd x0 x4) then (spec_SortList.l1 k x0 x3 x4 (wrap64 (x5 - 1))) else (if (rd x3 (wrap64 (x5 - 1))) = (rd x0 x4) then (spec_SortList.l0 k x0 x3 (wrap64 (x4 + 1))) else ((some (([] : List Int) : List Int)).bind fun y124 => (if 0 ≤ x5 then (if x5 ≤ (x3.length : Int) then ((some (x3.drop (x5 : Int).toNat : List Int)).bind fun y127 => (if y124.length + y127.length < 17592186044416 then ((some (y124 ++ y127 : List Int)).bind fun y131 => ((some (x3.take (x5 : Int).toNat : List Int)).bind fun y134 => (if y134.length < 17592186044416 then ((some (y134 ++ [rd x0 x4] : List Int)).bind fun y138 => (if y138.length + y131.length < 17592186044416 then (spec_SortList.l0 k x0 (y138 ++ y131) (wrap64 (x4 + 1))) else (none))) else (none)))) else (none))) else (none)) else (none))))) else (none)) else (none)) else (none)) else (none)) else ((some (([] : List Int) : List Int)).bind fun y144 => (if 0 ≤ x5 then (if x5 ≤ (x3.length : Int) then ((some (x3.drop (x5 : Int).toNat : List Int)).bind fun y147 => (if y144.length + y147.length < 17592186044416 then ((some (y144 ++ y147 : List Int)).bind fun y151 => ((some (x3.take (x5 : Int).toNat : List Int)).bind fun y154 => (if 0 ≤ x4 then (if x4 < (x0.length : Int) then (if y154.length < 17592186044416 then ((some (y154 ++ [rd x0 x4] : List Int)).bind fun y158 => (if y158.length + y151.length < 17592186044416 then (spec_SortList.l0 k x0 (y158 ++ y151) (wrap64 (x4 + 1))) else (none))) else (none)) else (none)) else (none)))) else (none))) else (none)) else (none)))
end
def spec_SortList.f (k : Nat) (l0 : List Int) : Option (List Int) := spec_SortList.l0 k l0 (([] : List Int)) 0
def spec_SortList.T6 : Bool × List (List Nat × List Nat) := (true, [([], []), ([0], [0]), ([1], [1]), ([2], [2]), ([2], [2]), ([4, 2], [2, 4]), ([3, 5, 2], [2, 3, 5]), ([6, 2], [2, 6]), ([2], [2]), ([2], [2]), ([8, 9, 2], [2, 8, 9]), ([10, 2], [2, 10]), ([7, 11, 2], [2, 7, 11]), ([2, 12], [2, 12])])
def spec_SortList.B6 : List Nat := [0, 1, 3, 7, 7, 23, 63, 127, 7, 7, 775, 1799, 4095, 8191]
theorem spec_SortList.tab6 : rtab .any (opsOf Tryd.f68 6) = spec_SortList.T6 := by kernel_rfl
theorem spec_SortList.bits6 : waitsOk spec_SortList.T6.2 spec_SortList.B6 = true := by kernel_rfl
def spec_SortList.T8 : Bool × List (List Nat × List Nat) := (true, [([], []), ([0], [0]), ([1], [1]), ([2], [2]), ([2], [2]), ([4, 2], [2, 4]), ([3, 5, 2], [2, 3, 5]), ([6, 2], [2, 6]), ([2], [2]), ([2], [2]), ([8, 9, 2], [2, 8, 9]), ([10, 2], [2, 10]), ([7, 11, 2], [2, 7, 11]), ([2, 12], [2, 12])])
def spec_SortList.B8 : List Nat := [0, 1, 3, 7, 7, 23, 63, 127, 7, 7, 775, 1799, 4095, 8191]
theorem spec_SortList.tab8 : rtab .any (opsOf Tryd.f68 8) = spec_SortList.T8 := by kernel_rfl
theorem spec_SortList.bits8 : waitsOk spec_SortList.T8.2 spec_SortList.B8 = true := by kernel_rfl
def spec_SortList.T10 : Bool × List (List Nat × List Nat) := (true, [([], []), ([], []), ([0, 1], [0, 1]), ([], []), ([], []), ([3, 4], [3, 4]), ([5], [5]), ([6], [6]), ([2, 7], [2, 7]), ([], []), ([8, 9, 8], [8, 9]), ([10, 10, 0, 1, 2, 3, 4, 5, 6, 7, 8, 9, 10], [0, 10])])
def spec_SortList.B10 : List Nat := [0, 0, 3, 0, 0, 24, 56, 120, 255, 0, 1023, 2047]
theorem spec_SortList.tab10 : rtab .any (opsOf Tryd.f68 10) = spec_SortList.T10 := by kernel_rfl
theorem spec_SortList.bits10 : waitsOk spec_SortList.T10.2 spec_SortList.B10 = true := by kernel_rfl
set_option maxHeartbeats 8000000 in
set_option maxRecDepth 100000 in
theorem spec_SortList.calls (k : Nat) (A0 : Option Addr) (c0 : Nat) (l0 : List Int) (r : List Int) (w : World) (hr0 : Kd.C (Kd.int .i64) w A0 l0.length l0) (hc0 : l0.length ≤ c0) (h : spec_SortList.f k l0 = some r) :
 Calls Tryd.prog 68 #[.slice A0 l0.length c0] w fun e w' => ∃ v0_ : Value, e = .returned (v0_) ∧ Kd.R (Kd.int .i64) 3 w' w.heap.size (fun _ => True) v0_ r ∧ Below w.heap.size w w' := by
 have HR0 := Aside0.mk hr0
 have HC0 := Aside0.mk hc0
 clear hr0 hc0
 have HB := Aside0.mk (Below.refl w.heap.size w)
 have H : (spec_SortList.l0 k l0 (([] : List Int)) 0) = some r := h
 clear h
 obtain ⟨y117, hy117⟩ : ∃ y_ : List Int, y_ = (([] : List Int)) := ⟨_, rfl⟩
 replace H : (spec_SortList.l0 k l0 y117 0) = some r := by subst hy117; exact H
 have Ny117 := Aside0.mk hy117
 clear hy117
 have H' := Aside0.mk H
 clear H
 go_enter Tryd.func68, Tryd.ntmps68
 go_wp2_with (first | ((with_reducible refine gate_dst (N := 7) rfl ?_); refine Kd.R_lit (Kd.int .i64) _ 3 ?hg (N := 7) ?hd (xs := ([] : List Int)) (inner := []) (ok := fun _ => True) (okp := fun _ => True) ?hr ?hp (fun _ hk => hk) trivial (Below.refl _ _) (Nat.le_refl _) (by simp) ?_; (case hd => rfl); (case hg => rfl); (case hr => first | (go_simp; done) | (go_simp; rfl)); (case hp => exact (Reps.none _ _)); intro v118 w2 ho3 hb hg_ hnew_; clear hg_ hnew_; (first | rw [← Ny117.out] at ho3 | (simp only [Int.reduceToNat] at ho3; rw [← Ny117.out] at ho3)); have HO119 := Aside0.mk (Kd.R_lower ho3 (below_size (bl_ HB.out))); replace HB := Aside0.mk (below_step (bl_ HB.out) hb); clear hb ho3))
 go_loopg [3, 4] k (fun kq v3 v4 w' => ∃ (x3_1 : List Int) (x4_1 : Int), v4 = .int .i64 x4_1 ∧ Aside0 (spec_SortList.l0 kq l0 x3_1 x4_1 = some r) ∧ Aside0 (kq ≤ k) ∧ Aside0 (Kd.R (Kd.int .i64) 3 w' w.heap.size (fun _ => True) v3 x3_1) ∧ Aside0 (Below w.heap.size w w'))
 case atStart => exact ⟨(y117), (0), (by first | rfl | (simp; done) | (simp [*]; done)), H', ⟨Nat.le_refl _⟩, ⟨re_ HO119.out⟩, ⟨bl_ HB.out⟩⟩
 case round =>
  clear H'
  try clear p2
  obtain ⟨x3_1, x4_1, rfl, HA, HK1, HO_3, HB⟩ := hrel
  cases gk with
  | zero => exact absurd HA.out (by simp [spec_SortList.l0])
  | succ k1 =>
   have H := HA.out
   clear HA
   simp only [spec_SortList.l0] at H
   by_cases c4 : x4_1 < (l0.length : Int)
   · rw [if_pos c4] at H
     have c4b0 : decide (x4_1 < (l0.length : Int)) = true := decide_eq_true c4
     clear c4
     have H' := Aside0.mk H
     clear H
     obtain ⟨Ao5, co5, eo5⟩ := Kd.R_slice HO_3.out
     subst eo5
     go_wp2
     go_loopg [5] k1 (fun kq v5 w' => ∃ (x5_2 : Int), v5 = .int .i64 x5_2 ∧ Aside0 (spec_SortList.l1 kq l0 x3_1 x4_1 x5_2 = some r) ∧ Aside0 (kq ≤ k1) ∧ Aside0 (Kd.R (Kd.int .i64) 3 w' w.heap.size (fun _ => True) (.slice Ao5 x3_1.length co5) x3_1) ∧ Aside0 (Below w.heap.size w w'))
     case atStart => exact ⟨((x3_1.length : Int)), (by first | rfl | (simp; done) | (simp [*]; done)), H', ⟨Nat.le_refl _⟩, ⟨re_ HO_3.out⟩, ⟨bl_ HB.out⟩⟩
     case round =>
      clear H'
      try clear p2
      try clear c4
      try clear c4b0
      try clear p2
      obtain ⟨x5_2, rfl, HA, HK2, HO_3, HB⟩ := hrel
      cases gk with
      | zero => exact absurd HA.out (by simp [spec_SortList.l1])
      | succ k2 =>
       have H := HA.out
       clear HA
       simp only [spec_SortList.l1] at H
       by_cases c6 : x5_2 > 0
       · rw [if_pos c6] at H
         have c6b0 : decide (0 < x5_2) = true := decide_eq_true c6
         clear c6
         obtain ⟨ji7, hji7⟩ : ∃ j_ : Int, (wrap64 (x5_2 - 1)) = j_ := ⟨_, rfl⟩
         replace H : (if 0 ≤ (ji7) then (if (ji7) < (x3_1.length : Int) then (if 0 ≤ x4_1 then (if x4_1 < (l0.length : Int) then (if (rd x3_1 (ji7)) > (rd l0 x4_1) then (spec_SortList.l1 k2 l0 x3_1 x4_1 ji7) else (if (rd x3_1 (ji7)) = (rd l0 x4_1) then (spec_SortList.l0 k2 l0 x3_1 (wrap64 (x4_1 + 1))) else ((some (([] : List Int) : List Int)).bind fun y124 => (if 0 ≤ x5_2 then (if x5_2 ≤ (x3_1.length : Int) then ((some (x3_1.drop (x5_2 : Int).toNat : List Int)).bind fun y127 => (if y124.length + y127.length < 17592186044416 then ((some (y124 ++ y127 : List Int)).bind fun y131 => ((some (x3_1.take (x5_2 : Int).toNat : List Int)).bind fun y134 => (if y134.length < 17592186044416 then ((some (y134 ++ [rd l0 x4_1] : List Int)).bind fun y138 => (if y138.length + y131.length < 17592186044416 then (spec_SortList.l0 k2 l0 (y138 ++ y131) (wrap64 (x4_1 + 1))) else (none))) else (none)))) else (none))) else (none)) else (none))))) else (none)) else (none)) else (none)) else (none)) = some r := by first | (rw [hji7] at H; exact H) | (simp only [hji7] at H ⊢; exact H)
         have hji7w : (IntKind.i64.wrap (x5_2 - 1)) = ji7 := (i64_w _).trans hji7
         by_cases c8 : 0 ≤ (ji7)
         · rw [if_pos c8] at H
           have c8b0 : decide (0 ≤ (ji7)) = true := decide_eq_true c8
           clear c8
           by_cases c9 : (ji7) < (x3_1.length : Int)
           · rw [if_pos c9] at H
             have c9b0 : decide ((ji7) < (x3_1.length : Int)) = true := decide_eq_true c9
             clear c9
             by_cases c10 : 0 ≤ x4_1
             · rw [if_pos c10] at H
               have c10b0 : decide (0 ≤ x4_1) = true := decide_eq_true c10
               clear c10
               by_cases c11 : x4_1 < (l0.length : Int)
               · rw [if_pos c11] at H
                 have c11b0 : decide (x4_1 < (l0.length : Int)) = true := decide_eq_true c11
                 clear c11
                 by_cases c12 : (rd x3_1 (ji7)) > (rd l0 x4_1)
                 · rw [if_pos c12] at H
                   have c12b0 : decide ((rd l0 x4_1) < (rd x3_1 (ji7))) = true := decide_eq_true c12
                   clear c12
                   have H' := Aside0.mk H
                   clear H
                   try go_wp2
                   replace HO_3 := Aside0.mk (Kd.R_drew HO_3.out)
                   replace HB := Aside0.mk (below_drew1 HB.out)
                   have p120 : 0 ≤ ((ji7) : Int) := od_
                   have q120 : (ji7) < (x3_1.length : Int) := od_
                   obtain ⟨ad120, e120, hx120_0⟩ := Kd.at_int (Kd.R_reads' HO_3.out).2.2 (ji7) p120 q120
                   cases e120
                   replace p120 := eq_true p120
                   replace q120 := eq_true q120
                   have p121 : 0 ≤ (x4_1 : Int) := od_
                   have q121 : x4_1 < (l0.length : Int) := od_
                   obtain ⟨ad121, e121, hx121_0⟩ := Kd.at_int HR0.out x4_1 p121 q121
                   have hw121_0 := hx121_0
                   cases e121
                   (try replace hx121_0 := (HB.out.cell (World.block_lt_of_cell? w _ hx121_0)).trans hx121_0)
                   replace p121 := eq_true p121
                   replace q121 := eq_true q121
                   refine start_ (n := 14) (S := fun w' => w'.cell? (ad120.add ((ji7)).toNat) = some (.int .i64 (rd x3_1 (ji7))) ∧ w'.cell? (ad121.add (x4_1).toNat) = some (.int .i64 (rd l0 x4_1))) (ds := []) (B_ 0 14) (by kernel_rfl) rfl rfl ⟨hx120_0, ((HB.out.cell (World.block_lt_of_cell? w _ hw121_0)).trans hw121_0)⟩ (fun hHeld => ?_); refine with_tabW spec_SortList.tab6 spec_SortList.bits6 (fun HT_ HW_ => ?_)
                   generalize wr.drew = w13 at HO_3 HB hx120_0 hx121_0 hHeld ⊢
                   refine pu_ HT_ 0 16 (B_ 1 14) ?_
                   refine pu_ HT_ 1 17 (B_ 3 14) ?_
                   refine pu_ HT_ 2 18 (B_ 7 14) ?_
                   refine pu_ HT_ 3 19 (B_ 15 14) ?_
                   refine pu_ HT_ 4 20 (B_ 31 14) ?_
                   refine pu_ HT_ 5 21 (B_ 63 14) ?_
                   refine pu_ HT_ 6 22 (B_ 127 14) ?_
                   refine pu_ HT_ 8 24 (B_ 383 14) ?_
                   refine pu_ HT_ 9 25 (B_ 895 14) ?_
                   refine pu_ HT_ 10 26 (B_ 1919 14) ?_
                   refine tk2_ HT_ HW_ hHeld 7 23 (B_ 2047 14) ?_
                   refine tk2_ HT_ HW_ hHeld 11 27 (B_ 4095 14) ?_
                   refine pu_ HT_ 12 28 (B_ 8191 14) ?_
                   refine pu_ HT_ 13 29 (B_ 16383 14) ?_
                   refine done_ (done_of HT_.out (by kernel_rfl)) ?_
                   try go_wp2
                   go_roundg k2
                   case measure => have := HK1.out; have := HK2.out; omega
                   case rel => exact ⟨(ji7), (by first | rfl | (simp; done) | (simp only [← hji7] <;> (first | rfl | simp)) | (simp [*]; done)), H', ⟨by have := HK1.out; have := HK2.out; omega⟩, ⟨re_ HO_3.out⟩, ⟨bl_ HB.out⟩⟩
                 · rw [if_neg c12] at H
                   have c12b0 : decide ((rd l0 x4_1) < (rd x3_1 (ji7))) = false := decide_eq_false c12
                   clear c12
                   by_cases c14 : (rd x3_1 (ji7)) = (rd l0 x4_1)
                   · rw [if_pos c14] at H
                     have c14b0 : ((rd x3_1 (ji7)) == (rd l0 x4_1)) = true := beq_iff_eq.mpr c14
                     have c14b1 : ((rd x3_1 (ji7)) != (rd l0 x4_1)) = false := bne_eq_false_iff_eq.mpr c14
                     clear c14
                     have H' := Aside0.mk H
                     clear H
                     try go_wp2
                     replace HO_3 := Aside0.mk (Kd.R_drew HO_3.out)
                     replace HB := Aside0.mk (below_drew1 HB.out)
                     have p120 : 0 ≤ ((ji7) : Int) := od_
                     have q120 : (ji7) < (x3_1.length : Int) := od_
                     obtain ⟨ad120, e120, hx120_0⟩ := Kd.at_int (Kd.R_reads' HO_3.out).2.2 (ji7) p120 q120
                     cases e120
                     replace p120 := eq_true p120
                     replace q120 := eq_true q120
                     have p121 : 0 ≤ (x4_1 : Int) := od_
                     have q121 : x4_1 < (l0.length : Int) := od_
                     obtain ⟨ad121, e121, hx121_0⟩ := Kd.at_int HR0.out x4_1 p121 q121
                     have hw121_0 := hx121_0
                     cases e121
                     (try replace hx121_0 := (HB.out.cell (World.block_lt_of_cell? w _ hx121_0)).trans hx121_0)
                     replace p121 := eq_true p121
                     replace q121 := eq_true q121
                     refine start_ (n := 14) (S := fun w' => w'.cell? (ad120.add ((ji7)).toNat) = some (.int .i64 (rd x3_1 (ji7))) ∧ w'.cell? (ad121.add (x4_1).toNat) = some (.int .i64 (rd l0 x4_1))) (ds := []) (B_ 0 14) (by kernel_rfl) rfl rfl ⟨hx120_0, ((HB.out.cell (World.block_lt_of_cell? w _ hw121_0)).trans hw121_0)⟩ (fun hHeld => ?_); refine with_tabW spec_SortList.tab6 spec_SortList.bits6 (fun HT_ HW_ => ?_)
                     generalize wr.drew = w15 at HO_3 HB hx120_0 hx121_0 hHeld ⊢
                     refine pu_ HT_ 0 16 (B_ 1 14) ?_
                     refine pu_ HT_ 1 17 (B_ 3 14) ?_
                     refine pu_ HT_ 2 18 (B_ 7 14) ?_
                     refine pu_ HT_ 3 19 (B_ 15 14) ?_
                     refine pu_ HT_ 4 20 (B_ 31 14) ?_
                     refine pu_ HT_ 5 21 (B_ 63 14) ?_
                     refine pu_ HT_ 6 22 (B_ 127 14) ?_
                     refine pu_ HT_ 8 24 (B_ 383 14) ?_
                     refine pu_ HT_ 9 25 (B_ 895 14) ?_
                     refine pu_ HT_ 10 26 (B_ 1919 14) ?_
                     refine tk2_ HT_ HW_ hHeld 7 23 (B_ 2047 14) ?_
                     refine tk2_ HT_ HW_ hHeld 11 27 (B_ 4095 14) ?_
                     refine pu_ HT_ 12 28 (B_ 8191 14) ?_
                     refine pu_ HT_ 13 29 (B_ 16383 14) ?_
                     refine done_ (done_of HT_.out (by kernel_rfl)) ?_
                     try go_wp2
                     replace HO_3 := Aside0.mk (Kd.R_drew HO_3.out)
                     replace HB := Aside0.mk (below_drew1 HB.out)
                     have p122 : 0 ≤ ((ji7) : Int) := od_
                     have q122 : (ji7) < (x3_1.length : Int) := od_
                     obtain ⟨ad122, e122, hx122_0⟩ := Kd.at_int (Kd.R_reads' HO_3.out).2.2 (ji7) p122 q122
                     obtain rfl : ad120 = ad122 := (by injection e122)
                     replace p122 := eq_true p122
                     replace q122 := eq_true q122
                     have p123 : 0 ≤ (x4_1 : Int) := od_
                     have q123 : x4_1 < (l0.length : Int) := od_
                     obtain ⟨ad123, e123, hx123_0⟩ := Kd.at_int HR0.out x4_1 p123 q123
                     have hw123_0 := hx123_0
                     obtain rfl : ad121 = ad123 := (by injection e123)
                     (try replace hx123_0 := (HB.out.cell (World.block_lt_of_cell? w _ hx123_0)).trans hx123_0)
                     replace p123 := eq_true p123
                     replace q123 := eq_true q123
                     refine start_ (n := 14) (S := fun w' => w'.cell? (ad120.add ((ji7)).toNat) = some (.int .i64 (rd x3_1 (ji7))) ∧ w'.cell? (ad121.add (x4_1).toNat) = some (.int .i64 (rd l0 x4_1))) (ds := []) (B_ 0 14) (by kernel_rfl) rfl rfl ⟨hx122_0, ((HB.out.cell (World.block_lt_of_cell? w _ hw123_0)).trans hw123_0)⟩ (fun hHeld => ?_); refine with_tabW spec_SortList.tab8 spec_SortList.bits8 (fun HT_ HW_ => ?_)
                     generalize w15.drew = w16 at HO_3 HB hx122_0 hx123_0 hHeld ⊢
                     refine pu_ HT_ 0 32 (B_ 1 14) ?_
                     refine pu_ HT_ 1 33 (B_ 3 14) ?_
                     refine pu_ HT_ 2 34 (B_ 7 14) ?_
                     refine pu_ HT_ 3 35 (B_ 15 14) ?_
                     refine pu_ HT_ 4 36 (B_ 31 14) ?_
                     refine pu_ HT_ 5 37 (B_ 63 14) ?_
                     refine pu_ HT_ 6 38 (B_ 127 14) ?_
                     refine pu_ HT_ 8 40 (B_ 383 14) ?_
                     refine pu_ HT_ 9 41 (B_ 895 14) ?_
                     refine pu_ HT_ 10 42 (B_ 1919 14) ?_
                     refine tk2_ HT_ HW_ hHeld 7 39 (B_ 2047 14) ?_
                     refine tk2_ HT_ HW_ hHeld 11 43 (B_ 4095 14) ?_
                     refine pu_ HT_ 12 44 (B_ 8191 14) ?_
                     refine pu_ HT_ 13 45 (B_ 16383 14) ?_
                     refine done_ (done_of HT_.out (by kernel_rfl)) ?_
                     try go_wp2
                     go_roundg k2
                     case measure => have := HK1.out; have := HK2.out; omega
                     case rel => exact ⟨(x3_1), (wrap64 (x4_1 + 1)), (by first | rfl | (simp; done) | (simp [*]; done)), H', ⟨by have := HK1.out; have := HK2.out; omega⟩, ⟨re_ HO_3.out⟩, ⟨bl_ HB.out⟩⟩
                   · rw [if_neg c14] at H
                     have c14b0 : ((rd x3_1 (ji7)) == (rd l0 x4_1)) = false := beq_eq_false_iff_ne.mpr c14
                     have c14b1 : ((rd x3_1 (ji7)) != (rd l0 x4_1)) = true := bne_iff_ne.mpr c14
                     obtain ⟨y124, hy124⟩ : ∃ y_ : List Int, y_ = (([] : List Int)) := ⟨_, rfl⟩
                     replace H : (if 0 ≤ x5_2 then (if x5_2 ≤ (x3_1.length : Int) then ((some (x3_1.drop (x5_2 : Int).toNat : List Int)).bind fun y127 => (if y124.length + y127.length < 17592186044416 then ((some (y124 ++ y127 : List Int)).bind fun y131 => ((some (x3_1.take (x5_2 : Int).toNat : List Int)).bind fun y134 => (if y134.length < 17592186044416 then ((some (y134 ++ [rd l0 x4_1] : List Int)).bind fun y138 => (if y138.length + y131.length < 17592186044416 then (spec_SortList.l0 k2 l0 (y138 ++ y131) (wrap64 (x4_1 + 1))) else (none))) else (none)))) else (none))) else (none)) else (none)) = some r := by subst hy124; exact H
                     have Ny124 := Aside0.mk hy124
                     clear hy124
                     by_cases c17 : 0 ≤ x5_2
                     · rw [if_pos c17] at H
                       have c17b0 := eq_true c17
                       have c17b1 : decide (0 ≤ x5_2) = true := decide_eq_true c17
                       clear c17
                       by_cases c18 : x5_2 ≤ (x3_1.length : Int)
                       · rw [if_pos c18] at H
                         have c18b0 := eq_true c18
                         have c18b1 : decide (x5_2 ≤ (x3_1.length : Int)) = true := decide_eq_true c18
                         clear c18
                         obtain ⟨y127, hy127⟩ : ∃ y_ : List Int, y_ = (x3_1.drop (x5_2 : Int).toNat) := ⟨_, rfl⟩
                         replace H : (if y124.length + y127.length < 17592186044416 then ((some (y124 ++ y127 : List Int)).bind fun y131 => ((some (x3_1.take (x5_2 : Int).toNat : List Int)).bind fun y134 => (if y134.length < 17592186044416 then ((some (y134 ++ [rd l0 x4_1] : List Int)).bind fun y138 => (if y138.length + y131.length < 17592186044416 then (spec_SortList.l0 k2 l0 (y138 ++ y131) (wrap64 (x4_1 + 1))) else (none))) else (none)))) else (none)) = some r := by subst hy127; exact H
                         have Ny127 := Aside0.mk hy127
                         clear hy127
                         by_cases c19 : y124.length + y127.length < 17592186044416
                         · rw [if_pos c19] at H
                           have LMc19 := Aside0.mk c19
                           clear c19
                           obtain ⟨y131, hy131⟩ : ∃ y_ : List Int, y_ = (y124 ++ y127) := ⟨_, rfl⟩
                           replace H : ((some (x3_1.take (x5_2 : Int).toNat : List Int)).bind fun y134 => (if y134.length < 17592186044416 then ((some (y134 ++ [rd l0 x4_1] : List Int)).bind fun y138 => (if y138.length + y131.length < 17592186044416 then (spec_SortList.l0 k2 l0 (y138 ++ y131) (wrap64 (x4_1 + 1))) else (none))) else (none))) = some r := by subst hy131; exact H
                           have Ny131 := Aside0.mk hy131
                           clear hy131
                           have c20b0 := eq_true (od_ : x5_2 ≤ (x3_1.length : Int))
                           obtain ⟨y134, hy134⟩ : ∃ y_ : List Int, y_ = (x3_1.take (x5_2 : Int).toNat) := ⟨_, rfl⟩
                           replace H : (if y134.length < 17592186044416 then ((some (y134 ++ [rd l0 x4_1] : List Int)).bind fun y138 => (if y138.length + y131.length < 17592186044416 then (spec_SortList.l0 k2 l0 (y138 ++ y131) (wrap64 (x4_1 + 1))) else (none))) else (none)) = some r := by subst hy134; exact H
                           have Ny134 := Aside0.mk hy134
                           clear hy134
                           by_cases c21 : y134.length < 17592186044416
                           · rw [if_pos c21] at H
                             have LMc21 := Aside0.mk c21
                             clear c21
                             obtain ⟨y138, hy138⟩ : ∃ y_ : List Int, y_ = (y134 ++ [rd l0 x4_1]) := ⟨_, rfl⟩
                             replace H : (if y138.length + y131.length < 17592186044416 then (spec_SortList.l0 k2 l0 (y138 ++ y131) (wrap64 (x4_1 + 1))) else (none)) = some r := by subst hy138; exact H
                             have Ny138 := Aside0.mk hy138
                             clear hy138
                             by_cases c22 : y138.length + y131.length < 17592186044416
                             · rw [if_pos c22] at H
                               have LMc22 := Aside0.mk c22
                               clear c22
                               obtain ⟨y141, hy141⟩ : ∃ y_ : List Int, y_ = (y138 ++ y131) := ⟨_, rfl⟩
                               replace H : (spec_SortList.l0 k2 l0 y141 (wrap64 (x4_1 + 1))) = some r := by subst hy141; exact H
                               have Ny141 := Aside0.mk hy141
                               clear hy141
                               have H' := Aside0.mk H
                               clear H
                               try go_wp2
                               replace HO_3 := Aside0.mk (Kd.R_drew HO_3.out)
                               replace HB := Aside0.mk (below_drew1 HB.out)
                               have p120 : 0 ≤ ((ji7) : Int) := od_
                               have q120 : (ji7) < (x3_1.length : Int) := od_
                               obtain ⟨ad120, e120, hx120_0⟩ := Kd.at_int (Kd.R_reads' HO_3.out).2.2 (ji7) p120 q120
                               cases e120
                               replace p120 := eq_true p120
                               replace q120 := eq_true q120
                               have p121 : 0 ≤ (x4_1 : Int) := od_
                               have q121 : x4_1 < (l0.length : Int) := od_
                               obtain ⟨ad121, e121, hx121_0⟩ := Kd.at_int HR0.out x4_1 p121 q121
                               have hw121_0 := hx121_0
                               cases e121
                               (try replace hx121_0 := (HB.out.cell (World.block_lt_of_cell? w _ hx121_0)).trans hx121_0)
                               replace p121 := eq_true p121
                               replace q121 := eq_true q121
                               refine start_ (n := 14) (S := fun w' => w'.cell? (ad120.add ((ji7)).toNat) = some (.int .i64 (rd x3_1 (ji7))) ∧ w'.cell? (ad121.add (x4_1).toNat) = some (.int .i64 (rd l0 x4_1))) (ds := []) (B_ 0 14) (by kernel_rfl) rfl rfl ⟨hx120_0, ((HB.out.cell (World.block_lt_of_cell? w _ hw121_0)).trans hw121_0)⟩ (fun hHeld => ?_); refine with_tabW spec_SortList.tab6 spec_SortList.bits6 (fun HT_ HW_ => ?_)
                               generalize wr.drew = w23 at HO_3 HB hx120_0 hx121_0 hHeld ⊢
                               refine pu_ HT_ 0 16 (B_ 1 14) ?_
                               refine pu_ HT_ 1 17 (B_ 3 14) ?_
                               refine pu_ HT_ 2 18 (B_ 7 14) ?_
                               refine pu_ HT_ 3 19 (B_ 15 14) ?_
                               refine pu_ HT_ 4 20 (B_ 31 14) ?_
                               refine pu_ HT_ 5 21 (B_ 63 14) ?_
                               refine pu_ HT_ 6 22 (B_ 127 14) ?_
                               refine pu_ HT_ 8 24 (B_ 383 14) ?_
                               refine pu_ HT_ 9 25 (B_ 895 14) ?_
                               refine pu_ HT_ 10 26 (B_ 1919 14) ?_
                               refine tk2_ HT_ HW_ hHeld 7 23 (B_ 2047 14) ?_
                               refine tk2_ HT_ HW_ hHeld 11 27 (B_ 4095 14) ?_
                               refine pu_ HT_ 12 28 (B_ 8191 14) ?_
                               refine pu_ HT_ 13 29 (B_ 16383 14) ?_
                               refine done_ (done_of HT_.out (by kernel_rfl)) ?_
                               try go_wp2
                               replace HO_3 := Aside0.mk (Kd.R_drew HO_3.out)
                               replace HB := Aside0.mk (below_drew1 HB.out)
                               have p122 : 0 ≤ ((ji7) : Int) := od_
                               have q122 : (ji7) < (x3_1.length : Int) := od_
                               obtain ⟨ad122, e122, hx122_0⟩ := Kd.at_int (Kd.R_reads' HO_3.out).2.2 (ji7) p122 q122
                               obtain rfl : ad120 = ad122 := (by injection e122)
                               replace p122 := eq_true p122
                               replace q122 := eq_true q122
                               have p123 : 0 ≤ (x4_1 : Int) := od_
                               have q123 : x4_1 < (l0.length : Int) := od_
                               obtain ⟨ad123, e123, hx123_0⟩ := Kd.at_int HR0.out x4_1 p123 q123
                               have hw123_0 := hx123_0
                               obtain rfl : ad121 = ad123 := (by injection e123)
                               (try replace hx123_0 := (HB.out.cell (World.block_lt_of_cell? w _ hx123_0)).trans hx123_0)
                               replace p123 := eq_true p123
                               replace q123 := eq_true q123
                               refine start_ (n := 14) (S := fun w' => w'.cell? (ad120.add ((ji7)).toNat) = some (.int .i64 (rd x3_1 (ji7))) ∧ w'.cell? (ad121.add (x4_1).toNat) = some (.int .i64 (rd l0 x4_1))) (ds := []) (B_ 0 14) (by kernel_rfl) rfl rfl ⟨hx122_0, ((HB.out.cell (World.block_lt_of_cell? w _ hw123_0)).trans hw123_0)⟩ (fun hHeld => ?_); refine with_tabW spec_SortList.tab8 spec_SortList.bits8 (fun HT_ HW_ => ?_)
                               generalize w23.drew = w24 at HO_3 HB hx122_0 hx123_0 hHeld ⊢
                               refine pu_ HT_ 0 32 (B_ 1 14) ?_
                               refine pu_ HT_ 1 33 (B_ 3 14) ?_
                               refine pu_ HT_ 2 34 (B_ 7 14) ?_
                               refine pu_ HT_ 3 35 (B_ 15 14) ?_
                               refine pu_ HT_ 4 36 (B_ 31 14) ?_
                               refine pu_ HT_ 5 37 (B_ 63 14) ?_
                               refine pu_ HT_ 6 38 (B_ 127 14) ?_
                               refine pu_ HT_ 8 40 (B_ 383 14) ?_
                               refine pu_ HT_ 9 41 (B_ 895 14) ?_
                               refine pu_ HT_ 10 42 (B_ 1919 14) ?_
                               refine tk2_ HT_ HW_ hHeld 7 39 (B_ 2047 14) ?_
                               refine tk2_ HT_ HW_ hHeld 11 43 (B_ 4095 14) ?_
                               refine pu_ HT_ 12 44 (B_ 8191 14) ?_
                               refine pu_ HT_ 13 45 (B_ 16383 14) ?_
                               refine done_ (done_of HT_.out (by kernel_rfl)) ?_
                               try go_wp2_with (first | ((with_reducible refine gate_dst (N := 46) rfl ?_); refine Kd.R_lit (Kd.int .i64) _ 3 ?hg (N := 46) ?hd (xs := ([] : List Int)) (inner := []) (ok := fun _ => True) (okp := fun _ => True) ?hr ?hp (fun _ hk => hk) trivial (Below.refl _ _) (Nat.le_refl _) (by simp) ?_; (case hd => rfl); (case hg => rfl); (case hr => first | (go_simp; done) | (go_simp; rfl)); (case hp => exact (Reps.none _ _)); intro v125 w25 ho26 hb hg_ hnew_; clear hg_ hnew_; (first | rw [← Ny124.out] at ho26 | (simp only [Int.reduceToNat] at ho26; rw [← Ny124.out] at ho26)); have HO126 := Aside0.mk (Kd.R_lower (Kd.R_new' ho26 (Kd.R_lt (re_ HO_3.out))) (below_size (bl_ HB.out))); replace HO_3 := Aside0.mk (Kd.R_elder' (re_ HO_3.out) (Kd.R_base ho26) hb); replace HB := Aside0.mk (below_step (bl_ HB.out) hb); clear hb ho26; have q27 : (x5_2 : Int) ≤ ((x3_1.length : Int) : Int) := od_; obtain ⟨i027, hi027, _, hsz27, _⟩ := info_parts info3; have hroom27 : x3_1.length ≤ co5 := (Kd.R_reads' HO_3.out).2.1; have hC27 : Kd.C (Kd.int .i64) _ (some ad120) x3_1.length x3_1 := (Kd.R_reads' HO_3.out).2.2; have q027 : (0 : Int) ≤ (x5_2 : Int) := od_; have hcut27 := cut_from (P := Tryd.prog) 22 3 .i64 Tryd.underlying22 hi027 1 hsz27 (some ad120) x3_1.length co5 x5_2 q027 q27; have hr27 := Kd.C_drop (m := (x5_2 : Int).toNat) (c := co5) hC27 (by omega) hroom27; obtain ⟨A27, hA27⟩ : ∃ A1, A1 = (if co5 = (x5_2 : Int).toNat then (some ad120) else ((some ad120) : Option Addr).map (·.add ((x5_2 : Int).toNat * 1))) := ⟨_, rfl⟩; obtain ⟨c27, hc27⟩ : ∃ c1, c1 = co5 - (x5_2 : Int).toNat := ⟨_, rfl⟩; have hy27 : y127.length = x3_1.length - (x5_2 : Int).toNat := (by rw [Ny127.out, List.length_drop] <;> omega); rw [show (x3_1).drop (x5_2 : Int).toNat = y127 from Ny127.out.symm] at hr27; replace hr27 : Kd.C (Kd.int .i64) _ A27 y127.length y127 := (by rw [hA27]; exact hr27); rw [← hy27, ← hA27, ← hc27] at hcut27; have HR130 := Aside0.mk hr27; have HC130 := Aside0.mk (show y127.length ≤ c27 from by rw [hy27, hc27]; exact Nat.sub_le_sub_right hroom27 _); clear hr27 hC27 hroom27 hi027 hsz27 hc27; have KY27 := Aside0.mk hy27; have KA27 := Aside0.mk hA27; clear hy27 hA27; have KL27 := Aside0.mk (show (x5_2 : Int).toNat ≤ x3_1.length from by omega); replace q27 := eq_true q27) | ((with_reducible refine gate_builtin (b := .append) (xs := #[.tmp 46, .tmp 49]) rfl ?_); at_builtin; refine Kd.R_append_rows (Kd.int .i64) (w0 := w) w.heap.size rfl (.tmp 46) (.tmp 49) 22 3 (.int .i64 0) 8 rfl Tryd.underlying22 info3 rfl (by decide) (by omega) v125 y124 y127 _ _ _ (fun k_ => some k_ ≠ (.slice (some ad120) x3_1.length co5 : Value).ownBlock) (fun _ => False) rfl rfl ?aO ?aR (fun _ _ h => h) (fun _ h => h.elim) ?aF ?aB ?aS ?aL ?_; (case aR => repeat (first | exact (by repeat (first | (with_reducible exact HR130.out) | (with_reducible refine Kd.C_alloc ?_ _) | (with_reducible refine Kd.C_drewN ?_ _) | (with_reducible refine Kd.C_drew ?_) | exact HR130.out)) | (with_reducible refine Kd.C_alloc ?_ _) | (with_reducible refine Kd.C_drewN ?_ _) | (with_reducible refine Kd.C_drew ?_))); (case aB => exact (bl_ HB.out)); (case aF => exact (fun k_ hk => Kd.fresh' (Kd.R_lt (re_ HO_3.out)) k_ hk)); (case aO => exact (by (with_reducible repeat (first | apply Kd.R_alloc | apply Kd.R_drewN | apply Kd.R_drew)); exact Kd.R_mono HO126.out (fun _ hk => hk.2))); (case aS => exact (below_size (bl_ HB.out))); (case aL => have := LMc19.out; omega); intro v132 w28 ho hb hg hat; rw [← Ny131.out] at ho; replace HB := Aside0.mk (hb); replace HR130 := Aside0.mk ((show Kd.C (Kd.int .i64) w28 A27 y127.length y127 from by rw [Ny127.out, KA27.out]; exact Kd.C_drop (m := (x5_2 : Int).toNat) (c := co5) ((Kd.R_reads' (Kd.R_after (ok := (fun _ => True)) (re_ HO_3.out) hg hat)).2.2) KL27.out ((Kd.R_reads' (Kd.R_after (ok := (fun _ => True)) (re_ HO_3.out) hg hat)).2.1))); replace HO_3 := Aside0.mk (Kd.R_after (ok := (fun _ => True)) (re_ HO_3.out) hg hat); have HO133 := Aside0.mk (ho); clear HO126; clear ho hb hg hat))
                               replace HO_3 := Aside0.mk (Kd.R_drew HO_3.out)
                               replace HO133 := Aside0.mk (Kd.R_drew HO133.out)
                               replace HR130 := Aside0.mk (Kd.C_drew HR130.out)
                               replace HB := Aside0.mk (below_drew1 HB.out)
                               have q30 : (x5_2 : Int) ≤ ((x3_1.length : Int) : Int) := od_
                               obtain ⟨i030, hi030, _, hsz30, _⟩ := info_parts info3
                               have hcut30 := cut_to (P := Tryd.prog) 22 3 .i64 Tryd.underlying22 hi030 (some ad120) x3_1.length co5 x5_2 (od_) q30 (Kd.R_reads' HO_3.out).2.1
                               have hr30 := Kd.R_take (m := (x5_2 : Int).toNat) HO_3.out (by omega)
                               have hy30 : y134.length = (x5_2 : Int).toNat := (by rw [Ny134.out, List.length_take]; omega)
                               rw [← Ny134.out] at hr30
                               rw [← hy30] at hr30 hcut30
                               clear hy30 hi030 hsz30 HO_3
                               have HO136 := Aside0.mk hr30
                               clear hr30
                               replace q30 := eq_true q30
                               have p137 : 0 ≤ (x4_1 : Int) := od_
                               have q137 : x4_1 < (l0.length : Int) := od_
                               obtain ⟨ad137, e137, hx137_0⟩ := Kd.at_int HR0.out x4_1 p137 q137
                               have hw137_0 := hx137_0
                               obtain rfl : ad121 = ad137 := (by injection e137)
                               (try replace hx137_0 := (HB.out.cell (World.block_lt_of_cell? w _ hx137_0)).trans hx137_0)
                               replace p137 := eq_true p137
                               replace q137 := eq_true q137
                               refine start_ (n := 12) (S := fun w' => w'.cell? (ad121.add (x4_1).toNat) = some (.int .i64 (rd l0 x4_1))) (ds := []) (B_ 0 12) (by kernel_rfl) rfl rfl (by first | exact hw137_0 | exact (HB.out.cell (World.block_lt_of_cell? w _ hw137_0)).trans hw137_0 | (obtain ⟨_, e_, h_⟩ := Kd.at_int HR0.out x4_1 (of_eq_true p137) (of_eq_true q137); cases e_; exact h_)) (fun hHeld => ?_); refine with_tabW spec_SortList.tab10 spec_SortList.bits10 (fun HT_ HW_ => ?_)
                               generalize w28.drew = w29 at HO_3 HO133 HR130 HB HO136 hx137_0 hHeld ⊢
                               refine pu_ HT_ 0 51 (B_ 1 12) ?_
                               refine pu_ HT_ 1 52 (B_ 3 12) ?_
                               refine pu_ HT_ 2 53 (B_ 7 12) ?_
                               refine pu_ HT_ 3 54 (B_ 15 12) ?_
                               refine pu_ HT_ 4 55 (B_ 31 12) ?_
                               refine pu_ HT_ 5 56 (B_ 63 12) ?_
                               refine pu_ HT_ 9 60 (B_ 575 12) ?_
                               refine tk1_ HT_ HW_ hHeld 6 57 (B_ 639 12) ?_
                               refine one_ (i := 7) (N := some 58) (B_ 767 12) rfl rfl (one_of HT_.out (by kernel_rfl)) (by decide) (fun K hK => ?_)
                               refine value_ (w1 := ?_) (v := ?_) (by rfl) rfl ?_ ?_
                               rotate_left 2
                               · go_simp
                                 constructor
                                 · rfl
                                 · rfl
                               refine hK.out _ _ ((World.cell?_alloc_lt _ _ _ (World.block_lt_of_cell? _ _ (by first | exact hw137_0 | exact (HB.out.cell (World.block_lt_of_cell? w _ hw137_0)).trans hw137_0 | (obtain ⟨_, e_, h_⟩ := Kd.at_int HR0.out x4_1 (of_eq_true p137) (of_eq_true q137); cases e_; exact h_)))).trans (by first | exact hw137_0 | exact (HB.out.cell (World.block_lt_of_cell? w _ hw137_0)).trans hw137_0 | (obtain ⟨_, e_, h_⟩ := Kd.at_int HR0.out x4_1 (of_eq_true p137) (of_eq_true q137); cases e_; exact h_))) (fun hHeld => ?_)
                               clear hK K
                               refine norm_ (a' := ?_) ?_ ?_
                               rotate_left
                               · show Act.put _ (some 58) _ = _
                                 simp only [Act.put, z1_, z2_, z3_, i64_w, i32_w]
                                 rfl
                               refine one_ (i := 8) (N := some 59) (B_ 1023 12) rfl rfl (one_of HT_.out (by kernel_rfl)) (by decide) (fun K hK => ?_)
                               refine Kd.R_append_step (Kd.int .i64) (w0 := w) w.heap.size (by rfl) (.tmp 53) (.tmp 58) 22 3 (.int .i64 0) 8 rfl Tryd.underlying22 info3 rfl (by decide) (by omega) (.slice (some ad120) y134.length co5) y134 (rd l0 x4_1) [.int .i64 (rd l0 x4_1)] (fun k_ => some k_ ≠ (v132 : Value).ownBlock) (fun _ => False) rfl rfl ?aP (fun _ hk => hk.elim) ?aF ?aO ?aB ?aS ?aL ?_
                               (case aP => exact rfl)
                               (case aB => exact (bl_ HB.out))
                               (case aF => exact (fun k_ hk => Kd.fresh' (Kd.R_lt (re_ HO133.out)) k_ hk))
                               (case aO => exact (by (with_reducible repeat (first | apply Kd.R_alloc | apply Kd.R_drewN | apply Kd.R_drew)); exact Kd.R_mono HO136.out (fun _ hk => hk.2)))
                               (case aS => exact (below_size (bl_ HB.out)))
                               (case aL => have := LMc21.out; omega)
                               intro v139 w31 ho hb hg hat
                               rw [← Ny138.out] at ho
                               replace HO133 := Aside0.mk (Kd.R_after (ok := (fun _ => True)) (by (with_reducible repeat (first | apply Kd.R_alloc | apply Kd.R_drewN | apply Kd.R_drew)); exact Kd.R_mono HO133.out (fun _ hk => ⟨trivial, by first | exact hk | exact (fun e_ => hk (e_.trans (own_len_ _ _ _ _ _)))⟩)) hg hat)
                               replace HB := Aside0.mk (hb)
                               have HO140 := Aside0.mk (ho)
                               clear HO136
                               clear ho hb hg hat
                               obtain ⟨Ao33, co33, eo33⟩ := Kd.R_slice HO133.out
                               (first | subst eo33 | (injection eo33 with f1_ f2_ f3_; have f4_ := f1_.symm; have f5_ := f3_.symm; clear f1_ f2_ f3_; subst f4_; subst f5_))
                               refine hK.out _ _ (by first | exact hw137_0 | exact (HB.out.cell (World.block_lt_of_cell? w _ hw137_0)).trans hw137_0 | (obtain ⟨_, e_, h_⟩ := Kd.at_int HR0.out x4_1 (of_eq_true p137) (of_eq_true q137); cases e_; exact h_)) (fun hHeld => ?_)
                               clear hK K
                               refine norm_ (a' := ?_) ?_ ?_
                               rotate_left
                               · show Act.put _ (some 59) _ = _
                                 simp only [Act.put, z1_, z2_, z3_, i64_w, i32_w]
                                 rfl
                               refine one_ (i := 10) (N := some 61) (B_ 2047 12) rfl rfl (one_of HT_.out (by kernel_rfl)) (by decide) (fun K hK => ?_)
                               refine Kd.R_append_rows_step (Kd.int .i64) (w0 := w) w.heap.size (by rfl) (.tmp 59) (.tmp 60) 22 3 (.int .i64 0) 8 rfl Tryd.underlying22 info3 rfl (by decide) (by omega) v139 y138 y131 _ _ _ (fun k_ => some k_ ≠ (.slice Ao33 y131.length co33 : Value).ownBlock) (fun _ => False) rfl rfl ?aO ?aR (fun _ _ h => h) (fun _ h => h.elim) ?aF ?aB ?aS ?aL ?_
                               (case aR => exact ce_ ((Kd.R_reads' HO133.out).2.2))
                               (case aB => exact (bl_ HB.out))
                               (case aF => exact (fun k_ hk => Kd.fresh' (Kd.R_lt (re_ HO133.out)) k_ hk))
                               (case aO => exact (re_ HO140.out))
                               (case aS => exact (below_size (bl_ HB.out)))
                               (case aL => have := LMc22.out; omega)
                               intro v142 w32 ho hb hg hat
                               rw [← Ny141.out] at ho
                               replace HO133 := Aside0.mk (Kd.R_after (ok := (fun _ => True)) (re_ HO133.out) hg hat)
                               replace HB := Aside0.mk (hb)
                               have HO143 := Aside0.mk (ho)
                               clear HO140
                               clear ho hb hg hat
                               refine hK.out _ _ (by first | exact hw137_0 | exact (HB.out.cell (World.block_lt_of_cell? w _ hw137_0)).trans hw137_0 | (obtain ⟨_, e_, h_⟩ := Kd.at_int HR0.out x4_1 (of_eq_true p137) (of_eq_true q137); cases e_; exact h_)) (fun hHeld => ?_)
                               clear hK K
                               refine norm_ (a' := ?_) ?_ ?_
                               rotate_left
                               · show Act.put _ (some 61) _ = _
                                 simp only [Act.put, z1_, z2_, z3_, i64_w, i32_w]
                                 rfl
                               refine pu_ HT_ 11 3 (B_ 4095 12) ?_
                               refine done_ (done_of HT_.out (by kernel_rfl)) ?_
                               try go_wp2
                               go_roundg k2
                               case measure => have := HK1.out; have := HK2.out; omega
                               case rel => exact ⟨(y141), (wrap64 (x4_1 + 1)), (by first | rfl | (simp; done) | (simp [*]; done)), H', ⟨by have := HK1.out; have := HK2.out; omega⟩, ⟨by (with_reducible repeat (first | apply Kd.R_alloc | apply Kd.R_drewN | apply Kd.R_drew)); exact Kd.R_mono HO143.out (fun _ hk => trivial)⟩, ⟨bl_ HB.out⟩⟩
                             · rw [if_neg c22] at H
                               exact absurd H (by simp)
                           · rw [if_neg c21] at H
                             exact absurd H (by simp)
                         · rw [if_neg c19] at H
                           exact absurd H (by simp)
                       · rw [if_neg c18] at H
                         exact absurd H (by simp)
                     · rw [if_neg c17] at H
                       exact absurd H (by simp)
               · rw [if_neg c11] at H
                 exact absurd H (by simp)
             · rw [if_neg c10] at H
               exact absurd H (by simp)
           · rw [if_neg c9] at H
             exact absurd H (by simp)
         · rw [if_neg c8] at H
           exact absurd H (by simp)
       · rw [if_neg c6] at H
         have c6b0 : decide (0 < x5_2) = false := decide_eq_false c6
         clear c6
         obtain ⟨y144, hy144⟩ : ∃ y_ : List Int, y_ = (([] : List Int)) := ⟨_, rfl⟩
         replace H : (if 0 ≤ x5_2 then (if x5_2 ≤ (x3_1.length : Int) then ((some (x3_1.drop (x5_2 : Int).toNat : List Int)).bind fun y147 => (if y144.length + y147.length < 17592186044416 then ((some (y144 ++ y147 : List Int)).bind fun y151 => ((some (x3_1.take (x5_2 : Int).toNat : List Int)).bind fun y154 => (if 0 ≤ x4_1 then (if x4_1 < (l0.length : Int) then (if y154.length < 17592186044416 then ((some (y154 ++ [rd l0 x4_1] : List Int)).bind fun y158 => (if y158.length + y151.length < 17592186044416 then (spec_SortList.l0 k2 l0 (y158 ++ y151) (wrap64 (x4_1 + 1))) else (none))) else (none)) else (none)) else (none)))) else (none))) else (none)) else (none)) = some r := by subst hy144; exact H
         have Ny144 := Aside0.mk hy144
         clear hy144
         by_cases c34 : 0 ≤ x5_2
         · rw [if_pos c34] at H
           have c34b0 := eq_true c34
           have c34b1 : decide (0 ≤ x5_2) = true := decide_eq_true c34
           clear c34
           by_cases c35 : x5_2 ≤ (x3_1.length : Int)
           · rw [if_pos c35] at H
             have c35b0 := eq_true c35
             have c35b1 : decide (x5_2 ≤ (x3_1.length : Int)) = true := decide_eq_true c35
             clear c35
             obtain ⟨y147, hy147⟩ : ∃ y_ : List Int, y_ = (x3_1.drop (x5_2 : Int).toNat) := ⟨_, rfl⟩
             replace H : (if y144.length + y147.length < 17592186044416 then ((some (y144 ++ y147 : List Int)).bind fun y151 => ((some (x3_1.take (x5_2 : Int).toNat : List Int)).bind fun y154 => (if 0 ≤ x4_1 then (if x4_1 < (l0.length : Int) then (if y154.length < 17592186044416 then ((some (y154 ++ [rd l0 x4_1] : List Int)).bind fun y158 => (if y158.length + y151.length < 17592186044416 then (spec_SortList.l0 k2 l0 (y158 ++ y151) (wrap64 (x4_1 + 1))) else (none))) else (none)) else (none)) else (none)))) else (none)) = some r := by subst hy147; exact H
             have Ny147 := Aside0.mk hy147
             clear hy147
             by_cases c36 : y144.length + y147.length < 17592186044416
             · rw [if_pos c36] at H
               have LMc36 := Aside0.mk c36
               clear c36
               obtain ⟨y151, hy151⟩ : ∃ y_ : List Int, y_ = (y144 ++ y147) := ⟨_, rfl⟩
               replace H : ((some (x3_1.take (x5_2 : Int).toNat : List Int)).bind fun y154 => (if 0 ≤ x4_1 then (if x4_1 < (l0.length : Int) then (if y154.length < 17592186044416 then ((some (y154 ++ [rd l0 x4_1] : List Int)).bind fun y158 => (if y158.length + y151.length < 17592186044416 then (spec_SortList.l0 k2 l0 (y158 ++ y151) (wrap64 (x4_1 + 1))) else (none))) else (none)) else (none)) else (none))) = some r := by subst hy151; exact H
               have Ny151 := Aside0.mk hy151
               clear hy151
               have c37b0 := eq_true (od_ : x5_2 ≤ (x3_1.length : Int))
               obtain ⟨y154, hy154⟩ : ∃ y_ : List Int, y_ = (x3_1.take (x5_2 : Int).toNat) := ⟨_, rfl⟩
               replace H : (if 0 ≤ x4_1 then (if x4_1 < (l0.length : Int) then (if y154.length < 17592186044416 then ((some (y154 ++ [rd l0 x4_1] : List Int)).bind fun y158 => (if y158.length + y151.length < 17592186044416 then (spec_SortList.l0 k2 l0 (y158 ++ y151) (wrap64 (x4_1 + 1))) else (none))) else (none)) else (none)) else (none)) = some r := by subst hy154; exact H
               have Ny154 := Aside0.mk hy154
               clear hy154
               by_cases c38 : 0 ≤ x4_1
               · rw [if_pos c38] at H
                 have c38b0 : decide (0 ≤ x4_1) = true := decide_eq_true c38
                 clear c38
                 by_cases c39 : x4_1 < (l0.length : Int)
                 · rw [if_pos c39] at H
                   have c39b0 : decide (x4_1 < (l0.length : Int)) = true := decide_eq_true c39
                   clear c39
                   by_cases c40 : y154.length < 17592186044416
                   · rw [if_pos c40] at H
                     have LMc40 := Aside0.mk c40
                     clear c40
                     obtain ⟨y158, hy158⟩ : ∃ y_ : List Int, y_ = (y154 ++ [rd l0 x4_1]) := ⟨_, rfl⟩
                     replace H : (if y158.length + y151.length < 17592186044416 then (spec_SortList.l0 k2 l0 (y158 ++ y151) (wrap64 (x4_1 + 1))) else (none)) = some r := by subst hy158; exact H
                     have Ny158 := Aside0.mk hy158
                     clear hy158
                     by_cases c41 : y158.length + y151.length < 17592186044416
                     · rw [if_pos c41] at H
                       have LMc41 := Aside0.mk c41
                       clear c41
                       obtain ⟨y161, hy161⟩ : ∃ y_ : List Int, y_ = (y158 ++ y151) := ⟨_, rfl⟩
                       replace H : (spec_SortList.l0 k2 l0 y161 (wrap64 (x4_1 + 1))) = some r := by subst hy161; exact H
                       have Ny161 := Aside0.mk hy161
                       clear hy161
                       have H' := Aside0.mk H
                       clear H
                       try go_wp2
                       replace HO_3 := Aside0.mk (Kd.R_drew HO_3.out)
                       replace HB := Aside0.mk (below_drew1 HB.out)
                       refine start_ (n := 14) (S := fun w' => True) (ds := []) (B_ 0 14) (by kernel_rfl) rfl rfl trivial (fun hHeld => ?_); refine with_tabW spec_SortList.tab6 spec_SortList.bits6 (fun HT_ HW_ => ?_)
                       generalize wr.drew = w42 at HO_3 HB hHeld ⊢
                       refine pu_ HT_ 0 16 (B_ 1 14) ?_
                       refine pu_ HT_ 1 17 (B_ 3 14) ?_
                       refine pu_ HT_ 2 18 (B_ 7 14) ?_
                       refine pn_ HT_ 3 19 (B_ 15 14) ?_
                       refine pn_ HT_ 4 20 (B_ 31 14) ?_
                       refine pn_ HT_ 5 21 (B_ 63 14) ?_
                       refine pn_ HT_ 6 22 (B_ 127 14) ?_
                       refine pn_ HT_ 7 23 (B_ 255 14) ?_
                       refine pn_ HT_ 8 24 (B_ 511 14) ?_
                       refine pn_ HT_ 9 25 (B_ 1023 14) ?_
                       refine pn_ HT_ 10 26 (B_ 2047 14) ?_
                       refine pn_ HT_ 11 27 (B_ 4095 14) ?_
                       refine pn_ HT_ 12 28 (B_ 8191 14) ?_
                       refine pu_ HT_ 13 29 (B_ 16383 14) ?_
                       refine done_ (done_of HT_.out (by kernel_rfl)) ?_
                       try go_wp2
                       replace HO_3 := Aside0.mk (Kd.R_drew HO_3.out)
                       replace HB := Aside0.mk (below_drew1 HB.out)
                       refine start_ (n := 14) (S := fun w' => True) (ds := []) (B_ 0 14) (by kernel_rfl) rfl rfl trivial (fun hHeld => ?_); refine with_tabW spec_SortList.tab8 spec_SortList.bits8 (fun HT_ HW_ => ?_)
                       generalize w42.drew = w43 at HO_3 HB hHeld ⊢
                       refine pu_ HT_ 0 32 (B_ 1 14) ?_
                       refine pu_ HT_ 1 33 (B_ 3 14) ?_
                       refine pu_ HT_ 2 34 (B_ 7 14) ?_
                       refine pn_ HT_ 3 35 (B_ 15 14) ?_
                       refine pn_ HT_ 4 36 (B_ 31 14) ?_
                       refine pn_ HT_ 5 37 (B_ 63 14) ?_
                       refine pn_ HT_ 6 38 (B_ 127 14) ?_
                       refine pn_ HT_ 7 39 (B_ 255 14) ?_
                       refine pn_ HT_ 8 40 (B_ 511 14) ?_
                       refine pn_ HT_ 9 41 (B_ 1023 14) ?_
                       refine pn_ HT_ 10 42 (B_ 2047 14) ?_
                       refine pn_ HT_ 11 43 (B_ 4095 14) ?_
                       refine pn_ HT_ 12 44 (B_ 8191 14) ?_
                       refine pu_ HT_ 13 45 (B_ 16383 14) ?_
                       refine done_ (done_of HT_.out (by kernel_rfl)) ?_
                       try go_wp2_with (first | ((with_reducible refine gate_dst (N := 46) rfl ?_); refine Kd.R_lit (Kd.int .i64) _ 3 ?hg (N := 46) ?hd (xs := ([] : List Int)) (inner := []) (ok := fun _ => True) (okp := fun _ => True) ?hr ?hp (fun _ hk => hk) trivial (Below.refl _ _) (Nat.le_refl _) (by simp) ?_; (case hd => rfl); (case hg => rfl); (case hr => first | (go_simp; done) | (go_simp; rfl)); (case hp => exact (Reps.none _ _)); intro v145 w44 ho45 hb hg_ hnew_; clear hg_ hnew_; (first | rw [← Ny144.out] at ho45 | (simp only [Int.reduceToNat] at ho45; rw [← Ny144.out] at ho45)); have HO146 := Aside0.mk (Kd.R_lower (Kd.R_new' ho45 (Kd.R_lt (re_ HO_3.out))) (below_size (bl_ HB.out))); replace HO_3 := Aside0.mk (Kd.R_elder' (re_ HO_3.out) (Kd.R_base ho45) hb); replace HB := Aside0.mk (below_step (bl_ HB.out) hb); clear hb ho45; have q46 : (x5_2 : Int) ≤ ((x3_1.length : Int) : Int) := od_; obtain ⟨i046, hi046, _, hsz46, _⟩ := info_parts info3; have hroom46 : x3_1.length ≤ co5 := (Kd.R_reads' HO_3.out).2.1; have hC46 : Kd.C (Kd.int .i64) _ Ao5 x3_1.length x3_1 := (Kd.R_reads' HO_3.out).2.2; have q046 : (0 : Int) ≤ (x5_2 : Int) := od_; have hcut46 := cut_from (P := Tryd.prog) 22 3 .i64 Tryd.underlying22 hi046 1 hsz46 Ao5 x3_1.length co5 x5_2 q046 q46; have hr46 := Kd.C_drop (m := (x5_2 : Int).toNat) (c := co5) hC46 (by omega) hroom46; obtain ⟨A46, hA46⟩ : ∃ A1, A1 = (if co5 = (x5_2 : Int).toNat then Ao5 else (Ao5 : Option Addr).map (·.add ((x5_2 : Int).toNat * 1))) := ⟨_, rfl⟩; obtain ⟨c46, hc46⟩ : ∃ c1, c1 = co5 - (x5_2 : Int).toNat := ⟨_, rfl⟩; have hy46 : y147.length = x3_1.length - (x5_2 : Int).toNat := (by rw [Ny147.out, List.length_drop] <;> omega); rw [show (x3_1).drop (x5_2 : Int).toNat = y147 from Ny147.out.symm] at hr46; replace hr46 : Kd.C (Kd.int .i64) _ A46 y147.length y147 := (by rw [hA46]; exact hr46); rw [← hy46, ← hA46, ← hc46] at hcut46; have HR150 := Aside0.mk hr46; have HC150 := Aside0.mk (show y147.length ≤ c46 from by rw [hy46, hc46]; exact Nat.sub_le_sub_right hroom46 _); clear hr46 hC46 hroom46 hi046 hsz46 hc46; have KY46 := Aside0.mk hy46; have KA46 := Aside0.mk hA46; clear hy46 hA46; have KL46 := Aside0.mk (show (x5_2 : Int).toNat ≤ x3_1.length from by omega); replace q46 := eq_true q46) | ((with_reducible refine gate_builtin (b := .append) (xs := #[.tmp 46, .tmp 49]) rfl ?_); at_builtin; refine Kd.R_append_rows (Kd.int .i64) (w0 := w) w.heap.size rfl (.tmp 46) (.tmp 49) 22 3 (.int .i64 0) 8 rfl Tryd.underlying22 info3 rfl (by decide) (by omega) v145 y144 y147 _ _ _ (fun k_ => some k_ ≠ (.slice Ao5 x3_1.length co5 : Value).ownBlock) (fun _ => False) rfl rfl ?aO ?aR (fun _ _ h => h) (fun _ h => h.elim) ?aF ?aB ?aS ?aL ?_; (case aR => repeat (first | exact (by repeat (first | (with_reducible exact HR150.out) | (with_reducible refine Kd.C_alloc ?_ _) | (with_reducible refine Kd.C_drewN ?_ _) | (with_reducible refine Kd.C_drew ?_) | exact HR150.out)) | (with_reducible refine Kd.C_alloc ?_ _) | (with_reducible refine Kd.C_drewN ?_ _) | (with_reducible refine Kd.C_drew ?_))); (case aB => exact (bl_ HB.out)); (case aF => exact (fun k_ hk => Kd.fresh' (Kd.R_lt (re_ HO_3.out)) k_ hk)); (case aO => exact (by (with_reducible repeat (first | apply Kd.R_alloc | apply Kd.R_drewN | apply Kd.R_drew)); exact Kd.R_mono HO146.out (fun _ hk => hk.2))); (case aS => exact (below_size (bl_ HB.out))); (case aL => have := LMc36.out; omega); intro v152 w47 ho hb hg hat; rw [← Ny151.out] at ho; replace HB := Aside0.mk (hb); replace HR150 := Aside0.mk ((show Kd.C (Kd.int .i64) w47 A46 y147.length y147 from by rw [Ny147.out, KA46.out]; exact Kd.C_drop (m := (x5_2 : Int).toNat) (c := co5) ((Kd.R_reads' (Kd.R_after (ok := (fun _ => True)) (re_ HO_3.out) hg hat)).2.2) KL46.out ((Kd.R_reads' (Kd.R_after (ok := (fun _ => True)) (re_ HO_3.out) hg hat)).2.1))); replace HO_3 := Aside0.mk (Kd.R_after (ok := (fun _ => True)) (re_ HO_3.out) hg hat); have HO153 := Aside0.mk (ho); clear HO146; clear ho hb hg hat))
                       replace HO_3 := Aside0.mk (Kd.R_drew HO_3.out)
                       replace HO153 := Aside0.mk (Kd.R_drew HO153.out)
                       replace HR150 := Aside0.mk (Kd.C_drew HR150.out)
                       replace HB := Aside0.mk (below_drew1 HB.out)
                       have q49 : (x5_2 : Int) ≤ ((x3_1.length : Int) : Int) := od_
                       obtain ⟨i049, hi049, _, hsz49, _⟩ := info_parts info3
                       have hcut49 := cut_to (P := Tryd.prog) 22 3 .i64 Tryd.underlying22 hi049 Ao5 x3_1.length co5 x5_2 (od_) q49 (Kd.R_reads' HO_3.out).2.1
                       have hr49 := Kd.R_take (m := (x5_2 : Int).toNat) HO_3.out (by omega)
                       have hy49 : y154.length = (x5_2 : Int).toNat := (by rw [Ny154.out, List.length_take]; omega)
                       rw [← Ny154.out] at hr49
                       rw [← hy49] at hr49 hcut49
                       clear hy49 hi049 hsz49 HO_3
                       have HO156 := Aside0.mk hr49
                       clear hr49
                       replace q49 := eq_true q49
                       have p157 : 0 ≤ (x4_1 : Int) := od_
                       have q157 : x4_1 < (l0.length : Int) := od_
                       obtain ⟨ad157, e157, hx157_0⟩ := Kd.at_int HR0.out x4_1 p157 q157
                       have hw157_0 := hx157_0
                       cases e157
                       (try replace hx157_0 := (HB.out.cell (World.block_lt_of_cell? w _ hx157_0)).trans hx157_0)
                       replace p157 := eq_true p157
                       replace q157 := eq_true q157
                       refine start_ (n := 12) (S := fun w' => w'.cell? (ad157.add (x4_1).toNat) = some (.int .i64 (rd l0 x4_1))) (ds := []) (B_ 0 12) (by kernel_rfl) rfl rfl (by first | exact hw157_0 | exact (HB.out.cell (World.block_lt_of_cell? w _ hw157_0)).trans hw157_0 | (obtain ⟨_, e_, h_⟩ := Kd.at_int HR0.out x4_1 (of_eq_true p157) (of_eq_true q157); cases e_; exact h_)) (fun hHeld => ?_); refine with_tabW spec_SortList.tab10 spec_SortList.bits10 (fun HT_ HW_ => ?_)
                       generalize w47.drew = w48 at HO_3 HO153 HR150 HB HO156 hx157_0 hHeld ⊢
                       refine pu_ HT_ 0 51 (B_ 1 12) ?_
                       refine pu_ HT_ 1 52 (B_ 3 12) ?_
                       refine pu_ HT_ 2 53 (B_ 7 12) ?_
                       refine pu_ HT_ 3 54 (B_ 15 12) ?_
                       refine pu_ HT_ 4 55 (B_ 31 12) ?_
                       refine pu_ HT_ 5 56 (B_ 63 12) ?_
                       refine pu_ HT_ 9 60 (B_ 575 12) ?_
                       refine tk1_ HT_ HW_ hHeld 6 57 (B_ 639 12) ?_
                       refine one_ (i := 7) (N := some 58) (B_ 767 12) rfl rfl (one_of HT_.out (by kernel_rfl)) (by decide) (fun K hK => ?_)
                       refine value_ (w1 := ?_) (v := ?_) (by rfl) rfl ?_ ?_
                       rotate_left 2
                       · go_simp
                         constructor
                         · rfl
                         · rfl
                       refine hK.out _ _ ((World.cell?_alloc_lt _ _ _ (World.block_lt_of_cell? _ _ (by first | exact hw157_0 | exact (HB.out.cell (World.block_lt_of_cell? w _ hw157_0)).trans hw157_0 | (obtain ⟨_, e_, h_⟩ := Kd.at_int HR0.out x4_1 (of_eq_true p157) (of_eq_true q157); cases e_; exact h_)))).trans (by first | exact hw157_0 | exact (HB.out.cell (World.block_lt_of_cell? w _ hw157_0)).trans hw157_0 | (obtain ⟨_, e_, h_⟩ := Kd.at_int HR0.out x4_1 (of_eq_true p157) (of_eq_true q157); cases e_; exact h_))) (fun hHeld => ?_)
                       clear hK K
                       refine norm_ (a' := ?_) ?_ ?_
                       rotate_left
                       · show Act.put _ (some 58) _ = _
                         simp only [Act.put, z1_, z2_, z3_, i64_w, i32_w]
                         rfl
                       refine one_ (i := 8) (N := some 59) (B_ 1023 12) rfl rfl (one_of HT_.out (by kernel_rfl)) (by decide) (fun K hK => ?_)
                       refine Kd.R_append_step (Kd.int .i64) (w0 := w) w.heap.size (by rfl) (.tmp 53) (.tmp 58) 22 3 (.int .i64 0) 8 rfl Tryd.underlying22 info3 rfl (by decide) (by omega) (.slice Ao5 y154.length co5) y154 (rd l0 x4_1) [.int .i64 (rd l0 x4_1)] (fun k_ => some k_ ≠ (v152 : Value).ownBlock) (fun _ => False) rfl rfl ?aP (fun _ hk => hk.elim) ?aF ?aO ?aB ?aS ?aL ?_
                       (case aP => exact rfl)
                       (case aB => exact (bl_ HB.out))
                       (case aF => exact (fun k_ hk => Kd.fresh' (Kd.R_lt (re_ HO153.out)) k_ hk))
                       (case aO => exact (by (with_reducible repeat (first | apply Kd.R_alloc | apply Kd.R_drewN | apply Kd.R_drew)); exact Kd.R_mono HO156.out (fun _ hk => hk.2)))
                       (case aS => exact (below_size (bl_ HB.out)))
                       (case aL => have := LMc40.out; omega)
                       intro v159 w50 ho hb hg hat
                       rw [← Ny158.out] at ho
                       replace HO153 := Aside0.mk (Kd.R_after (ok := (fun _ => True)) (by (with_reducible repeat (first | apply Kd.R_alloc | apply Kd.R_drewN | apply Kd.R_drew)); exact Kd.R_mono HO153.out (fun _ hk => ⟨trivial, by first | exact hk | exact (fun e_ => hk (e_.trans (own_len_ _ _ _ _ _)))⟩)) hg hat)
                       replace HB := Aside0.mk (hb)
                       have HO160 := Aside0.mk (ho)
                       clear HO156
                       clear ho hb hg hat
                       obtain ⟨Ao52, co52, eo52⟩ := Kd.R_slice HO153.out
                       (first | subst eo52 | (injection eo52 with f1_ f2_ f3_; have f4_ := f1_.symm; have f5_ := f3_.symm; clear f1_ f2_ f3_; subst f4_; subst f5_))
                       refine hK.out _ _ (by first | exact hw157_0 | exact (HB.out.cell (World.block_lt_of_cell? w _ hw157_0)).trans hw157_0 | (obtain ⟨_, e_, h_⟩ := Kd.at_int HR0.out x4_1 (of_eq_true p157) (of_eq_true q157); cases e_; exact h_)) (fun hHeld => ?_)
                       clear hK K
                       refine norm_ (a' := ?_) ?_ ?_
                       rotate_left
                       · show Act.put _ (some 59) _ = _
                         simp only [Act.put, z1_, z2_, z3_, i64_w, i32_w]
                         rfl
                       refine one_ (i := 10) (N := some 61) (B_ 2047 12) rfl rfl (one_of HT_.out (by kernel_rfl)) (by decide) (fun K hK => ?_)
                       refine Kd.R_append_rows_step (Kd.int .i64) (w0 := w) w.heap.size (by rfl) (.tmp 59) (.tmp 60) 22 3 (.int .i64 0) 8 rfl Tryd.underlying22 info3 rfl (by decide) (by omega) v159 y158 y151 _ _ _ (fun k_ => some k_ ≠ (.slice Ao52 y151.length co52 : Value).ownBlock) (fun _ => False) rfl rfl ?aO ?aR (fun _ _ h => h) (fun _ h => h.elim) ?aF ?aB ?aS ?aL ?_
                       (case aR => exact ce_ ((Kd.R_reads' HO153.out).2.2))
                       (case aB => exact (bl_ HB.out))
                       (case aF => exact (fun k_ hk => Kd.fresh' (Kd.R_lt (re_ HO153.out)) k_ hk))
                       (case aO => exact (re_ HO160.out))
                       (case aS => exact (below_size (bl_ HB.out)))
                       (case aL => have := LMc41.out; omega)
                       intro v162 w51 ho hb hg hat
                       rw [← Ny161.out] at ho
                       replace HO153 := Aside0.mk (Kd.R_after (ok := (fun _ => True)) (re_ HO153.out) hg hat)
                       replace HB := Aside0.mk (hb)
                       have HO163 := Aside0.mk (ho)
                       clear HO160
                       clear ho hb hg hat
                       refine hK.out _ _ (by first | exact hw157_0 | exact (HB.out.cell (World.block_lt_of_cell? w _ hw157_0)).trans hw157_0 | (obtain ⟨_, e_, h_⟩ := Kd.at_int HR0.out x4_1 (of_eq_true p157) (of_eq_true q157); cases e_; exact h_)) (fun hHeld => ?_)
                       clear hK K
                       refine norm_ (a' := ?_) ?_ ?_
                       rotate_left
                       · show Act.put _ (some 61) _ = _
                         simp only [Act.put, z1_, z2_, z3_, i64_w, i32_w]
                         rfl
                       refine pu_ HT_ 11 3 (B_ 4095 12) ?_
                       refine done_ (done_of HT_.out (by kernel_rfl)) ?_
                       try go_wp2
                       go_roundg k2
                       case measure => have := HK1.out; have := HK2.out; omega
                       case rel => exact ⟨(y161), (wrap64 (x4_1 + 1)), (by first | rfl | (simp; done) | (simp [*]; done)), H', ⟨by have := HK1.out; have := HK2.out; omega⟩, ⟨by (with_reducible repeat (first | apply Kd.R_alloc | apply Kd.R_drewN | apply Kd.R_drew)); exact Kd.R_mono HO163.out (fun _ hk => trivial)⟩, ⟨bl_ HB.out⟩⟩
                     · rw [if_neg c41] at H
                       exact absurd H (by simp)
                   · rw [if_neg c40] at H
                     exact absurd H (by simp)
                 · rw [if_neg c39] at H
                   exact absurd H (by simp)
               · rw [if_neg c38] at H
                 exact absurd H (by simp)
             · rw [if_neg c36] at H
               exact absurd H (by simp)
           · rw [if_neg c35] at H
             exact absurd H (by simp)
         · rw [if_neg c34] at H
           exact absurd H (by simp)
   · rw [if_neg c4] at H
     have c4b0 : decide (x4_1 < (l0.length : Int)) = false := decide_eq_false c4
     clear c4
     obtain rfl := Option.some.inj H
     go_wp2
     go_ret
     exact ⟨_, by first | rfl | (simp [errW_none, errW_some] <;> rfl) | (simp [*, errW_none, errW_some] <;> rfl), re_ HO_3.out, bl_ HB.out⟩
end Go.Proofs.YtjjajcldmkmgkaaDoor.PA
end
section
namespace Go.Proofs.YtjjajcldmkmgkaaDoor.PA
open Go.RowKit Go.Proofs.YtjjajcldmkmgkaaDoorW.PrintWords Go.Proofs.YtjjajcldmkmgkaaDoorW.PrintLast Go.Proofs.YtjjajcldmkmgkaaDoorW.PrintMore
attribute [local go_sem] max2_int min2_int max_two min_two max_three min_three max_four min_four
set_option linter.unusedVariables false
set_option linter.unusedSimpArgs false
mutual
def spec_l3Table.l0 : Nat → List Int → Int → List Bool → Int → Option (List Bool)
 | 0, _, _, _, _ => none
 | k + 1, x0, x1, x5, x6 => if x6 ≤ x1 then (spec_l3Table.l1 k x0 x1 x5 x6 0) else (some x5)
def spec_l3Table.l1 : Nat → List Int → Int → List Bool → Int → Int → Option (List Bool)
 | 0, _, _, _, _, _ => none
 | k + 1, x0, x1, x5, x6, x7 => if x7 < (x0.length : Int) then (if 0 ≤ x7 then (if x6 ≥ (rd x0 x7) then (if 0 ≤ (wrap64 (x6 - (rd x0 x7))) then (if (wrap64 (x6 - (rd x0 x7))) < (x5.length : Int) then (if rdOf false x5 (wrap64 (x6 - (rd x0 x7))) = true then (if 0 ≤ x6 then (if x6 < (x5.length : Int) then (spec_l3Table.l1 k x0 x1 (x5.set (x6 : Int).toNat true) x6 (wrap64 (x7 + 1))) else (none)) else (none)) else (spec_l3Table.l1 k x0 x1 x5 x6 (wrap64 (x7 + 1)))) else (none)) else (none)) else (spec_l3Table.l1 k x0 x1 x5 x6 (wrap64 (x7 + 1)))) else (none)) else (spec_l3Table.l0 k x0 x1 x5 (wrap64 (x6 + 1)))
end
def spec_l3Table.f (k : Nat) (l0 : List Int) (a1 : Int) : Option (List Bool) := if 0 ≤ (wrap64 (a1 + 1)) then (if (wrap64 (a1 + 1) : Int).toNat ≤ 281474976710656 then ((some (List.replicate (wrap64 (a1 + 1) : Int).toNat false : List Bool)).bind fun y164 => (if 0 < (y164.length : Int) then (spec_l3Table.l0 k l0 a1 (y164.set (0 : Int).toNat true) 1) else (none))) else (none)) else (none)
set_option maxHeartbeats 8000000 in
set_option maxRecDepth 100000 in
theorem spec_l3Table.calls (k : Nat) (A0 : Option Addr) (c0 : Nat) (l0 : List Int) (a1 : Int) (r : List Bool) (w : World) (hr0 : Kd.C (Kd.int .i64) w A0 l0.length l0) (hc0 : l0.length ≤ c0) (h : spec_l3Table.f k l0 a1 = some r) :
 Calls Tryd.prog 69 #[.slice A0 l0.length c0, .int .i64 a1] w fun e w' => ∃ v0_ : Value, e = .returned (v0_) ∧ Kd.R Kd.bool 4 w' w.heap.size (fun _ => True) v0_ r ∧ Below w.heap.size w w' := by
 have HR0 := Aside0.mk hr0
 have HC0 := Aside0.mk hc0
 clear hr0 hc0
 have HB := Aside0.mk (Below.refl w.heap.size w)
 have H : (if 0 ≤ (wrap64 (a1 + 1)) then (if (wrap64 (a1 + 1) : Int).toNat ≤ 281474976710656 then ((some (List.replicate (wrap64 (a1 + 1) : Int).toNat false : List Bool)).bind fun y164 => (if 0 < (y164.length : Int) then (spec_l3Table.l0 k l0 a1 (y164.set (0 : Int).toNat true) 1) else (none))) else (none)) else (none)) = some r := h
 clear h
 obtain ⟨ji3, hji3⟩ : ∃ j_ : Int, (wrap64 (a1 + 1)) = j_ := ⟨_, rfl⟩
 replace H : (if 0 ≤ (ji3) then (if (ji3 : Int).toNat ≤ 281474976710656 then ((some (List.replicate (ji3 : Int).toNat false : List Bool)).bind fun y164 => (if 0 < (y164.length : Int) then (spec_l3Table.l0 k l0 a1 (y164.set (0 : Int).toNat true) 1) else (none))) else (none)) else (none)) = some r := by first | (rw [hji3] at H; exact H) | (simp only [hji3] at H ⊢; exact H)
 have hji3w : (IntKind.i64.wrap (a1 + 1)) = ji3 := (i64_w _).trans hji3
 by_cases c4 : 0 ≤ (ji3)
 · rw [if_pos c4] at H
   have c4b0 := eq_true c4
   have c4b1 : decide (0 ≤ (ji3)) = true := decide_eq_true c4
   clear c4
   by_cases c5 : (ji3 : Int).toNat ≤ 281474976710656
   · rw [if_pos c5] at H
     have c5b0 := eq_true c5
     have c5b1 : decide ((ji3 : Int).toNat ≤ 281474976710656) = true := decide_eq_true c5
     clear c5
     obtain ⟨y164, hy164⟩ : ∃ y_ : List Bool, y_ = (List.replicate (ji3 : Int).toNat false) := ⟨_, rfl⟩
     replace H : (if 0 < (y164.length : Int) then (spec_l3Table.l0 k l0 a1 (y164.set (0 : Int).toNat true) 1) else (none)) = some r := by subst hy164; exact H
     have Ny164 := Aside0.mk hy164
     clear hy164
     by_cases c6 : 0 < (y164.length : Int)
     · rw [if_pos c6] at H
       have c6b0 : decide (0 < (y164.length : Int)) = true := decide_eq_true c6
       have c6b1 : decide (0 < y164.length) = true := decide_eq_true (by omega)
       clear c6
       obtain ⟨y167, hy167⟩ : ∃ y_ : List Bool, y_ = (y164.set (0 : Int).toNat true) := ⟨_, rfl⟩
       replace H : (spec_l3Table.l0 k l0 a1 y167 1) = some r := by subst hy167; exact H
       have Ny167 := Aside0.mk hy167
       clear hy167
       have H' := Aside0.mk H
       clear H
       go_enter Tryd.func69, Tryd.ntmps69
       go_wp2_with (first | ((with_reducible refine gate_dst (N := 10) rfl ?_); refine Kd.R_make Kd.bool _ 4 rfl (N := 10) rfl 51 _ _ rfl ji3 rfl rfl Tryd.underlying51 (.bool false) 1 info4 rfl (by decide) (by omega) false (ok := fun _ => True) (okp := fun _ => True) rfl (fun _ hk => hk) trivial (od_) (Nat.le_trans (Nat.mul_le_mul_right _ (od_ : ji3.toNat ≤ 281474976710656)) (by omega)) (Below.refl _ _) (Nat.le_refl _) ?_; intro v165 w8 ho9 hb hg_ hnew_; clear hg_ hnew_; (first | rw [← Ny164.out] at ho9 | (simp only [Int.reduceToNat] at ho9; rw [← Ny164.out] at ho9)); have HO166 := Aside0.mk (Kd.R_lower ho9 (below_size (bl_ HB.out))); replace HB := Aside0.mk (below_step (bl_ HB.out) hb); clear hb ho9; have p7 : 0 ≤ (0 : Int) := (by omega); have q7 : (0 : Int) < ((y164.length : Int) : Int) := od_; have qi7 : (0 < y164.length) = True := eq_true (by omega); obtain ⟨go7, co7, eo7, gb7, gl7, cl7, HG7⟩ := Kd.R_form HO166.out (by omega); (first | cases eo7 | (injection eo7 with ea_ en_ ec_; (first | subst ea_ | (injection ea_ with ea_; subst ea_)); subst ec_; clear en_)); have GB7 := Aside0.mk gb7; have GG7 := Aside0.mk HG7; clear gb7 gl7 HG7; obtain ⟨hx7_0, hf7_0⟩ := Kd.R_celln false HO166.out (0 : Int) p7 q7; (try rw [show ((0 : Int)).toNat = 0 from rfl] at hx7_0); (try simp only [Nat.reduceMul, Nat.zero_mul, Nat.zero_add, Nat.reduceAdd] at hx7_0); (try rw [show ((0 : Int)).toNat = 0 from rfl] at hf7_0); (try simp only [Nat.reduceMul, Nat.zero_mul, Nat.zero_add, Nat.reduceAdd] at hf7_0); replace p7 := eq_true p7; replace q7 := eq_true q7; obtain ⟨hy10_, hz10_⟩ := Kd.R_celln false HO166.out (0 : Int) (by omega) (od_); (try simp only [Int.reduceToNat, Int.toNat_zero, Int.toNat_ofNat, Nat.reduceMul, Nat.zero_mul, Nat.zero_add] at hy10_ hz10_); (try rw [show ((0 : Int)).toNat = 0 from rfl] at hy10_); (try rw [show ((0 : Int)).toNat = 0 from rfl] at hz10_); have HP10 := Kd.R_putg HO166.out (0 : Int) true) | ((with_reducible refine gate_store (t := 4) (p := 12) rfl ?_); refine store_event (t := 4) (p := 12) (v := ?vo_w11) (w1 := (w8.setCell ⟨go7, (0 : Int).toNat, none⟩ (.bool true))) ?hg ?ho ?hn ?hr ?_; (case ho => rfl); (case hg => rfl); (case hn => rfl); (case hr => first | (go_simp; done) | (go_simp; rfl)); intro w11 hw; have hg : w8.grownBy w11 (some go7) := (by rw [hw]; exact HP10.2); have hp_ : Kd.R Kd.bool 4 w11 w.heap.size (fun _ => True) (.slice (some ⟨go7, 0, none⟩) y164.length co7) y167 := (by rw [hw, Ny167.out]; exact HP10.1); clear HP10; replace HO166 := Aside0.mk (hp_); replace HB := Aside0.mk ((by rw [hw]; exact below_set (HB.out) GB7.out : Below w.heap.size w w11)); clear hg hw hp_))
       go_loopg [6] k (fun kq v6 w' => ∃ (x5_1 : List Bool) (x6_1 : Int), v6 = .int .i64 x6_1 ∧ Aside0 (spec_l3Table.l0 kq l0 a1 x5_1 x6_1 = some r) ∧ Aside0 (kq ≤ k) ∧ Aside0 (Kd.R Kd.bool 4 w' w.heap.size (fun _ => True) (.slice (some ⟨go7, 0, none⟩) y164.length co7) x5_1) ∧ Aside0 (Below w.heap.size w w'))
       case atStart => exact ⟨(y167), (1), (by first | rfl | (simp; done) | (simp [*]; done)), H', ⟨Nat.le_refl _⟩, ⟨re_ HO166.out⟩, ⟨bl_ HB.out⟩⟩
       case round =>
        clear H'
        try clear p2
        try clear c4
        try clear c4b0
        try clear c4b1
        try clear c5
        try clear c5b0
        try clear c5b1
        try clear c6
        try clear c6b0
        try clear c6b1
        try clear p6
        try clear p7
        try clear q7
        try clear hx7
        try clear qi7
        try clear hf7
        try clear hx7_0
        try clear p7
        try clear q7
        obtain ⟨x5_1, x6_1, rfl, HA, HK1, HO_5, HB⟩ := hrel
        have hl5_1 := (Kd.R_reads' HO_5.out).1
        rw [hl5_1] at HO_5
        (try simp only [hl5_1])
        cases gk with
        | zero => exact absurd HA.out (by simp [spec_l3Table.l0])
        | succ k1 =>
         have H := HA.out
         clear HA
         simp only [spec_l3Table.l0] at H
         by_cases c12 : x6_1 ≤ a1
         · rw [if_pos c12] at H
           have c12b0 : decide (x6_1 ≤ a1) = true := decide_eq_true c12
           clear c12
           have H' := Aside0.mk H
           clear H
           go_wp2
           go_loopg [7] k1 (fun kq v7 w' => ∃ (x5_2 : List Bool) (x7_2 : Int), v7 = .int .i64 x7_2 ∧ Aside0 (spec_l3Table.l1 kq l0 a1 x5_2 x6_1 x7_2 = some r) ∧ Aside0 (kq ≤ k1) ∧ Aside0 (Kd.R Kd.bool 4 w' w.heap.size (fun _ => True) (.slice (some ⟨go7, 0, none⟩) x5_1.length co7) x5_2) ∧ Aside0 (Below w.heap.size w w'))
           case atStart => exact ⟨(x5_1), (0), (by first | rfl | (simp; done) | (simp [*]; done)), H', ⟨Nat.le_refl _⟩, ⟨by (try simp only [hl5_1]); (with_reducible repeat (first | apply Kd.R_alloc | apply Kd.R_drewN | apply Kd.R_drew)); exact HO_5.out⟩, ⟨bl_ HB.out⟩⟩
           case round =>
            clear H'
            try clear c1
            try clear p2
            try clear c4
            try clear c4b0
            try clear c4b1
            try clear c5
            try clear c5b0
            try clear c5b1
            try clear c6
            try clear c6b0
            try clear c6b1
            try clear p6
            try clear p7
            try clear q7
            try clear hx7
            try clear qi7
            try clear hf7
            try clear c12
            try clear c12b0
            try clear hx7_0
            try clear p2
            try clear p6
            try clear p7
            try clear q7
            obtain ⟨x5_2, x7_2, rfl, HA, HK2, HO_5, HB⟩ := hrel
            have hl5_2 := (Kd.R_reads' HO_5.out).1
            rw [hl5_2] at HO_5
            (try simp only [hl5_2])
            cases gk with
            | zero => exact absurd HA.out (by simp [spec_l3Table.l1])
            | succ k2 =>
             have H := HA.out
             clear HA
             simp only [spec_l3Table.l1] at H
             by_cases c13 : x7_2 < (l0.length : Int)
             · rw [if_pos c13] at H
               have c13b0 : decide (x7_2 < (l0.length : Int)) = true := decide_eq_true c13
               (try (have c13h := c13b0; simp only [hl5_1, hl5_2] at c13h))
               clear c13
               by_cases c14 : 0 ≤ x7_2
               · rw [if_pos c14] at H
                 have c14b0 : decide (0 ≤ x7_2) = true := decide_eq_true c14
                 clear c14
                 by_cases c15 : x6_1 ≥ (rd l0 x7_2)
                 · rw [if_pos c15] at H
                   have c15b0 : decide ((rd l0 x7_2) ≤ x6_1) = true := decide_eq_true c15
                   clear c15
                   obtain ⟨ji16, hji16⟩ : ∃ j_ : Int, (wrap64 (x6_1 - (rd l0 x7_2))) = j_ := ⟨_, rfl⟩
                   replace H : (if 0 ≤ (ji16) then (if (ji16) < (x5_2.length : Int) then (if rdOf false x5_2 (ji16) = true then (if 0 ≤ x6_1 then (if x6_1 < (x5_2.length : Int) then (spec_l3Table.l1 k2 l0 a1 (x5_2.set (x6_1 : Int).toNat true) x6_1 (wrap64 (x7_2 + 1))) else (none)) else (none)) else (spec_l3Table.l1 k2 l0 a1 x5_2 x6_1 (wrap64 (x7_2 + 1)))) else (none)) else (none)) = some r := by first | (rw [hji16] at H; exact H) | (simp only [hji16] at H ⊢; exact H)
                   have hji16w : (IntKind.i64.wrap (x6_1 - (rd l0 x7_2))) = ji16 := (i64_w _).trans hji16
                   by_cases c17 : 0 ≤ (ji16)
                   · rw [if_pos c17] at H
                     have c17b0 : decide (0 ≤ (ji16)) = true := decide_eq_true c17
                     clear c17
                     by_cases c18 : (ji16) < (x5_2.length : Int)
                     · rw [if_pos c18] at H
                       have c18b0 : decide ((ji16) < (x5_2.length : Int)) = true := decide_eq_true c18
                       (try (have c18h := c18b0; simp only [hl5_1, hl5_2] at c18h))
                       clear c18
                       obtain ⟨bq19, hbq19⟩ : ∃ b_ : Bool, b_ = (rdOf false x5_2 (ji16)) := ⟨_, rfl⟩
                       replace H : (if bq19 = true then (if 0 ≤ x6_1 then (if x6_1 < (x5_2.length : Int) then (spec_l3Table.l1 k2 l0 a1 (x5_2.set (x6_1 : Int).toNat true) x6_1 (wrap64 (x7_2 + 1))) else (none)) else (none)) else (spec_l3Table.l1 k2 l0 a1 x5_2 x6_1 (wrap64 (x7_2 + 1)))) = some r := by rw [← hbq19] at H; exact H
                       have Nbq19 := Aside0.mk hbq19
                       clear hbq19
                       by_cases c20 : bq19 = true
                       · subst c20
                         rw [if_pos rfl] at H
                         by_cases c21 : 0 ≤ x6_1
                         · rw [if_pos c21] at H
                           have c21b0 : decide (0 ≤ x6_1) = true := decide_eq_true c21
                           clear c21
                           by_cases c22 : x6_1 < (x5_2.length : Int)
                           · rw [if_pos c22] at H
                             have c22b0 : decide (x6_1 < (x5_2.length : Int)) = true := decide_eq_true c22
                             (try (have c22h := c22b0; simp only [hl5_1, hl5_2] at c22h))
                             clear c22
                             obtain ⟨y171, hy171⟩ : ∃ y_ : List Bool, y_ = (x5_2.set (x6_1 : Int).toNat true) := ⟨_, rfl⟩
                             replace H : (spec_l3Table.l1 k2 l0 a1 y171 x6_1 (wrap64 (x7_2 + 1))) = some r := by subst hy171; exact H
                             have Ny171 := Aside0.mk hy171
                             clear hy171
                             have H' := Aside0.mk H
                             clear H
                             have p168 : 0 ≤ (x7_2 : Int) := od_
                             have q168 : x7_2 < (l0.length : Int) := od_
                             obtain ⟨ad168, e168, hx168_0⟩ := Kd.at_int HR0.out x7_2 p168 q168
                             cases e168
                             (try replace hx168_0 := (HB.out.cell (World.block_lt_of_cell? w _ hx168_0)).trans hx168_0)
                             replace p168 := eq_true p168
                             replace q168 := eq_true q168
                             have p169 : 0 ≤ (x7_2 : Int) := od_
                             have q169 : x7_2 < (l0.length : Int) := od_
                             obtain ⟨ad169, e169, hx169_0⟩ := Kd.at_int HR0.out x7_2 p169 q169
                             obtain rfl : ad168 = ad169 := (by injection e169)
                             (try replace hx169_0 := (HB.out.cell (World.block_lt_of_cell? w _ hx169_0)).trans hx169_0)
                             replace p169 := eq_true p169
                             replace q169 := eq_true q169
                             have p170 : 0 ≤ ((ji16) : Int) := od_
                             have q170 : (ji16) < (x5_2.length : Int) := od_
                             obtain ⟨ad170, e170, hx170_0⟩ := Kd.at_bool (Kd.R_reads' HO_5.out).2.2 (ji16) p170 q170
                             (try rw [← Nbq19.out] at hx170_0)
                             obtain rfl : (⟨go7, 0, none⟩ : Addr) = ad170 := (by injection e170)
                             (first | simp only [add_plain] at hx170_0 | simp only [add_at] at hx170_0 | simp only [Addr.add, Nat.zero_add] at hx170_0 | skip)
                             replace p170 := eq_true p170
                             replace q170 := eq_true q170
                             have p23 : 0 ≤ (x6_1 : Int) := od_
                             have q23 : (x6_1 : Int) < ((x5_2.length : Int) : Int) := od_
                             obtain ⟨hx23_0, hf23_0⟩ := Kd.R_celln false HO_5.out (x6_1 : Int) p23 q23
                             replace p23 := eq_true p23
                             replace q23 := eq_true q23
                             have HP24 := Kd.R_putg HO_5.out (x6_1 : Int) true
                             go_wp2_with (first | ((with_reducible refine gate_store (t := 4) (p := 43) rfl ?_); refine store_event (t := 4) (p := 43) (v := ?vo_w25) (w1 := (wr.setCell ⟨go7, (x6_1 : Int).toNat, none⟩ (.bool true))) ?hg ?ho ?hn ?hr ?_; (case ho => rfl); (case hg => rfl); (case hn => rfl); (case hr => first | (go_simp; done) | (go_simp; rfl)); intro w25 hw; have hg : wr.grownBy w25 (some go7) := (by rw [hw]; exact HP24.2); have hp_ : Kd.R Kd.bool 4 w25 w.heap.size (fun _ => True) (.slice (some ⟨go7, 0, none⟩) x5_2.length co7) y171 := (by rw [hw, Ny171.out]; exact HP24.1); clear HP24; replace HO_5 := Aside0.mk (hp_); replace HB := Aside0.mk ((by rw [hw]; exact below_set (HB.out) GB7.out : Below w.heap.size w w25)); clear hg hw hp_))
                             (try simp only [← hl5_2])
                             go_roundg k2
                             case measure => have := HK1.out; have := HK2.out; omega
                             case rel => exact ⟨(y171), (wrap64 (x7_2 + 1)), (by first | rfl | (simp; done) | (simp [*]; done)), H', ⟨by have := HK1.out; have := HK2.out; omega⟩, ⟨by (try simp only [hl5_1]); (try simp only [hl5_2]); (with_reducible repeat (first | apply Kd.R_alloc | apply Kd.R_drewN | apply Kd.R_drew)); exact HO_5.out⟩, ⟨bl_ HB.out⟩⟩
                           · rw [if_neg c22] at H
                             exact absurd H (by simp)
                         · rw [if_neg c21] at H
                           exact absurd H (by simp)
                       · replace c20 := Bool.eq_false_iff.mpr c20
                         subst c20
                         rw [if_neg (show ¬ (false = true) by decide)] at H
                         have H' := Aside0.mk H
                         clear H
                         have p168 : 0 ≤ (x7_2 : Int) := od_
                         have q168 : x7_2 < (l0.length : Int) := od_
                         obtain ⟨ad168, e168, hx168_0⟩ := Kd.at_int HR0.out x7_2 p168 q168
                         cases e168
                         (try replace hx168_0 := (HB.out.cell (World.block_lt_of_cell? w _ hx168_0)).trans hx168_0)
                         replace p168 := eq_true p168
                         replace q168 := eq_true q168
                         have p169 : 0 ≤ (x7_2 : Int) := od_
                         have q169 : x7_2 < (l0.length : Int) := od_
                         obtain ⟨ad169, e169, hx169_0⟩ := Kd.at_int HR0.out x7_2 p169 q169
                         obtain rfl : ad168 = ad169 := (by injection e169)
                         (try replace hx169_0 := (HB.out.cell (World.block_lt_of_cell? w _ hx169_0)).trans hx169_0)
                         replace p169 := eq_true p169
                         replace q169 := eq_true q169
                         have p170 : 0 ≤ ((ji16) : Int) := od_
                         have q170 : (ji16) < (x5_2.length : Int) := od_
                         obtain ⟨ad170, e170, hx170_0⟩ := Kd.at_bool (Kd.R_reads' HO_5.out).2.2 (ji16) p170 q170
                         (try rw [← Nbq19.out] at hx170_0)
                         obtain rfl : (⟨go7, 0, none⟩ : Addr) = ad170 := (by injection e170)
                         (first | simp only [add_plain] at hx170_0 | simp only [add_at] at hx170_0 | simp only [Addr.add, Nat.zero_add] at hx170_0 | skip)
                         replace p170 := eq_true p170
                         replace q170 := eq_true q170
                         go_wp2
                         (try simp only [← hl5_2])
                         go_roundg k2
                         case measure => have := HK1.out; have := HK2.out; omega
                         case rel => exact ⟨(x5_2), (wrap64 (x7_2 + 1)), (by first | rfl | (simp; done) | (simp [*]; done)), H', ⟨by have := HK1.out; have := HK2.out; omega⟩, ⟨by (try simp only [hl5_1]); (try simp only [hl5_2]); (with_reducible repeat (first | apply Kd.R_alloc | apply Kd.R_drewN | apply Kd.R_drew)); exact HO_5.out⟩, ⟨bl_ HB.out⟩⟩
                     · rw [if_neg c18] at H
                       exact absurd H (by simp)
                   · rw [if_neg c17] at H
                     exact absurd H (by simp)
                 · rw [if_neg c15] at H
                   have c15b0 : decide ((rd l0 x7_2) ≤ x6_1) = false := decide_eq_false c15
                   clear c15
                   have H' := Aside0.mk H
                   clear H
                   have p168 : 0 ≤ (x7_2 : Int) := od_
                   have q168 : x7_2 < (l0.length : Int) := od_
                   obtain ⟨ad168, e168, hx168_0⟩ := Kd.at_int HR0.out x7_2 p168 q168
                   cases e168
                   (try replace hx168_0 := (HB.out.cell (World.block_lt_of_cell? w _ hx168_0)).trans hx168_0)
                   replace p168 := eq_true p168
                   replace q168 := eq_true q168
                   go_wp2
                   (try simp only [← hl5_2])
                   go_roundg k2
                   case measure => have := HK1.out; have := HK2.out; omega
                   case rel => exact ⟨(x5_2), (wrap64 (x7_2 + 1)), (by first | rfl | (simp; done) | (simp [*]; done)), H', ⟨by have := HK1.out; have := HK2.out; omega⟩, ⟨by (try simp only [hl5_1]); (try simp only [hl5_2]); (with_reducible repeat (first | apply Kd.R_alloc | apply Kd.R_drewN | apply Kd.R_drew)); exact HO_5.out⟩, ⟨bl_ HB.out⟩⟩
               · rw [if_neg c14] at H
                 exact absurd H (by simp)
             · rw [if_neg c13] at H
               have c13b0 : decide (x7_2 < (l0.length : Int)) = false := decide_eq_false c13
               (try (have c13h := c13b0; simp only [hl5_1, hl5_2] at c13h))
               clear c13
               have H' := Aside0.mk H
               clear H
               go_wp2
               (try simp only [← hl5_1, ← hl5_2])
               go_roundg k2
               case measure => have := HK1.out; have := HK2.out; omega
               case rel => exact ⟨(x5_2), (wrap64 (x6_1 + 1)), (by first | rfl | (simp; done) | (simp [*]; done)), H', ⟨by have := HK1.out; have := HK2.out; omega⟩, ⟨by (try simp only [hl5_1]); (try simp only [hl5_2]); (with_reducible repeat (first | apply Kd.R_alloc | apply Kd.R_drewN | apply Kd.R_drew)); exact HO_5.out⟩, ⟨bl_ HB.out⟩⟩
         · rw [if_neg c12] at H
           have c12b0 : decide (x6_1 ≤ a1) = false := decide_eq_false c12
           clear c12
           obtain rfl := Option.some.inj H
           go_wp2
           go_ret
           exact ⟨_, by first | rfl | (simp [errW_none, errW_some] <;> rfl) | (simp only [← hji3]; first | rfl | (simp [errW_none, errW_some] <;> rfl)) | (simp [*, errW_none, errW_some] <;> rfl), re_ HO_5.out, bl_ HB.out⟩
     · rw [if_neg c6] at H
       exact absurd H (by simp)
   · rw [if_neg c5] at H
     exact absurd H (by simp)
 · rw [if_neg c4] at H
   exact absurd H (by simp)
end Go.Proofs.YtjjajcldmkmgkaaDoor.PA
end
