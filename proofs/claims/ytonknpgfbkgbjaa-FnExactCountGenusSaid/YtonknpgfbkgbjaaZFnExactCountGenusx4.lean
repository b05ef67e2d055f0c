-- Bundled by shake.py from this session's printed and written texts; Lean checks it.
import Derived.Test.YtonknpgfbkgbjaaZFnExactCountGenusx1
import Derived.Test.YtonknpgfbkgbjaaZFnExactCountGenusx3
section
namespace Go.Proofs.Ytonknpgfbkgbjaa.PB
open Go.RowKit Go.Proofs.YtonknpgfbkgbjaaW.PrintWords Go.Proofs.YtonknpgfbkgbjaaW.PrintLast Go.Proofs.YtonknpgfbkgbjaaW.PrintMore
attribute [local go_sem] max2_int min2_int max_two min_two max_three min_three max_four min_four
set_option linter.unusedVariables false
set_option linter.unusedSimpArgs false
set_option maxHeartbeats 8000000
set_option maxRecDepth 100000
mutual
def spec_SortList.l0 : Nat → List Int → List Int → Int → Option (List Int)
 | 0, _, _, _ => none
 | k + 1, x0, x3, x4 => if x4 < (x0.length : Int) then (spec_SortList.l1 k x0 x3 x4 (x3.length : Int)) else (some x3)
def spec_SortList.l1 : Nat → List Int → List Int → Int → Int → Option (List Int)
 | 0, _, _, _, _ => none
 | k + 1, x0, x3, x4, x5 => if x5 > 0 then (if 0 ≤ (wrap64 (x5 - 1)) then (if (wrap64 (x5 - 1)) < (x3.length : Int) then (if 0 ≤ x4 then (if x4 < (x0.length : Int) then (if (rd x3 (wrap64 (x5 - 1))) > (rd x0 x4) then (spec_SortList.l1 k x0 x3 x4 (wrap64 (x5 - 1))) else (if (rd x3 (wrap64 (x5 - 1))) = (rd x0 x4) then (spec_SortList.l0 k x0 x3 (wrap64 (x4 + 1))) else ((some (([] : List Int) : List Int)).bind fun y211 => (if 0 ≤ x5 then (if x5 ≤ (x3.length : Int) then ((some (x3.drop (x5 : Int).toNat : List Int)).bind fun y214 => (if y211.length + y214.length < 17592186044416 then ((some (y211 ++ y214 : List Int)).bind fun y218 => ((some (x3.take (x5 : Int).toNat : List Int)).bind fun y221 => (if y221.length < 17592186044416 then ((some (y221 ++ [rd x0 x4] : List Int)).bind fun y225 => (if y225.length + y218.length < 17592186044416 then (spec_SortList.l0 k x0 (y225 ++ y218) (wrap64 (x4 + 1))) else (none))) else (none)))) else (none))) else (none)) else (none))))) else (none)) else (none)) else (none)) else (none)) else ((some (([] : List Int) : List Int)).bind fun y231 => (if 0 ≤ x5 then (if x5 ≤ (x3.length : Int) then ((some (x3.drop (x5 : Int).toNat : List Int)).bind fun y234 => (if y231.length + y234.length < 17592186044416 then ((some (y231 ++ y234 : List Int)).bind fun y238 => ((some (x3.take (x5 : Int).toNat : List Int)).bind fun y241 => (if 0 ≤ x4 then (if x4 < (x0.length : Int) then (if y241.length < 17592186044416 then ((some (y241 ++ [rd x0 x4] : List Int)).bind fun y245 => (if y245.length + y238.length < 17592186044416 then (spec_SortList.l0 k x0 (y245 ++ y238) (wrap64 (x4 + 1))) else (none))) else (none)) else (none)) else (none)))) else (none))) else (none)) else (none)))
end
def spec_SortList.f (k : Nat) (l0 : List Int) : Option (List Int) := spec_SortList.l0 k l0 (([] : List Int)) 0
theorem spec_SortList.mono_l : ∀ k, (∀ y0 y1 y2, LeO (spec_SortList.l0 k y0 y1 y2) (spec_SortList.l0 (k + 1) y0 y1 y2)) ∧ (∀ y0 y1 y2 y3, LeO (spec_SortList.l1 k y0 y1 y2 y3) (spec_SortList.l1 (k + 1) y0 y1 y2 y3))
 | 0 => ⟨fun _ _ _ r h => by simp [spec_SortList.l0] at h, fun _ _ _ _ r h => by simp [spec_SortList.l1] at h⟩
 | k + 1 => by
  obtain ⟨ih0, ih1⟩ := spec_SortList.mono_l k
  refine ⟨?_, ?_⟩
  · intro y0 y1 y2
    unfold spec_SortList.l0
    repeat' first
    | (with_reducible exact ih0 _ _ _)
    | (with_reducible exact ih1 _ _ _ _)
    | (with_reducible exact LeO.refl _)
    | (with_reducible exact LeO.none _)
    | (with_reducible refine LeO.ite ?_ ?_)
    | (with_reducible refine LeO.bind ?_ (fun _ => ?_))
    | exact ih0 _ _ _
    | exact ih1 _ _ _ _
    | exact LeO.none _
    | refine LeO.ite ?_ ?_
    | refine LeO.bind ?_ (fun _ => ?_)
  · intro y0 y1 y2 y3
    unfold spec_SortList.l1
    repeat' first
    | (with_reducible exact ih0 _ _ _)
    | (with_reducible exact ih1 _ _ _ _)
    | (with_reducible exact LeO.refl _)
    | (with_reducible exact LeO.none _)
    | (with_reducible refine LeO.ite ?_ ?_)
    | (with_reducible refine LeO.bind ?_ (fun _ => ?_))
    | exact ih0 _ _ _
    | exact ih1 _ _ _ _
    | exact LeO.none _
    | refine LeO.ite ?_ ?_
    | refine LeO.bind ?_ (fun _ => ?_)
theorem spec_SortList.mono : ∀ a0 k, LeO (spec_SortList.f k a0) (spec_SortList.f (k + 1) a0) := by
 intro a0 k
 obtain ⟨ih0, ih1⟩ := spec_SortList.mono_l k
 unfold spec_SortList.f
 repeat' first
  | (with_reducible exact ih0 _ _ _)
  | (with_reducible exact ih1 _ _ _ _)
  | (with_reducible exact LeO.refl _)
  | (with_reducible exact LeO.none _)
  | (with_reducible refine LeO.ite ?_ ?_)
  | (with_reducible refine LeO.bind ?_ (fun _ => ?_))
  | exact ih0 _ _ _
  | exact ih1 _ _ _ _
  | exact LeO.none _
  | refine LeO.ite ?_ ?_
  | refine LeO.bind ?_ (fun _ => ?_)
def spec_SortList.T6 : Bool × List (List Nat × List Nat) := (true, [([], []), ([0], [0]), ([1], [1]), ([2], [2]), ([2], [2]), ([4, 2], [2, 4]), ([3, 5, 2], [2, 3, 5]), ([6, 2], [2, 6]), ([2], [2]), ([2], [2]), ([8, 9, 2], [2, 8, 9]), ([10, 2], [2, 10]), ([7, 11, 2], [2, 7, 11]), ([2, 12], [2, 12])])
def spec_SortList.B6 : List Nat := [0, 1, 3, 7, 7, 23, 63, 127, 7, 7, 775, 1799, 4095, 8191]
theorem spec_SortList.tab6 : rtab .any (opsOf Try.f53 6) = spec_SortList.T6 := by kernel_rfl
theorem spec_SortList.bits6 : waitsOk spec_SortList.T6.2 spec_SortList.B6 = true := by kernel_rfl
def spec_SortList.T8 : Bool × List (List Nat × List Nat) := (true, [([], []), ([0], [0]), ([1], [1]), ([2], [2]), ([2], [2]), ([4, 2], [2, 4]), ([3, 5, 2], [2, 3, 5]), ([6, 2], [2, 6]), ([2], [2]), ([2], [2]), ([8, 9, 2], [2, 8, 9]), ([10, 2], [2, 10]), ([7, 11, 2], [2, 7, 11]), ([2, 12], [2, 12])])
def spec_SortList.B8 : List Nat := [0, 1, 3, 7, 7, 23, 63, 127, 7, 7, 775, 1799, 4095, 8191]
theorem spec_SortList.tab8 : rtab .any (opsOf Try.f53 8) = spec_SortList.T8 := by kernel_rfl
theorem spec_SortList.bits8 : waitsOk spec_SortList.T8.2 spec_SortList.B8 = true := by kernel_rfl
def spec_SortList.T10 : Bool × List (List Nat × List Nat) := (true, [([], []), ([], []), ([0, 1], [0, 1]), ([], []), ([], []), ([3, 4], [3, 4]), ([5], [5]), ([6], [6]), ([2, 7], [2, 7]), ([], []), ([8, 9, 8], [8, 9]), ([10, 10, 0, 1, 2, 3, 4, 5, 6, 7, 8, 9, 10], [0, 10])])
def spec_SortList.B10 : List Nat := [0, 0, 3, 0, 0, 24, 56, 120, 255, 0, 1023, 2047]
theorem spec_SortList.tab10 : rtab .any (opsOf Try.f53 10) = spec_SortList.T10 := by kernel_rfl
theorem spec_SortList.bits10 : waitsOk spec_SortList.T10.2 spec_SortList.B10 = true := by kernel_rfl
theorem spec_SortList.calls (k : Nat) (A0 : Option Addr) (c0 : Nat) (l0 : List Int) (r : List Int) (w : World) (hr0 : Kd.C (Kd.int .i64) w A0 l0.length l0) (hc0 : l0.length ≤ c0) (h : spec_SortList.f k l0 = some r) :
 Calls Try.prog 53 #[.slice A0 l0.length c0] w fun e w' => ∃ v0_ : Value, e = .returned (v0_) ∧ Kd.R (Kd.int .i64) 3 w' w.heap.size (fun _ => True) v0_ r ∧ Below w.heap.size w w' := by
 have HR0 := Aside0.mk hr0
 have HC0 := Aside0.mk hc0
 clear hr0 hc0
 have HB := Aside0.mk (Below.refl w.heap.size w)
 have H := h
 clear h
 unfold spec_SortList.f at H
 obtain ⟨y204, hy204⟩ : ∃ y_ : List Int, y_ = (([] : List Int)) := ⟨_, rfl⟩
 replace H : (spec_SortList.l0 k l0 y204 0) = some r := by subst hy204; exact H
 have Ny204 := Aside0.mk hy204
 clear hy204
 have H' := Aside0.mk H
 clear H
 go_enter Try.func53, Try.ntmps53
 go_wp2_with (first | ((with_reducible refine gate_dst (N := 7) rfl ?_); refine Kd.R_lit (Kd.int .i64) _ 3 ?hg (N := 7) ?hd (xs := ([] : List Int)) (inner := []) (ok := fun _ => True) (okp := fun _ => True) ?hr ?hp (fun _ hk => hk) trivial (Below.refl _ _) (Nat.le_refl _) (by simp) ?_; (case hd => rfl); (case hg => rfl); (case hr => first | (go_simp; done) | (go_simp; rfl)); (case hp => exact (Reps.none _ _)); intro v205 w2 ho3 hb hg_ hnew_; clear hg_ hnew_; (first | rw [← Ny204.out] at ho3 | (simp only [Int.reduceToNat] at ho3; rw [← Ny204.out] at ho3)); have HO206 := Aside0.mk (Kd.R_lower ho3 (below_size (bl_ HB.out))); replace HB := bo_ HB hb; clear hb ho3))
 go_loopg [3, 4] k (fun kq v3 v4 w' => ∃ (x3_1 : List Int) (x4_1 : Int), v4 = .int .i64 x4_1 ∧ Aside0 (spec_SortList.l0 kq l0 x3_1 x4_1 = some r) ∧ Aside0 (kq ≤ k) ∧ Aside0 (Kd.R (Kd.int .i64) 3 w' w.heap.size (fun _ => True) v3 x3_1) ∧ Aside0 (Below w.heap.size w w'))
 case atStart => exact ⟨(y204), (0), rs_, H', ⟨Nat.le_refl _⟩, ⟨re_ HO206.out⟩, ⟨bl_ HB.out⟩⟩
 case round =>
  clear H'
  obtain ⟨x3_1, x4_1, rfl, HA, HK1, HO_3, HB⟩ := hrel
  cases gk with
  | zero => exact absurd HA.out (by simp [spec_SortList.l0])
  | succ k1 =>
   have H := HA.out
   clear HA
   simp only [spec_SortList.l0] at H
   by_cases c4 : x4_1 < (l0.length : Int)
   rotate_left
   · rw [if_neg c4] at H
     have c4b0 : decide (x4_1 < (l0.length : Int)) = false := decide_eq_false c4
     clear c4
     obtain rfl := Option.some.inj H
     go_wp2
     go_ret
     exact ⟨_, rf_, re_ HO_3.out, bl_ HB.out⟩
   rw [if_pos c4] at H
   have c4b0 : decide (x4_1 < (l0.length : Int)) = true := decide_eq_true c4
   clear c4
   have H' := Aside0.mk H
   clear H
   obtain ⟨Ao5, co5, eo5⟩ := Kd.R_slice HO_3.out
   subst eo5
   go_wp2
   go_loopg [5] k1 (fun kq v5 w' => ∃ (x5_2 : Int), v5 = .int .i64 x5_2 ∧ Aside0 (spec_SortList.l1 kq l0 x3_1 x4_1 x5_2 = some r) ∧ Aside0 (kq ≤ k1) ∧ Aside0 (Kd.R (Kd.int .i64) 3 w' w.heap.size (fun _ => True) (.slice Ao5 x3_1.length co5) x3_1) ∧ Aside0 (Below w.heap.size w w'))
   case atStart => exact ⟨((x3_1.length : Int)), rs_, H', ⟨Nat.le_refl _⟩, ⟨re_ HO_3.out⟩, ⟨bl_ HB.out⟩⟩
   case round =>
    clear H'
    try clear c4b0
    obtain ⟨x5_2, rfl, HA, HK2, HO_3, HB⟩ := hrel
    cases gk with
    | zero => exact absurd HA.out (by simp [spec_SortList.l1])
    | succ k2 =>
     have H := HA.out
     clear HA
     simp only [spec_SortList.l1] at H
     by_cases c6 : x5_2 > 0
     rotate_left
     · rw [if_neg c6] at H
       have c6b0 : decide (0 < x5_2) = false := decide_eq_false c6
       clear c6
       obtain ⟨y231, hy231⟩ : ∃ y_ : List Int, y_ = (([] : List Int)) := ⟨_, rfl⟩
       replace H : (if 0 ≤ x5_2 then (if x5_2 ≤ (x3_1.length : Int) then ((some (x3_1.drop (x5_2 : Int).toNat : List Int)).bind fun y234 => (if y231.length + y234.length < 17592186044416 then ((some (y231 ++ y234 : List Int)).bind fun y238 => ((some (x3_1.take (x5_2 : Int).toNat : List Int)).bind fun y241 => (if 0 ≤ x4_1 then (if x4_1 < (l0.length : Int) then (if y241.length < 17592186044416 then ((some (y241 ++ [rd l0 x4_1] : List Int)).bind fun y245 => (if y245.length + y238.length < 17592186044416 then (spec_SortList.l0 k2 l0 (y245 ++ y238) (wrap64 (x4_1 + 1))) else (none))) else (none)) else (none)) else (none)))) else (none))) else (none)) else (none)) = some r := by subst hy231; exact H
       have Ny231 := Aside0.mk hy231
       clear hy231
       obtain ⟨c34, H⟩ := ip_ H
       have c34b0 := eq_true c34
       have c34b1 : decide (0 ≤ x5_2) = true := decide_eq_true c34
       clear c34
       obtain ⟨c35, H⟩ := ip_ H
       have c35b0 := eq_true c35
       have c35b1 : decide (x5_2 ≤ (x3_1.length : Int)) = true := decide_eq_true c35
       clear c35
       obtain ⟨y234, hy234⟩ : ∃ y_ : List Int, y_ = (x3_1.drop (x5_2 : Int).toNat) := ⟨_, rfl⟩
       replace H : (if y231.length + y234.length < 17592186044416 then ((some (y231 ++ y234 : List Int)).bind fun y238 => ((some (x3_1.take (x5_2 : Int).toNat : List Int)).bind fun y241 => (if 0 ≤ x4_1 then (if x4_1 < (l0.length : Int) then (if y241.length < 17592186044416 then ((some (y241 ++ [rd l0 x4_1] : List Int)).bind fun y245 => (if y245.length + y238.length < 17592186044416 then (spec_SortList.l0 k2 l0 (y245 ++ y238) (wrap64 (x4_1 + 1))) else (none))) else (none)) else (none)) else (none)))) else (none)) = some r := by subst hy234; exact H
       have Ny234 := Aside0.mk hy234
       clear hy234
       obtain ⟨c36, H⟩ := ip_ H
       have LMc36 := Aside0.mk c36
       clear c36
       obtain ⟨y238, hy238⟩ : ∃ y_ : List Int, y_ = (y231 ++ y234) := ⟨_, rfl⟩
       replace H : ((some (x3_1.take (x5_2 : Int).toNat : List Int)).bind fun y241 => (if 0 ≤ x4_1 then (if x4_1 < (l0.length : Int) then (if y241.length < 17592186044416 then ((some (y241 ++ [rd l0 x4_1] : List Int)).bind fun y245 => (if y245.length + y238.length < 17592186044416 then (spec_SortList.l0 k2 l0 (y245 ++ y238) (wrap64 (x4_1 + 1))) else (none))) else (none)) else (none)) else (none))) = some r := by subst hy238; exact H
       have Ny238 := Aside0.mk hy238
       clear hy238
       have c37b0 := eq_true (od_ : x5_2 ≤ (x3_1.length : Int))
       obtain ⟨y241, hy241⟩ : ∃ y_ : List Int, y_ = (x3_1.take (x5_2 : Int).toNat) := ⟨_, rfl⟩
       replace H : (if 0 ≤ x4_1 then (if x4_1 < (l0.length : Int) then (if y241.length < 17592186044416 then ((some (y241 ++ [rd l0 x4_1] : List Int)).bind fun y245 => (if y245.length + y238.length < 17592186044416 then (spec_SortList.l0 k2 l0 (y245 ++ y238) (wrap64 (x4_1 + 1))) else (none))) else (none)) else (none)) else (none)) = some r := by subst hy241; exact H
       have Ny241 := Aside0.mk hy241
       clear hy241
       obtain ⟨c38b0, H⟩ := ipd_ H
       obtain ⟨c39b0, H⟩ := ipd_ H
       obtain ⟨c40, H⟩ := ip_ H
       have LMc40 := Aside0.mk c40
       clear c40
       obtain ⟨y245, hy245⟩ : ∃ y_ : List Int, y_ = (y241 ++ [rd l0 x4_1]) := ⟨_, rfl⟩
       replace H : (if y245.length + y238.length < 17592186044416 then (spec_SortList.l0 k2 l0 (y245 ++ y238) (wrap64 (x4_1 + 1))) else (none)) = some r := by subst hy245; exact H
       have Ny245 := Aside0.mk hy245
       clear hy245
       obtain ⟨c41, H⟩ := ip_ H
       have LMc41 := Aside0.mk c41
       clear c41
       obtain ⟨y248, hy248⟩ : ∃ y_ : List Int, y_ = (y245 ++ y238) := ⟨_, rfl⟩
       replace H : (spec_SortList.l0 k2 l0 y248 (wrap64 (x4_1 + 1))) = some r := by subst hy248; exact H
       have Ny248 := Aside0.mk hy248
       clear hy248
       have H' := Aside0.mk H
       clear H
       try go_wp2
       replace HO_3 := Aside0.mk (Kd.R_drew HO_3.out)
       replace HB := Aside0.mk (below_drew1 HB.out)
       refine start_ (n := 14) (S := fun w' => True) (ds := []) (B_ 0 14) (by kernel_rfl) rfl rfl trivial (fun hHeld => ?_); refine with_tabW spec_SortList.tab6 spec_SortList.bits6 (fun HT_ HW_ => ?_)
       generalize wr.drew = w42 at HO_3 HB hHeld ⊢
       refine pu_ HT_ 0 16 (B_ 1 14) ?_
       refine pu_ HT_ 1 17 (B_ 3 14) ?_
       refine pu_ HT_ 2 18 (B_ 7 14) ?_
       refine pn_ HT_ 3 19 (B_ 15 14) ?_
       refine pn_ HT_ 4 20 (B_ 31 14) ?_
       refine pn_ HT_ 5 21 (B_ 63 14) ?_
       refine pn_ HT_ 6 22 (B_ 127 14) ?_
       refine pn_ HT_ 7 23 (B_ 255 14) ?_
       refine pn_ HT_ 8 24 (B_ 511 14) ?_
       refine pn_ HT_ 9 25 (B_ 1023 14) ?_
       refine pn_ HT_ 10 26 (B_ 2047 14) ?_
       refine pn_ HT_ 11 27 (B_ 4095 14) ?_
       refine pn_ HT_ 12 28 (B_ 8191 14) ?_
       refine pu_ HT_ 13 29 (B_ 16383 14) ?_
       refine done_ (done_of HT_.out (by kernel_rfl)) ?_
       try go_wp2
       replace HO_3 := Aside0.mk (Kd.R_drew HO_3.out)
       replace HB := Aside0.mk (below_drew1 HB.out)
       refine start_ (n := 14) (S := fun w' => True) (ds := []) (B_ 0 14) (by kernel_rfl) rfl rfl trivial (fun hHeld => ?_); refine with_tabW spec_SortList.tab8 spec_SortList.bits8 (fun HT_ HW_ => ?_)
       generalize w42.drew = w43 at HO_3 HB hHeld ⊢
       refine pu_ HT_ 0 32 (B_ 1 14) ?_
       refine pu_ HT_ 1 33 (B_ 3 14) ?_
       refine pu_ HT_ 2 34 (B_ 7 14) ?_
       refine pn_ HT_ 3 35 (B_ 15 14) ?_
       refine pn_ HT_ 4 36 (B_ 31 14) ?_
       refine pn_ HT_ 5 37 (B_ 63 14) ?_
       refine pn_ HT_ 6 38 (B_ 127 14) ?_
       refine pn_ HT_ 7 39 (B_ 255 14) ?_
       refine pn_ HT_ 8 40 (B_ 511 14) ?_
       refine pn_ HT_ 9 41 (B_ 1023 14) ?_
       refine pn_ HT_ 10 42 (B_ 2047 14) ?_
       refine pn_ HT_ 11 43 (B_ 4095 14) ?_
       refine pn_ HT_ 12 44 (B_ 8191 14) ?_
       refine pu_ HT_ 13 45 (B_ 16383 14) ?_
       refine done_ (done_of HT_.out (by kernel_rfl)) ?_
       try go_wp2_with (first | ((with_reducible refine gate_dst (N := 46) rfl ?_); refine Kd.R_lit (Kd.int .i64) _ 3 ?hg (N := 46) ?hd (xs := ([] : List Int)) (inner := []) (ok := fun _ => True) (okp := fun _ => True) ?hr ?hp (fun _ hk => hk) trivial (Below.refl _ _) (Nat.le_refl _) (by simp) ?_; (case hd => rfl); (case hg => rfl); (case hr => first | (go_simp; done) | (go_simp; rfl)); (case hp => exact (Reps.none _ _)); intro v232 w44 ho45 hb hg_ hnew_; clear hg_ hnew_; (first | rw [← Ny231.out] at ho45 | (simp only [Int.reduceToNat] at ho45; rw [← Ny231.out] at ho45)); have HO233 := Aside0.mk (Kd.R_lower (Kd.R_new' ho45 (Kd.R_lt (re_ HO_3.out))) (below_size (bl_ HB.out))); replace HO_3 := Aside0.mk (Kd.R_elder' (re_ HO_3.out) (Kd.R_base ho45) hb); replace HB := bo_ HB hb; clear hb ho45; have q46 : (x5_2 : Int) ≤ ((x3_1.length : Int) : Int) := od_; obtain ⟨i046, hi046, _, hsz46, _⟩ := info_parts info3; have hroom46 : x3_1.length ≤ co5 := (Kd.R_reads' HO_3.out).2.1; have hC46 : Kd.C (Kd.int .i64) _ Ao5 x3_1.length x3_1 := (Kd.R_reads' HO_3.out).2.2; have q046 : (0 : Int) ≤ (x5_2 : Int) := od_; have hcut46 := cut_from (P := Try.prog) 24 3 .i64 Try.underlying24 hi046 1 hsz46 Ao5 x3_1.length co5 x5_2 q046 q46; have hr46 := Kd.C_drop (m := (x5_2 : Int).toNat) (c := co5) hC46 (by omega) hroom46; obtain ⟨A46, hA46⟩ : ∃ A1, A1 = (if co5 = (x5_2 : Int).toNat then Ao5 else (Ao5 : Option Addr).map (·.add ((x5_2 : Int).toNat * 1))) := ⟨_, rfl⟩; obtain ⟨c46, hc46⟩ : ∃ c1, c1 = co5 - (x5_2 : Int).toNat := ⟨_, rfl⟩; have hy46 : y234.length = x3_1.length - (x5_2 : Int).toNat := (by rw [Ny234.out, List.length_drop] <;> omega); rw [show (x3_1).drop (x5_2 : Int).toNat = y234 from Ny234.out.symm] at hr46; replace hr46 : Kd.C (Kd.int .i64) _ A46 y234.length y234 := (by rw [hA46]; exact hr46); rw [← hy46, ← hA46, ← hc46] at hcut46; have HR237 := Aside0.mk hr46; have HC237 := Aside0.mk (show y234.length ≤ c46 from by rw [hy46, hc46]; exact Nat.sub_le_sub_right hroom46 _); clear hr46 hC46 hroom46 hi046 hsz46 hc46; have KY46 := Aside0.mk hy46; have KA46 := Aside0.mk hA46; clear hy46 hA46; have KL46 := Aside0.mk (show (x5_2 : Int).toNat ≤ x3_1.length from by omega); replace q46 := eq_true q46) | ((with_reducible refine gate_builtin (b := .append) (xs := #[.tmp 46, .tmp 49]) rfl ?_); at_builtin; refine Kd.R_append_rows (Kd.int .i64) (w0 := w) w.heap.size rfl (.tmp 46) (.tmp 49) 24 3 (.int .i64 0) 8 rfl Try.underlying24 info3 rfl (by decide) (by omega) v232 y231 y234 _ _ _ (fun k_ => some k_ ≠ (.slice Ao5 x3_1.length co5 : Value).ownBlock) (fun _ => False) rfl rfl ?aO ?aR (fun _ _ h => h) (fun _ h => h.elim) ?aF ?aB ?aS ?aL ?_; (case aR => repeat (first | exact (by repeat (first | (with_reducible exact HR237.out) | (with_reducible refine Kd.C_alloc ?_ _) | (with_reducible refine Kd.C_drewN ?_ _) | (with_reducible refine Kd.C_drew ?_) | exact HR237.out)) | (with_reducible refine Kd.C_alloc ?_ _) | (with_reducible refine Kd.C_drewN ?_ _) | (with_reducible refine Kd.C_drew ?_))); (case aB => exact (bl_ HB.out)); (case aF => exact (fun k_ hk => Kd.fresh' (Kd.R_lt (re_ HO_3.out)) k_ hk)); (case aO => exact (by (with_reducible repeat (first | apply Kd.R_alloc | apply Kd.R_drewN | apply Kd.R_drew)); exact Kd.R_mono HO233.out (fun _ hk => hk.2))); (case aS => exact (below_size (bl_ HB.out))); (case aL => have := LMc36.out; omega); intro v239 w47 ho hb hg hat; rw [← Ny238.out] at ho; replace HB := Aside0.mk (hb); replace HR237 := Aside0.mk ((show Kd.C (Kd.int .i64) w47 A46 y234.length y234 from by rw [Ny234.out, KA46.out]; exact Kd.C_drop (m := (x5_2 : Int).toNat) (c := co5) ((Kd.R_reads' (Kd.R_after (ok := (fun _ => True)) (re_ HO_3.out) hg hat)).2.2) KL46.out ((Kd.R_reads' (Kd.R_after (ok := (fun _ => True)) (re_ HO_3.out) hg hat)).2.1))); replace HO_3 := Aside0.mk (Kd.R_after (ok := (fun _ => True)) (re_ HO_3.out) hg hat); have HO240 := Aside0.mk (ho); clear HO233; clear ho hb hg hat))
       replace HO_3 := Aside0.mk (Kd.R_drew HO_3.out)
       replace HO240 := Aside0.mk (Kd.R_drew HO240.out)
       replace HR237 := Aside0.mk (Kd.C_drew HR237.out)
       replace HB := Aside0.mk (below_drew1 HB.out)
       have q49 : (x5_2 : Int) ≤ ((x3_1.length : Int) : Int) := od_
       obtain ⟨i049, hi049, _, hsz49, _⟩ := info_parts info3
       have hcut49 := cut_to (P := Try.prog) 24 3 .i64 Try.underlying24 hi049 Ao5 x3_1.length co5 x5_2 (od_) q49 (Kd.R_reads' HO_3.out).2.1
       have hr49 := Kd.R_take (m := (x5_2 : Int).toNat) HO_3.out (by omega)
       have hy49 : y241.length = (x5_2 : Int).toNat := (by rw [Ny241.out, List.length_take]; omega)
       rw [← Ny241.out] at hr49
       rw [← hy49] at hr49 hcut49
       clear hy49 hi049 hsz49 HO_3
       have HO243 := Aside0.mk hr49
       clear hr49
       replace q49 := eq_true q49
       have p244 : 0 ≤ (x4_1 : Int) := od_
       have q244 : x4_1 < (l0.length : Int) := od_
       obtain ⟨ad244, e244, hx244_0⟩ := Kd.at_int HR0.out x4_1 p244 q244
       have hw244_0 := hx244_0
       cases e244
       (try replace hx244_0 := (HB.out.cell (World.block_lt_of_cell? w _ hx244_0)).trans hx244_0)
       replace p244 := eq_true p244
       replace q244 := eq_true q244
       refine start_ (n := 12) (S := fun w' => w'.cell? (ad244.add (x4_1).toNat) = some (.int .i64 (rd l0 x4_1))) (ds := []) (B_ 0 12) (by kernel_rfl) rfl rfl (by first | exact hw244_0 | exact (HB.out.cell (World.block_lt_of_cell? w _ hw244_0)).trans hw244_0 | (obtain ⟨_, e_, h_⟩ := Kd.at_int HR0.out x4_1 (of_eq_true p244) (of_eq_true q244); cases e_; exact h_)) (fun hHeld => ?_); refine with_tabW spec_SortList.tab10 spec_SortList.bits10 (fun HT_ HW_ => ?_)
       generalize w47.drew = w48 at HO_3 HO240 HR237 HB HO243 hx244_0 hHeld ⊢
       refine pu_ HT_ 0 51 (B_ 1 12) ?_
       refine pu_ HT_ 1 52 (B_ 3 12) ?_
       refine pu_ HT_ 2 53 (B_ 7 12) ?_
       refine pu_ HT_ 3 54 (B_ 15 12) ?_
       refine pu_ HT_ 4 55 (B_ 31 12) ?_
       refine pu_ HT_ 5 56 (B_ 63 12) ?_
       refine pu_ HT_ 9 60 (B_ 575 12) ?_
       refine tk1_ HT_ HW_ hHeld 6 57 (B_ 639 12) ?_
       refine on_ HT_ 7 58 (B_ 767 12) (fun K hK => ?_)
       refine value_ (w1 := ?_) (v := ?_) (by rfl) rfl ?_ ?_
       rotate_left 2
       · go_simp
         constructor
         · rfl
         · rfl
       refine hK.out _ _ ((World.cell?_alloc_lt _ _ _ (World.block_lt_of_cell? _ _ (by first | exact hw244_0 | exact (HB.out.cell (World.block_lt_of_cell? w _ hw244_0)).trans hw244_0 | (obtain ⟨_, e_, h_⟩ := Kd.at_int HR0.out x4_1 (of_eq_true p244) (of_eq_true q244); cases e_; exact h_)))).trans (by first | exact hw244_0 | exact (HB.out.cell (World.block_lt_of_cell? w _ hw244_0)).trans hw244_0 | (obtain ⟨_, e_, h_⟩ := Kd.at_int HR0.out x4_1 (of_eq_true p244) (of_eq_true q244); cases e_; exact h_))) (fun hHeld => ?_)
       clear hK K
       refine norm_ (a' := ?_) ?_ ?_
       rotate_left
       · show Act.put _ (some 58) _ = _
         simp only [Act.put, z1_, z2_, z3_, i64_w, i32_w]
         rfl
       refine on_ HT_ 8 59 (B_ 1023 12) (fun K hK => ?_)
       refine Kd.R_append_step (Kd.int .i64) (w0 := w) w.heap.size (by rfl) (.tmp 53) (.tmp 58) 24 3 (.int .i64 0) 8 rfl Try.underlying24 info3 rfl (by decide) (by omega) (.slice Ao5 y241.length co5) y241 (rd l0 x4_1) [.int .i64 (rd l0 x4_1)] (fun k_ => some k_ ≠ (v239 : Value).ownBlock) (fun _ => False) rfl rfl ?aP (fun _ hk => hk.elim) ?aF ?aO ?aB ?aS ?aL ?_
       (case aP => exact rfl)
       (case aB => exact (bl_ HB.out))
       (case aF => exact (fun k_ hk => Kd.fresh' (Kd.R_lt (re_ HO240.out)) k_ hk))
       (case aO => exact (by (with_reducible repeat (first | apply Kd.R_alloc | apply Kd.R_drewN | apply Kd.R_drew)); exact Kd.R_mono HO243.out (fun _ hk => hk.2)))
       (case aS => exact (below_size (bl_ HB.out)))
       (case aL => have := LMc40.out; omega)
       intro v246 w50 ho hb hg hat
       rw [← Ny245.out] at ho
       replace HO240 := Aside0.mk (Kd.R_after (ok := (fun _ => True)) (by (with_reducible repeat (first | apply Kd.R_alloc | apply Kd.R_drewN | apply Kd.R_drew)); exact Kd.R_mono HO240.out (fun _ hk => ⟨trivial, by first | exact hk | exact (fun e_ => hk (e_.trans (own_len_ _ _ _ _ _)))⟩)) hg hat)
       replace HB := Aside0.mk (hb)
       have HO247 := Aside0.mk (ho)
       clear HO243
       clear ho hb hg hat
       obtain ⟨Ao52, co52, eo52⟩ := Kd.R_slice HO240.out
       (first | subst eo52 | (injection eo52 with f1_ f2_ f3_; have f4_ := f1_.symm; have f5_ := f3_.symm; clear f1_ f2_ f3_; subst f4_; subst f5_))
       refine hK.out _ _ (by first | exact hw244_0 | exact (HB.out.cell (World.block_lt_of_cell? w _ hw244_0)).trans hw244_0 | (obtain ⟨_, e_, h_⟩ := Kd.at_int HR0.out x4_1 (of_eq_true p244) (of_eq_true q244); cases e_; exact h_)) (fun hHeld => ?_)
       clear hK K
       refine norm_ (a' := ?_) ?_ ?_
       rotate_left
       · show Act.put _ (some 59) _ = _
         simp only [Act.put, z1_, z2_, z3_, i64_w, i32_w]
         rfl
       refine on_ HT_ 10 61 (B_ 2047 12) (fun K hK => ?_)
       refine Kd.R_append_rows_step (Kd.int .i64) (w0 := w) w.heap.size (by rfl) (.tmp 59) (.tmp 60) 24 3 (.int .i64 0) 8 rfl Try.underlying24 info3 rfl (by decide) (by omega) v246 y245 y238 _ _ _ (fun k_ => some k_ ≠ (.slice Ao52 y238.length co52 : Value).ownBlock) (fun _ => False) rfl rfl ?aO ?aR (fun _ _ h => h) (fun _ h => h.elim) ?aF ?aB ?aS ?aL ?_
       (case aR => exact ce_ ((Kd.R_reads' HO240.out).2.2))
       (case aB => exact (bl_ HB.out))
       (case aF => exact (fun k_ hk => Kd.fresh' (Kd.R_lt (re_ HO240.out)) k_ hk))
       (case aO => exact (re_ HO247.out))
       (case aS => exact (below_size (bl_ HB.out)))
       (case aL => have := LMc41.out; omega)
       intro v249 w51 ho hb hg hat
       rw [← Ny248.out] at ho
       replace HO240 := Aside0.mk (Kd.R_after (ok := (fun _ => True)) (re_ HO240.out) hg hat)
       replace HB := Aside0.mk (hb)
       have HO250 := Aside0.mk (ho)
       clear HO247
       clear ho hb hg hat
       refine hK.out _ _ (by first | exact hw244_0 | exact (HB.out.cell (World.block_lt_of_cell? w _ hw244_0)).trans hw244_0 | (obtain ⟨_, e_, h_⟩ := Kd.at_int HR0.out x4_1 (of_eq_true p244) (of_eq_true q244); cases e_; exact h_)) (fun hHeld => ?_)
       clear hK K
       refine norm_ (a' := ?_) ?_ ?_
       rotate_left
       · show Act.put _ (some 61) _ = _
         simp only [Act.put, z1_, z2_, z3_, i64_w, i32_w]
         rfl
       refine pu_ HT_ 11 3 (B_ 4095 12) ?_
       refine done_ (done_of HT_.out (by kernel_rfl)) ?_
       try go_wp2
       go_roundg k2
       case measure => have := HK1.out; have := HK2.out; omega
       case rel => exact ⟨(y248), (wrap64 (x4_1 + 1)), rs_, H', ⟨by have := HK1.out; have := HK2.out; omega⟩, ⟨by (with_reducible repeat (first | apply Kd.R_alloc | apply Kd.R_drewN | apply Kd.R_drew)); exact Kd.R_mono HO250.out (fun _ hk => trivial)⟩, ⟨bl_ HB.out⟩⟩
     rw [if_pos c6] at H
     have c6b0 : decide (0 < x5_2) = true := decide_eq_true c6
     clear c6
     obtain ⟨ji7, hji7⟩ : ∃ j_ : Int, (wrap64 (x5_2 - 1)) = j_ := ⟨_, rfl⟩
     replace H : (if 0 ≤ (ji7) then (if (ji7) < (x3_1.length : Int) then (if 0 ≤ x4_1 then (if x4_1 < (l0.length : Int) then (if (rd x3_1 (ji7)) > (rd l0 x4_1) then (spec_SortList.l1 k2 l0 x3_1 x4_1 ji7) else (if (rd x3_1 (ji7)) = (rd l0 x4_1) then (spec_SortList.l0 k2 l0 x3_1 (wrap64 (x4_1 + 1))) else ((some (([] : List Int) : List Int)).bind fun y211 => (if 0 ≤ x5_2 then (if x5_2 ≤ (x3_1.length : Int) then ((some (x3_1.drop (x5_2 : Int).toNat : List Int)).bind fun y214 => (if y211.length + y214.length < 17592186044416 then ((some (y211 ++ y214 : List Int)).bind fun y218 => ((some (x3_1.take (x5_2 : Int).toNat : List Int)).bind fun y221 => (if y221.length < 17592186044416 then ((some (y221 ++ [rd l0 x4_1] : List Int)).bind fun y225 => (if y225.length + y218.length < 17592186044416 then (spec_SortList.l0 k2 l0 (y225 ++ y218) (wrap64 (x4_1 + 1))) else (none))) else (none)))) else (none))) else (none)) else (none))))) else (none)) else (none)) else (none)) else (none)) = some r := by first | (rw [hji7] at H; exact H) | (simp only [hji7] at H ⊢; exact H)
     have hji7w : (IntKind.i64.wrap (x5_2 - 1)) = ji7 := (i64_w _).trans hji7
     obtain ⟨c8b0, H⟩ := ipd_ H
     obtain ⟨c9b0, H⟩ := ipd_ H
     obtain ⟨c10b0, H⟩ := ipd_ H
     obtain ⟨c11b0, H⟩ := ipd_ H
     by_cases c12 : (rd x3_1 (ji7)) > (rd l0 x4_1)
     · rw [if_pos c12] at H
       have c12b0 : decide ((rd l0 x4_1) < (rd x3_1 (ji7))) = true := decide_eq_true c12
       clear c12
       have H' := Aside0.mk H
       clear H
       try go_wp2
       replace HO_3 := Aside0.mk (Kd.R_drew HO_3.out)
       replace HB := Aside0.mk (below_drew1 HB.out)
       have p207 : 0 ≤ ((ji7) : Int) := od_
       have q207 : (ji7) < (x3_1.length : Int) := od_
       obtain ⟨ad207, e207, hx207_0⟩ := Kd.at_int (Kd.R_reads' HO_3.out).2.2 (ji7) p207 q207
       cases e207
       replace p207 := eq_true p207
       replace q207 := eq_true q207
       have p208 : 0 ≤ (x4_1 : Int) := od_
       have q208 : x4_1 < (l0.length : Int) := od_
       obtain ⟨ad208, e208, hx208_0⟩ := Kd.at_int HR0.out x4_1 p208 q208
       have hw208_0 := hx208_0
       cases e208
       (try replace hx208_0 := (HB.out.cell (World.block_lt_of_cell? w _ hx208_0)).trans hx208_0)
       replace p208 := eq_true p208
       replace q208 := eq_true q208
       refine start_ (n := 14) (S := fun w' => w'.cell? (ad207.add ((ji7)).toNat) = some (.int .i64 (rd x3_1 (ji7))) ∧ w'.cell? (ad208.add (x4_1).toNat) = some (.int .i64 (rd l0 x4_1))) (ds := []) (B_ 0 14) (by kernel_rfl) rfl rfl ⟨hx207_0, ((HB.out.cell (World.block_lt_of_cell? w _ hw208_0)).trans hw208_0)⟩ (fun hHeld => ?_); refine with_tabW spec_SortList.tab6 spec_SortList.bits6 (fun HT_ HW_ => ?_)
       generalize wr.drew = w13 at HO_3 HB hx207_0 hx208_0 hHeld ⊢
       refine pu_ HT_ 0 16 (B_ 1 14) ?_
       refine pu_ HT_ 1 17 (B_ 3 14) ?_
       refine pu_ HT_ 2 18 (B_ 7 14) ?_
       refine pu_ HT_ 3 19 (B_ 15 14) ?_
       refine pu_ HT_ 4 20 (B_ 31 14) ?_
       refine pu_ HT_ 5 21 (B_ 63 14) ?_
       refine pu_ HT_ 6 22 (B_ 127 14) ?_
       refine pu_ HT_ 8 24 (B_ 383 14) ?_
       refine pu_ HT_ 9 25 (B_ 895 14) ?_
       refine pu_ HT_ 10 26 (B_ 1919 14) ?_
       refine tk2_ HT_ HW_ hHeld 7 23 (B_ 2047 14) ?_
       refine tk2_ HT_ HW_ hHeld 11 27 (B_ 4095 14) ?_
       refine pu_ HT_ 12 28 (B_ 8191 14) ?_
       refine pu_ HT_ 13 29 (B_ 16383 14) ?_
       refine done_ (done_of HT_.out (by kernel_rfl)) ?_
       try go_wp2
       go_roundg k2
       case measure => have := HK1.out; have := HK2.out; omega
       case rel => exact ⟨(ji7), (by first | rfl | (simp; done) | (simp only [← hji7] <;> (first | rfl | simp)) | (simp [*]; done)), H', ⟨by have := HK1.out; have := HK2.out; omega⟩, ⟨re_ HO_3.out⟩, ⟨bl_ HB.out⟩⟩
     rw [if_neg c12] at H
     have c12b0 : decide ((rd l0 x4_1) < (rd x3_1 (ji7))) = false := decide_eq_false c12
     clear c12
     by_cases c14 : (rd x3_1 (ji7)) = (rd l0 x4_1)
     · rw [if_pos c14] at H
       have c14b0 : ((rd x3_1 (ji7)) == (rd l0 x4_1)) = true := beq_iff_eq.mpr c14
       have c14b1 : ((rd x3_1 (ji7)) != (rd l0 x4_1)) = false := bne_eq_false_iff_eq.mpr c14
       clear c14
       have H' := Aside0.mk H
       clear H
       try go_wp2
       replace HO_3 := Aside0.mk (Kd.R_drew HO_3.out)
       replace HB := Aside0.mk (below_drew1 HB.out)
       have p207 : 0 ≤ ((ji7) : Int) := od_
       have q207 : (ji7) < (x3_1.length : Int) := od_
       obtain ⟨ad207, e207, hx207_0⟩ := Kd.at_int (Kd.R_reads' HO_3.out).2.2 (ji7) p207 q207
       cases e207
       replace p207 := eq_true p207
       replace q207 := eq_true q207
       have p208 : 0 ≤ (x4_1 : Int) := od_
       have q208 : x4_1 < (l0.length : Int) := od_
       obtain ⟨ad208, e208, hx208_0⟩ := Kd.at_int HR0.out x4_1 p208 q208
       have hw208_0 := hx208_0
       cases e208
       (try replace hx208_0 := (HB.out.cell (World.block_lt_of_cell? w _ hx208_0)).trans hx208_0)
       replace p208 := eq_true p208
       replace q208 := eq_true q208
       refine start_ (n := 14) (S := fun w' => w'.cell? (ad207.add ((ji7)).toNat) = some (.int .i64 (rd x3_1 (ji7))) ∧ w'.cell? (ad208.add (x4_1).toNat) = some (.int .i64 (rd l0 x4_1))) (ds := []) (B_ 0 14) (by kernel_rfl) rfl rfl ⟨hx207_0, ((HB.out.cell (World.block_lt_of_cell? w _ hw208_0)).trans hw208_0)⟩ (fun hHeld => ?_); refine with_tabW spec_SortList.tab6 spec_SortList.bits6 (fun HT_ HW_ => ?_)
       generalize wr.drew = w15 at HO_3 HB hx207_0 hx208_0 hHeld ⊢
       refine pu_ HT_ 0 16 (B_ 1 14) ?_
       refine pu_ HT_ 1 17 (B_ 3 14) ?_
       refine pu_ HT_ 2 18 (B_ 7 14) ?_
       refine pu_ HT_ 3 19 (B_ 15 14) ?_
       refine pu_ HT_ 4 20 (B_ 31 14) ?_
       refine pu_ HT_ 5 21 (B_ 63 14) ?_
       refine pu_ HT_ 6 22 (B_ 127 14) ?_
       refine pu_ HT_ 8 24 (B_ 383 14) ?_
       refine pu_ HT_ 9 25 (B_ 895 14) ?_
       refine pu_ HT_ 10 26 (B_ 1919 14) ?_
       refine tk2_ HT_ HW_ hHeld 7 23 (B_ 2047 14) ?_
       refine tk2_ HT_ HW_ hHeld 11 27 (B_ 4095 14) ?_
       refine pu_ HT_ 12 28 (B_ 8191 14) ?_
       refine pu_ HT_ 13 29 (B_ 16383 14) ?_
       refine done_ (done_of HT_.out (by kernel_rfl)) ?_
       try go_wp2
       replace HO_3 := Aside0.mk (Kd.R_drew HO_3.out)
       replace HB := Aside0.mk (below_drew1 HB.out)
       have p209 : 0 ≤ ((ji7) : Int) := od_
       have q209 : (ji7) < (x3_1.length : Int) := od_
       obtain ⟨ad209, e209, hx209_0⟩ := Kd.at_int (Kd.R_reads' HO_3.out).2.2 (ji7) p209 q209
       obtain rfl : ad207 = ad209 := (by injection e209)
       replace p209 := eq_true p209
       replace q209 := eq_true q209
       have p210 : 0 ≤ (x4_1 : Int) := od_
       have q210 : x4_1 < (l0.length : Int) := od_
       obtain ⟨ad210, e210, hx210_0⟩ := Kd.at_int HR0.out x4_1 p210 q210
       have hw210_0 := hx210_0
       obtain rfl : ad208 = ad210 := (by injection e210)
       (try replace hx210_0 := (HB.out.cell (World.block_lt_of_cell? w _ hx210_0)).trans hx210_0)
       replace p210 := eq_true p210
       replace q210 := eq_true q210
       refine start_ (n := 14) (S := fun w' => w'.cell? (ad207.add ((ji7)).toNat) = some (.int .i64 (rd x3_1 (ji7))) ∧ w'.cell? (ad208.add (x4_1).toNat) = some (.int .i64 (rd l0 x4_1))) (ds := []) (B_ 0 14) (by kernel_rfl) rfl rfl ⟨hx209_0, ((HB.out.cell (World.block_lt_of_cell? w _ hw210_0)).trans hw210_0)⟩ (fun hHeld => ?_); refine with_tabW spec_SortList.tab8 spec_SortList.bits8 (fun HT_ HW_ => ?_)
       generalize w15.drew = w16 at HO_3 HB hx209_0 hx210_0 hHeld ⊢
       refine pu_ HT_ 0 32 (B_ 1 14) ?_
       refine pu_ HT_ 1 33 (B_ 3 14) ?_
       refine pu_ HT_ 2 34 (B_ 7 14) ?_
       refine pu_ HT_ 3 35 (B_ 15 14) ?_
       refine pu_ HT_ 4 36 (B_ 31 14) ?_
       refine pu_ HT_ 5 37 (B_ 63 14) ?_
       refine pu_ HT_ 6 38 (B_ 127 14) ?_
       refine pu_ HT_ 8 40 (B_ 383 14) ?_
       refine pu_ HT_ 9 41 (B_ 895 14) ?_
       refine pu_ HT_ 10 42 (B_ 1919 14) ?_
       refine tk2_ HT_ HW_ hHeld 7 39 (B_ 2047 14) ?_
       refine tk2_ HT_ HW_ hHeld 11 43 (B_ 4095 14) ?_
       refine pu_ HT_ 12 44 (B_ 8191 14) ?_
       refine pu_ HT_ 13 45 (B_ 16383 14) ?_
       refine done_ (done_of HT_.out (by kernel_rfl)) ?_
       try go_wp2
       go_roundg k2
       case measure => have := HK1.out; have := HK2.out; omega
       case rel => exact ⟨(x3_1), (wrap64 (x4_1 + 1)), rs_, H', ⟨by have := HK1.out; have := HK2.out; omega⟩, ⟨re_ HO_3.out⟩, ⟨bl_ HB.out⟩⟩
     rw [if_neg c14] at H
     have c14b0 : ((rd x3_1 (ji7)) == (rd l0 x4_1)) = false := beq_eq_false_iff_ne.mpr c14
     have c14b1 : ((rd x3_1 (ji7)) != (rd l0 x4_1)) = true := bne_iff_ne.mpr c14
     obtain ⟨y211, hy211⟩ : ∃ y_ : List Int, y_ = (([] : List Int)) := ⟨_, rfl⟩
     replace H : (if 0 ≤ x5_2 then (if x5_2 ≤ (x3_1.length : Int) then ((some (x3_1.drop (x5_2 : Int).toNat : List Int)).bind fun y214 => (if y211.length + y214.length < 17592186044416 then ((some (y211 ++ y214 : List Int)).bind fun y218 => ((some (x3_1.take (x5_2 : Int).toNat : List Int)).bind fun y221 => (if y221.length < 17592186044416 then ((some (y221 ++ [rd l0 x4_1] : List Int)).bind fun y225 => (if y225.length + y218.length < 17592186044416 then (spec_SortList.l0 k2 l0 (y225 ++ y218) (wrap64 (x4_1 + 1))) else (none))) else (none)))) else (none))) else (none)) else (none)) = some r := by subst hy211; exact H
     have Ny211 := Aside0.mk hy211
     clear hy211
     obtain ⟨c17, H⟩ := ip_ H
     have c17b0 := eq_true c17
     have c17b1 : decide (0 ≤ x5_2) = true := decide_eq_true c17
     clear c17
     obtain ⟨c18, H⟩ := ip_ H
     have c18b0 := eq_true c18
     have c18b1 : decide (x5_2 ≤ (x3_1.length : Int)) = true := decide_eq_true c18
     clear c18
     obtain ⟨y214, hy214⟩ : ∃ y_ : List Int, y_ = (x3_1.drop (x5_2 : Int).toNat) := ⟨_, rfl⟩
     replace H : (if y211.length + y214.length < 17592186044416 then ((some (y211 ++ y214 : List Int)).bind fun y218 => ((some (x3_1.take (x5_2 : Int).toNat : List Int)).bind fun y221 => (if y221.length < 17592186044416 then ((some (y221 ++ [rd l0 x4_1] : List Int)).bind fun y225 => (if y225.length + y218.length < 17592186044416 then (spec_SortList.l0 k2 l0 (y225 ++ y218) (wrap64 (x4_1 + 1))) else (none))) else (none)))) else (none)) = some r := by subst hy214; exact H
     have Ny214 := Aside0.mk hy214
     clear hy214
     obtain ⟨c19, H⟩ := ip_ H
     have LMc19 := Aside0.mk c19
     clear c19
     obtain ⟨y218, hy218⟩ : ∃ y_ : List Int, y_ = (y211 ++ y214) := ⟨_, rfl⟩
     replace H : ((some (x3_1.take (x5_2 : Int).toNat : List Int)).bind fun y221 => (if y221.length < 17592186044416 then ((some (y221 ++ [rd l0 x4_1] : List Int)).bind fun y225 => (if y225.length + y218.length < 17592186044416 then (spec_SortList.l0 k2 l0 (y225 ++ y218) (wrap64 (x4_1 + 1))) else (none))) else (none))) = some r := by subst hy218; exact H
     have Ny218 := Aside0.mk hy218
     clear hy218
     have c20b0 := eq_true (od_ : x5_2 ≤ (x3_1.length : Int))
     obtain ⟨y221, hy221⟩ : ∃ y_ : List Int, y_ = (x3_1.take (x5_2 : Int).toNat) := ⟨_, rfl⟩
     replace H : (if y221.length < 17592186044416 then ((some (y221 ++ [rd l0 x4_1] : List Int)).bind fun y225 => (if y225.length + y218.length < 17592186044416 then (spec_SortList.l0 k2 l0 (y225 ++ y218) (wrap64 (x4_1 + 1))) else (none))) else (none)) = some r := by subst hy221; exact H
     have Ny221 := Aside0.mk hy221
     clear hy221
     obtain ⟨c21, H⟩ := ip_ H
     have LMc21 := Aside0.mk c21
     clear c21
     obtain ⟨y225, hy225⟩ : ∃ y_ : List Int, y_ = (y221 ++ [rd l0 x4_1]) := ⟨_, rfl⟩
     replace H : (if y225.length + y218.length < 17592186044416 then (spec_SortList.l0 k2 l0 (y225 ++ y218) (wrap64 (x4_1 + 1))) else (none)) = some r := by subst hy225; exact H
     have Ny225 := Aside0.mk hy225
     clear hy225
     obtain ⟨c22, H⟩ := ip_ H
     have LMc22 := Aside0.mk c22
     clear c22
     obtain ⟨y228, hy228⟩ : ∃ y_ : List Int, y_ = (y225 ++ y218) := ⟨_, rfl⟩
     replace H : (spec_SortList.l0 k2 l0 y228 (wrap64 (x4_1 + 1))) = some r := by subst hy228; exact H
     have Ny228 := Aside0.mk hy228
     clear hy228
     have H' := Aside0.mk H
     clear H
     try go_wp2
     replace HO_3 := Aside0.mk (Kd.R_drew HO_3.out)
     replace HB := Aside0.mk (below_drew1 HB.out)
     have p207 : 0 ≤ ((ji7) : Int) := od_
     have q207 : (ji7) < (x3_1.length : Int) := od_
     obtain ⟨ad207, e207, hx207_0⟩ := Kd.at_int (Kd.R_reads' HO_3.out).2.2 (ji7) p207 q207
     cases e207
     replace p207 := eq_true p207
     replace q207 := eq_true q207
     have p208 : 0 ≤ (x4_1 : Int) := od_
     have q208 : x4_1 < (l0.length : Int) := od_
     obtain ⟨ad208, e208, hx208_0⟩ := Kd.at_int HR0.out x4_1 p208 q208
     have hw208_0 := hx208_0
     cases e208
     (try replace hx208_0 := (HB.out.cell (World.block_lt_of_cell? w _ hx208_0)).trans hx208_0)
     replace p208 := eq_true p208
     replace q208 := eq_true q208
     refine start_ (n := 14) (S := fun w' => w'.cell? (ad207.add ((ji7)).toNat) = some (.int .i64 (rd x3_1 (ji7))) ∧ w'.cell? (ad208.add (x4_1).toNat) = some (.int .i64 (rd l0 x4_1))) (ds := []) (B_ 0 14) (by kernel_rfl) rfl rfl ⟨hx207_0, ((HB.out.cell (World.block_lt_of_cell? w _ hw208_0)).trans hw208_0)⟩ (fun hHeld => ?_); refine with_tabW spec_SortList.tab6 spec_SortList.bits6 (fun HT_ HW_ => ?_)
     generalize wr.drew = w23 at HO_3 HB hx207_0 hx208_0 hHeld ⊢
     refine pu_ HT_ 0 16 (B_ 1 14) ?_
     refine pu_ HT_ 1 17 (B_ 3 14) ?_
     refine pu_ HT_ 2 18 (B_ 7 14) ?_
     refine pu_ HT_ 3 19 (B_ 15 14) ?_
     refine pu_ HT_ 4 20 (B_ 31 14) ?_
     refine pu_ HT_ 5 21 (B_ 63 14) ?_
     refine pu_ HT_ 6 22 (B_ 127 14) ?_
     refine pu_ HT_ 8 24 (B_ 383 14) ?_
     refine pu_ HT_ 9 25 (B_ 895 14) ?_
     refine pu_ HT_ 10 26 (B_ 1919 14) ?_
     refine tk2_ HT_ HW_ hHeld 7 23 (B_ 2047 14) ?_
     refine tk2_ HT_ HW_ hHeld 11 27 (B_ 4095 14) ?_
     refine pu_ HT_ 12 28 (B_ 8191 14) ?_
     refine pu_ HT_ 13 29 (B_ 16383 14) ?_
     refine done_ (done_of HT_.out (by kernel_rfl)) ?_
     try go_wp2
     replace HO_3 := Aside0.mk (Kd.R_drew HO_3.out)
     replace HB := Aside0.mk (below_drew1 HB.out)
     have p209 : 0 ≤ ((ji7) : Int) := od_
     have q209 : (ji7) < (x3_1.length : Int) := od_
     obtain ⟨ad209, e209, hx209_0⟩ := Kd.at_int (Kd.R_reads' HO_3.out).2.2 (ji7) p209 q209
     obtain rfl : ad207 = ad209 := (by injection e209)
     replace p209 := eq_true p209
     replace q209 := eq_true q209
     have p210 : 0 ≤ (x4_1 : Int) := od_
     have q210 : x4_1 < (l0.length : Int) := od_
     obtain ⟨ad210, e210, hx210_0⟩ := Kd.at_int HR0.out x4_1 p210 q210
     have hw210_0 := hx210_0
     obtain rfl : ad208 = ad210 := (by injection e210)
     (try replace hx210_0 := (HB.out.cell (World.block_lt_of_cell? w _ hx210_0)).trans hx210_0)
     replace p210 := eq_true p210
     replace q210 := eq_true q210
     refine start_ (n := 14) (S := fun w' => w'.cell? (ad207.add ((ji7)).toNat) = some (.int .i64 (rd x3_1 (ji7))) ∧ w'.cell? (ad208.add (x4_1).toNat) = some (.int .i64 (rd l0 x4_1))) (ds := []) (B_ 0 14) (by kernel_rfl) rfl rfl ⟨hx209_0, ((HB.out.cell (World.block_lt_of_cell? w _ hw210_0)).trans hw210_0)⟩ (fun hHeld => ?_); refine with_tabW spec_SortList.tab8 spec_SortList.bits8 (fun HT_ HW_ => ?_)
     generalize w23.drew = w24 at HO_3 HB hx209_0 hx210_0 hHeld ⊢
     refine pu_ HT_ 0 32 (B_ 1 14) ?_
     refine pu_ HT_ 1 33 (B_ 3 14) ?_
     refine pu_ HT_ 2 34 (B_ 7 14) ?_
     refine pu_ HT_ 3 35 (B_ 15 14) ?_
     refine pu_ HT_ 4 36 (B_ 31 14) ?_
     refine pu_ HT_ 5 37 (B_ 63 14) ?_
     refine pu_ HT_ 6 38 (B_ 127 14) ?_
     refine pu_ HT_ 8 40 (B_ 383 14) ?_
     refine pu_ HT_ 9 41 (B_ 895 14) ?_
     refine pu_ HT_ 10 42 (B_ 1919 14) ?_
     refine tk2_ HT_ HW_ hHeld 7 39 (B_ 2047 14) ?_
     refine tk2_ HT_ HW_ hHeld 11 43 (B_ 4095 14) ?_
     refine pu_ HT_ 12 44 (B_ 8191 14) ?_
     refine pu_ HT_ 13 45 (B_ 16383 14) ?_
     refine done_ (done_of HT_.out (by kernel_rfl)) ?_
     try go_wp2_with (first | ((with_reducible refine gate_dst (N := 46) rfl ?_); refine Kd.R_lit (Kd.int .i64) _ 3 ?hg (N := 46) ?hd (xs := ([] : List Int)) (inner := []) (ok := fun _ => True) (okp := fun _ => True) ?hr ?hp (fun _ hk => hk) trivial (Below.refl _ _) (Nat.le_refl _) (by simp) ?_; (case hd => rfl); (case hg => rfl); (case hr => first | (go_simp; done) | (go_simp; rfl)); (case hp => exact (Reps.none _ _)); intro v212 w25 ho26 hb hg_ hnew_; clear hg_ hnew_; (first | rw [← Ny211.out] at ho26 | (simp only [Int.reduceToNat] at ho26; rw [← Ny211.out] at ho26)); have HO213 := Aside0.mk (Kd.R_lower (Kd.R_new' ho26 (Kd.R_lt (re_ HO_3.out))) (below_size (bl_ HB.out))); replace HO_3 := Aside0.mk (Kd.R_elder' (re_ HO_3.out) (Kd.R_base ho26) hb); replace HB := bo_ HB hb; clear hb ho26; have q27 : (x5_2 : Int) ≤ ((x3_1.length : Int) : Int) := od_; obtain ⟨i027, hi027, _, hsz27, _⟩ := info_parts info3; have hroom27 : x3_1.length ≤ co5 := (Kd.R_reads' HO_3.out).2.1; have hC27 : Kd.C (Kd.int .i64) _ (some ad207) x3_1.length x3_1 := (Kd.R_reads' HO_3.out).2.2; have q027 : (0 : Int) ≤ (x5_2 : Int) := od_; have hcut27 := cut_from (P := Try.prog) 24 3 .i64 Try.underlying24 hi027 1 hsz27 (some ad207) x3_1.length co5 x5_2 q027 q27; have hr27 := Kd.C_drop (m := (x5_2 : Int).toNat) (c := co5) hC27 (by omega) hroom27; obtain ⟨A27, hA27⟩ : ∃ A1, A1 = (if co5 = (x5_2 : Int).toNat then (some ad207) else ((some ad207) : Option Addr).map (·.add ((x5_2 : Int).toNat * 1))) := ⟨_, rfl⟩; obtain ⟨c27, hc27⟩ : ∃ c1, c1 = co5 - (x5_2 : Int).toNat := ⟨_, rfl⟩; have hy27 : y214.length = x3_1.length - (x5_2 : Int).toNat := (by rw [Ny214.out, List.length_drop] <;> omega); rw [show (x3_1).drop (x5_2 : Int).toNat = y214 from Ny214.out.symm] at hr27; replace hr27 : Kd.C (Kd.int .i64) _ A27 y214.length y214 := (by rw [hA27]; exact hr27); rw [← hy27, ← hA27, ← hc27] at hcut27; have HR217 := Aside0.mk hr27; have HC217 := Aside0.mk (show y214.length ≤ c27 from by rw [hy27, hc27]; exact Nat.sub_le_sub_right hroom27 _); clear hr27 hC27 hroom27 hi027 hsz27 hc27; have KY27 := Aside0.mk hy27; have KA27 := Aside0.mk hA27; clear hy27 hA27; have KL27 := Aside0.mk (show (x5_2 : Int).toNat ≤ x3_1.length from by omega); replace q27 := eq_true q27) | ((with_reducible refine gate_builtin (b := .append) (xs := #[.tmp 46, .tmp 49]) rfl ?_); at_builtin; refine Kd.R_append_rows (Kd.int .i64) (w0 := w) w.heap.size rfl (.tmp 46) (.tmp 49) 24 3 (.int .i64 0) 8 rfl Try.underlying24 info3 rfl (by decide) (by omega) v212 y211 y214 _ _ _ (fun k_ => some k_ ≠ (.slice (some ad207) x3_1.length co5 : Value).ownBlock) (fun _ => False) rfl rfl ?aO ?aR (fun _ _ h => h) (fun _ h => h.elim) ?aF ?aB ?aS ?aL ?_; (case aR => repeat (first | exact (by repeat (first | (with_reducible exact HR217.out) | (with_reducible refine Kd.C_alloc ?_ _) | (with_reducible refine Kd.C_drewN ?_ _) | (with_reducible refine Kd.C_drew ?_) | exact HR217.out)) | (with_reducible refine Kd.C_alloc ?_ _) | (with_reducible refine Kd.C_drewN ?_ _) | (with_reducible refine Kd.C_drew ?_))); (case aB => exact (bl_ HB.out)); (case aF => exact (fun k_ hk => Kd.fresh' (Kd.R_lt (re_ HO_3.out)) k_ hk)); (case aO => exact (by (with_reducible repeat (first | apply Kd.R_alloc | apply Kd.R_drewN | apply Kd.R_drew)); exact Kd.R_mono HO213.out (fun _ hk => hk.2))); (case aS => exact (below_size (bl_ HB.out))); (case aL => have := LMc19.out; omega); intro v219 w28 ho hb hg hat; rw [← Ny218.out] at ho; replace HB := Aside0.mk (hb); replace HR217 := Aside0.mk ((show Kd.C (Kd.int .i64) w28 A27 y214.length y214 from by rw [Ny214.out, KA27.out]; exact Kd.C_drop (m := (x5_2 : Int).toNat) (c := co5) ((Kd.R_reads' (Kd.R_after (ok := (fun _ => True)) (re_ HO_3.out) hg hat)).2.2) KL27.out ((Kd.R_reads' (Kd.R_after (ok := (fun _ => True)) (re_ HO_3.out) hg hat)).2.1))); replace HO_3 := Aside0.mk (Kd.R_after (ok := (fun _ => True)) (re_ HO_3.out) hg hat); have HO220 := Aside0.mk (ho); clear HO213; clear ho hb hg hat))
     replace HO_3 := Aside0.mk (Kd.R_drew HO_3.out)
     replace HO220 := Aside0.mk (Kd.R_drew HO220.out)
     replace HR217 := Aside0.mk (Kd.C_drew HR217.out)
     replace HB := Aside0.mk (below_drew1 HB.out)
     have q30 : (x5_2 : Int) ≤ ((x3_1.length : Int) : Int) := od_
     obtain ⟨i030, hi030, _, hsz30, _⟩ := info_parts info3
     have hcut30 := cut_to (P := Try.prog) 24 3 .i64 Try.underlying24 hi030 (some ad207) x3_1.length co5 x5_2 (od_) q30 (Kd.R_reads' HO_3.out).2.1
     have hr30 := Kd.R_take (m := (x5_2 : Int).toNat) HO_3.out (by omega)
     have hy30 : y221.length = (x5_2 : Int).toNat := (by rw [Ny221.out, List.length_take]; omega)
     rw [← Ny221.out] at hr30
     rw [← hy30] at hr30 hcut30
     clear hy30 hi030 hsz30 HO_3
     have HO223 := Aside0.mk hr30
     clear hr30
     replace q30 := eq_true q30
     have p224 : 0 ≤ (x4_1 : Int) := od_
     have q224 : x4_1 < (l0.length : Int) := od_
     obtain ⟨ad224, e224, hx224_0⟩ := Kd.at_int HR0.out x4_1 p224 q224
     have hw224_0 := hx224_0
     obtain rfl : ad208 = ad224 := (by injection e224)
     (try replace hx224_0 := (HB.out.cell (World.block_lt_of_cell? w _ hx224_0)).trans hx224_0)
     replace p224 := eq_true p224
     replace q224 := eq_true q224
     refine start_ (n := 12) (S := fun w' => w'.cell? (ad208.add (x4_1).toNat) = some (.int .i64 (rd l0 x4_1))) (ds := []) (B_ 0 12) (by kernel_rfl) rfl rfl (by first | exact hw224_0 | exact (HB.out.cell (World.block_lt_of_cell? w _ hw224_0)).trans hw224_0 | (obtain ⟨_, e_, h_⟩ := Kd.at_int HR0.out x4_1 (of_eq_true p224) (of_eq_true q224); cases e_; exact h_)) (fun hHeld => ?_); refine with_tabW spec_SortList.tab10 spec_SortList.bits10 (fun HT_ HW_ => ?_)
     generalize w28.drew = w29 at HO_3 HO220 HR217 HB HO223 hx224_0 hHeld ⊢
     refine pu_ HT_ 0 51 (B_ 1 12) ?_
     refine pu_ HT_ 1 52 (B_ 3 12) ?_
     refine pu_ HT_ 2 53 (B_ 7 12) ?_
     refine pu_ HT_ 3 54 (B_ 15 12) ?_
     refine pu_ HT_ 4 55 (B_ 31 12) ?_
     refine pu_ HT_ 5 56 (B_ 63 12) ?_
     refine pu_ HT_ 9 60 (B_ 575 12) ?_
     refine tk1_ HT_ HW_ hHeld 6 57 (B_ 639 12) ?_
     refine on_ HT_ 7 58 (B_ 767 12) (fun K hK => ?_)
     refine value_ (w1 := ?_) (v := ?_) (by rfl) rfl ?_ ?_
     rotate_left 2
     · go_simp
       constructor
       · rfl
       · rfl
     refine hK.out _ _ ((World.cell?_alloc_lt _ _ _ (World.block_lt_of_cell? _ _ (by first | exact hw224_0 | exact (HB.out.cell (World.block_lt_of_cell? w _ hw224_0)).trans hw224_0 | (obtain ⟨_, e_, h_⟩ := Kd.at_int HR0.out x4_1 (of_eq_true p224) (of_eq_true q224); cases e_; exact h_)))).trans (by first | exact hw224_0 | exact (HB.out.cell (World.block_lt_of_cell? w _ hw224_0)).trans hw224_0 | (obtain ⟨_, e_, h_⟩ := Kd.at_int HR0.out x4_1 (of_eq_true p224) (of_eq_true q224); cases e_; exact h_))) (fun hHeld => ?_)
     clear hK K
     refine norm_ (a' := ?_) ?_ ?_
     rotate_left
     · show Act.put _ (some 58) _ = _
       simp only [Act.put, z1_, z2_, z3_, i64_w, i32_w]
       rfl
     refine on_ HT_ 8 59 (B_ 1023 12) (fun K hK => ?_)
     refine Kd.R_append_step (Kd.int .i64) (w0 := w) w.heap.size (by rfl) (.tmp 53) (.tmp 58) 24 3 (.int .i64 0) 8 rfl Try.underlying24 info3 rfl (by decide) (by omega) (.slice (some ad207) y221.length co5) y221 (rd l0 x4_1) [.int .i64 (rd l0 x4_1)] (fun k_ => some k_ ≠ (v219 : Value).ownBlock) (fun _ => False) rfl rfl ?aP (fun _ hk => hk.elim) ?aF ?aO ?aB ?aS ?aL ?_
     (case aP => exact rfl)
     (case aB => exact (bl_ HB.out))
     (case aF => exact (fun k_ hk => Kd.fresh' (Kd.R_lt (re_ HO220.out)) k_ hk))
     (case aO => exact (by (with_reducible repeat (first | apply Kd.R_alloc | apply Kd.R_drewN | apply Kd.R_drew)); exact Kd.R_mono HO223.out (fun _ hk => hk.2)))
     (case aS => exact (below_size (bl_ HB.out)))
     (case aL => have := LMc21.out; omega)
     intro v226 w31 ho hb hg hat
     rw [← Ny225.out] at ho
     replace HO220 := Aside0.mk (Kd.R_after (ok := (fun _ => True)) (by (with_reducible repeat (first | apply Kd.R_alloc | apply Kd.R_drewN | apply Kd.R_drew)); exact Kd.R_mono HO220.out (fun _ hk => ⟨trivial, by first | exact hk | exact (fun e_ => hk (e_.trans (own_len_ _ _ _ _ _)))⟩)) hg hat)
     replace HB := Aside0.mk (hb)
     have HO227 := Aside0.mk (ho)
     clear HO223
     clear ho hb hg hat
     obtain ⟨Ao33, co33, eo33⟩ := Kd.R_slice HO220.out
     (first | subst eo33 | (injection eo33 with f1_ f2_ f3_; have f4_ := f1_.symm; have f5_ := f3_.symm; clear f1_ f2_ f3_; subst f4_; subst f5_))
     refine hK.out _ _ (by first | exact hw224_0 | exact (HB.out.cell (World.block_lt_of_cell? w _ hw224_0)).trans hw224_0 | (obtain ⟨_, e_, h_⟩ := Kd.at_int HR0.out x4_1 (of_eq_true p224) (of_eq_true q224); cases e_; exact h_)) (fun hHeld => ?_)
     clear hK K
     refine norm_ (a' := ?_) ?_ ?_
     rotate_left
     · show Act.put _ (some 59) _ = _
       simp only [Act.put, z1_, z2_, z3_, i64_w, i32_w]
       rfl
     refine on_ HT_ 10 61 (B_ 2047 12) (fun K hK => ?_)
     refine Kd.R_append_rows_step (Kd.int .i64) (w0 := w) w.heap.size (by rfl) (.tmp 59) (.tmp 60) 24 3 (.int .i64 0) 8 rfl Try.underlying24 info3 rfl (by decide) (by omega) v226 y225 y218 _ _ _ (fun k_ => some k_ ≠ (.slice Ao33 y218.length co33 : Value).ownBlock) (fun _ => False) rfl rfl ?aO ?aR (fun _ _ h => h) (fun _ h => h.elim) ?aF ?aB ?aS ?aL ?_
     (case aR => exact ce_ ((Kd.R_reads' HO220.out).2.2))
     (case aB => exact (bl_ HB.out))
     (case aF => exact (fun k_ hk => Kd.fresh' (Kd.R_lt (re_ HO220.out)) k_ hk))
     (case aO => exact (re_ HO227.out))
     (case aS => exact (below_size (bl_ HB.out)))
     (case aL => have := LMc22.out; omega)
     intro v229 w32 ho hb hg hat
     rw [← Ny228.out] at ho
     replace HO220 := Aside0.mk (Kd.R_after (ok := (fun _ => True)) (re_ HO220.out) hg hat)
     replace HB := Aside0.mk (hb)
     have HO230 := Aside0.mk (ho)
     clear HO227
     clear ho hb hg hat
     refine hK.out _ _ (by first | exact hw224_0 | exact (HB.out.cell (World.block_lt_of_cell? w _ hw224_0)).trans hw224_0 | (obtain ⟨_, e_, h_⟩ := Kd.at_int HR0.out x4_1 (of_eq_true p224) (of_eq_true q224); cases e_; exact h_)) (fun hHeld => ?_)
     clear hK K
     refine norm_ (a' := ?_) ?_ ?_
     rotate_left
     · show Act.put _ (some 61) _ = _
       simp only [Act.put, z1_, z2_, z3_, i64_w, i32_w]
       rfl
     refine pu_ HT_ 11 3 (B_ 4095 12) ?_
     refine done_ (done_of HT_.out (by kernel_rfl)) ?_
     try go_wp2
     go_roundg k2
     case measure => have := HK1.out; have := HK2.out; omega
     case rel => exact ⟨(y228), (wrap64 (x4_1 + 1)), rs_, H', ⟨by have := HK1.out; have := HK2.out; omega⟩, ⟨by (with_reducible repeat (first | apply Kd.R_alloc | apply Kd.R_drewN | apply Kd.R_drew)); exact Kd.R_mono HO230.out (fun _ hk => trivial)⟩, ⟨bl_ HB.out⟩⟩
def spec_l3Minimal.l0 : Nat → List Int → List Int → Int → Option (List Int)
 | 0, _, _, _ => none
 | k + 1, x3, x4, x5 => if x5 < (x4.length : Int) then (if x5 = 0 then (if 0 ≤ x5 then (if x3.length < 17592186044416 then (spec_l3Minimal.l0 k (x3 ++ [rd x4 x5]) x4 (wrap64 (x5 + 1))) else (none)) else (none)) else (if 0 ≤ x5 then (if x5 ≤ (x4.length : Int) then ((spec_l3Table.f k (x4.take (x5 : Int).toNat) (rd x4 x5)).bind fun t274 => (if 0 ≤ (rd x4 x5) then (if (rd x4 x5) < (t274.length : Int) then (if (rdOf false t274 (rd x4 x5) = true) then (spec_l3Minimal.l0 k x3 x4 (wrap64 (x5 + 1))) else (if x3.length < 17592186044416 then (spec_l3Minimal.l0 k (x3 ++ [rd x4 x5]) x4 (wrap64 (x5 + 1))) else (none))) else (none)) else (none))) else (none)) else (none))) else (some x3)
def spec_l3Minimal.f (k : Nat) (l0 : List Int) : Option (List Int) := (spec_SortList.f k l0).bind fun t262 => (spec_l3Minimal.l0 k (([] : List Int)) t262 0)
theorem spec_l3Minimal.mono_l : ∀ k, (∀ y0 y1 y2, LeO (spec_l3Minimal.l0 k y0 y1 y2) (spec_l3Minimal.l0 (k + 1) y0 y1 y2))
 | 0 => fun _ _ _ r h => by simp [spec_l3Minimal.l0] at h
 | k + 1 => by
  have ih0 := spec_l3Minimal.mono_l k
  · intro y0 y1 y2
    unfold spec_l3Minimal.l0
    repeat' first
    | (with_reducible exact ih0 _ _ _)
    | (with_reducible exact spec_SortList.mono _ _)
    | (with_reducible exact spec_l3Table.mono _ _ _)
    | (with_reducible exact LeO.refl _)
    | (with_reducible exact LeO.none _)
    | (with_reducible refine LeO.ite ?_ ?_)
    | (with_reducible refine LeO.bind ?_ (fun _ => ?_))
    | exact ih0 _ _ _
    | exact LeO.none _
    | refine LeO.ite ?_ ?_
    | refine LeO.bind ?_ (fun _ => ?_)
theorem spec_l3Minimal.mono : ∀ a0 k, LeO (spec_l3Minimal.f k a0) (spec_l3Minimal.f (k + 1) a0) := by
 intro a0 k
 have ih0 := spec_l3Minimal.mono_l k
 unfold spec_l3Minimal.f
 repeat' first
  | (with_reducible exact ih0 _ _ _)
  | (with_reducible exact spec_SortList.mono _ _)
  | (with_reducible exact spec_l3Table.mono _ _ _)
  | (with_reducible exact LeO.refl _)
  | (with_reducible exact LeO.none _)
  | (with_reducible refine LeO.ite ?_ ?_)
  | (with_reducible refine LeO.bind ?_ (fun _ => ?_))
  | exact ih0 _ _ _
  | exact LeO.none _
  | refine LeO.ite ?_ ?_
  | refine LeO.bind ?_ (fun _ => ?_)
def spec_l3Minimal.T6 : Bool × List (List Nat × List Nat) := (true, [([], []), ([0], [0]), ([1], [1]), ([2], [2]), ([2], [2]), ([3, 4, 2], [2, 3, 4]), ([2], [2]), ([2], [2]), ([6, 7, 2], [2, 6, 7]), ([8, 2], [2, 8]), ([5, 9, 2, 2], [2, 5, 9]), ([2], [2]), ([2], [2]), ([11, 12, 2], [2, 11, 12]), ([13, 2], [2, 13]), ([10, 14, 2], [2, 10, 14]), ([15, 2], [2, 15]), ([16, 2], [2, 16]), ([2, 17], [2, 17])])
def spec_l3Minimal.B6 : List Nat := [0, 1, 3, 7, 7, 31, 7, 7, 199, 455, 1023, 7, 7, 6151, 14343, 32767, 65535, 131071, 262143]
theorem spec_l3Minimal.tab6 : rtab .any (opsOf Try.f50 6) = spec_l3Minimal.T6 := by kernel_rfl
theorem spec_l3Minimal.bits6 : waitsOk spec_l3Minimal.T6.2 spec_l3Minimal.B6 = true := by kernel_rfl
theorem spec_l3Minimal.calls (k : Nat) (A0 : Option Addr) (c0 : Nat) (l0 : List Int) (r : List Int) (w : World) (hr0 : Kd.C (Kd.int .i64) w A0 l0.length l0) (hc0 : l0.length ≤ c0) (h : spec_l3Minimal.f k l0 = some r) :
 Calls Try.prog 50 #[.slice A0 l0.length c0] w fun e w' => ∃ v0_ : Value, e = .returned (v0_) ∧ Kd.R (Kd.int .i64) 3 w' w.heap.size (fun _ => True) v0_ r ∧ Below w.heap.size w w' := by
 have HR0 := Aside0.mk hr0
 have HC0 := Aside0.mk hc0
 clear hr0 hc0
 have HB := Aside0.mk (Below.refl w.heap.size w)
 have H := h
 clear h
 unfold spec_l3Minimal.f at H
 obtain ⟨y259, hy259⟩ : ∃ y_ : List Int, y_ = (([] : List Int)) := ⟨_, rfl⟩
 replace H : ((spec_SortList.f k l0).bind fun t262 => (spec_l3Minimal.l0 k y259 t262 0)) = some r := by subst hy259; exact H
 have Ny259 := Aside0.mk hy259
 clear hy259
 obtain ⟨t262, A2, H⟩ := ob_ H
 have H' := Aside0.mk H
 clear H
 go_enter Try.func50, Try.ntmps50
 go_wp2_with (first | ((with_reducible refine gate_dst (N := 6) rfl ?_); refine Kd.R_lit (Kd.int .i64) _ 3 ?hg (N := 6) ?hd (xs := ([] : List Int)) (inner := []) (ok := fun _ => True) (okp := fun _ => True) ?hr ?hp (fun _ hk => hk) trivial (Below.refl _ _) (Nat.le_refl _) (by simp) ?_; (case hd => rfl); (case hg => rfl); (case hr => first | (go_simp; done) | (go_simp; rfl)); (case hp => exact (Reps.none _ _)); intro v260 w3 ho4 hb hg_ hnew_; clear hg_ hnew_; (first | rw [← Ny259.out] at ho4 | (simp only [Int.reduceToNat] at ho4; rw [← Ny259.out] at ho4)); have HO261 := Aside0.mk (Kd.R_lower ho4 (below_size (bl_ HB.out))); replace HB := bo_ HB hb; clear hb ho4) | ((with_reducible refine gate_callee (f := 53) rfl ?_); refine gL_ (some 8) Try.func53 #[.slice A0 l0.length c0] ?_; (with_reducible refine (spec_SortList.calls k _ _ l0 t262 _ ?side1 ?side2 A2.out).mono ?_); (case side1 => exact ch_ HR0 HB); (case side2 => exact HC0.out); rintro e w5 ⟨v263, rfl, ho0, hb⟩; refine ⟨_, rfl, ?_⟩; have HO264 := Aside0.mk (Kd.R_lower (Kd.R_new' ho0 (Kd.R_lt (re_ HO261.out))) (below_size (bl_ HB.out))); replace HO261 := Aside0.mk (Kd.R_elder' (re_ HO261.out) (Kd.R_base ho0) hb); replace HB := bo_ HB hb; (try clear hb); (try clear ho0)))
 go_loopg [3, 5] k (fun kq v3 v5 w' => ∃ (x3_1 : List Int) (x5_1 : Int), v5 = .int .i64 x5_1 ∧ Aside0 (spec_l3Minimal.l0 kq x3_1 t262 x5_1 = some r) ∧ Aside0 (kq ≤ k) ∧ Aside0 (Kd.R (Kd.int .i64) 3 w' w.heap.size (fun k_ => some k_ ≠ (v263 : Value).ownBlock) v3 x3_1) ∧ Aside0 (Kd.R (Kd.int .i64) 3 w' w.heap.size (fun k_ => some k_ ≠ (v3 : Value).ownBlock) v263 t262) ∧ Aside0 (Below w.heap.size w w'))
 case atStart => exact ⟨(y259), (0), rs_, H', ⟨Nat.le_refl _⟩, ⟨by (with_reducible repeat (first | apply Kd.R_alloc | apply Kd.R_drewN | apply Kd.R_drew)); exact Kd.R_mono HO261.out (fun _ hk => hk.2)⟩, ⟨by (with_reducible repeat (first | apply Kd.R_alloc | apply Kd.R_drewN | apply Kd.R_drew)); exact Kd.R_mono HO264.out (fun _ hk => hk.2)⟩, ⟨bl_ HB.out⟩⟩
 case round =>
  clear H'
  obtain ⟨x3_1, x5_1, rfl, HA, HK1, HO_3, HO_4, HB⟩ := hrel
  cases gk with
  | zero => exact absurd HA.out (by simp [spec_l3Minimal.l0])
  | succ k1 =>
   have H := HA.out
   clear HA
   simp only [spec_l3Minimal.l0] at H
   by_cases c6 : x5_1 < (t262.length : Int)
   rotate_left
   · rw [if_neg c6] at H
     have c6b0 : decide (x5_1 < (t262.length : Int)) = false := decide_eq_false c6
     clear c6
     obtain rfl := Option.some.inj H
     obtain ⟨Ao32, co32, eo32⟩ := Kd.R_slice HO_4.out
     subst eo32
     go_wp2
     go_ret
     exact ⟨_, rf_, by (with_reducible repeat (first | apply Kd.R_alloc | apply Kd.R_drewN | apply Kd.R_drew)); exact Kd.R_mono HO_3.out (fun _ hk => trivial), bl_ HB.out⟩
   rw [if_pos c6] at H
   have c6b0 : decide (x5_1 < (t262.length : Int)) = true := decide_eq_true c6
   clear c6
   by_cases c7 : x5_1 = 0
   · rw [if_pos c7] at H
     have c7b0 : (x5_1 == 0) = true := beq_iff_eq.mpr c7
     have c7b1 : (x5_1 != 0) = false := bne_eq_false_iff_eq.mpr c7
     clear c7
     obtain ⟨c8b0, H⟩ := ipd_ H
     obtain ⟨c9, H⟩ := ip_ H
     have LMc9 := Aside0.mk c9
     clear c9
     obtain ⟨y266, hy266⟩ : ∃ y_ : List Int, y_ = (x3_1 ++ [rd t262 x5_1]) := ⟨_, rfl⟩
     replace H : (spec_l3Minimal.l0 k1 y266 t262 (wrap64 (x5_1 + 1))) = some r := by subst hy266; exact H
     have Ny266 := Aside0.mk hy266
     clear hy266
     have H' := Aside0.mk H
     clear H
     obtain ⟨Ao10, co10, eo10⟩ := Kd.R_slice HO_4.out
     subst eo10
     try go_wp2
     replace HO_3 := Aside0.mk (Kd.R_drew HO_3.out)
     replace HO_4 := Aside0.mk (Kd.R_drew HO_4.out)
     replace HB := Aside0.mk (below_drew1 HB.out)
     refine start_ (n := 19) (S := fun w' => True) (ds := []) (B_ 0 19) (by kernel_rfl) rfl rfl trivial (fun hHeld => ?_); refine with_tabW spec_l3Minimal.tab6 spec_l3Minimal.bits6 (fun HT_ HW_ => ?_)
     generalize wr.drew = w11 at HO_3 HO_4 HB hHeld ⊢
     refine pu_ HT_ 0 15 (B_ 1 19) ?_
     refine pu_ HT_ 1 16 (B_ 3 19) ?_
     refine pu_ HT_ 2 17 (B_ 7 19) ?_
     refine pn_ HT_ 3 18 (B_ 15 19) ?_
     refine pn_ HT_ 4 19 (B_ 31 19) ?_
     refine pn_ HT_ 5 20 (B_ 63 19) ?_
     refine pn_ HT_ 6 21 (B_ 127 19) ?_
     refine pn_ HT_ 7 22 (B_ 255 19) ?_
     refine pn_ HT_ 8 23 (B_ 511 19) ?_
     refine pn_ HT_ 9 24 (B_ 1023 19) ?_
     refine pn_ HT_ 10 25 (B_ 2047 19) ?_
     refine pn_ HT_ 11 26 (B_ 4095 19) ?_
     refine pn_ HT_ 12 27 (B_ 8191 19) ?_
     refine pn_ HT_ 13 28 (B_ 16383 19) ?_
     refine pn_ HT_ 14 29 (B_ 32767 19) ?_
     refine pn_ HT_ 15 30 (B_ 65535 19) ?_
     refine pn_ HT_ 16 31 (B_ 131071 19) ?_
     refine pn_ HT_ 17 32 (B_ 262143 19) ?_
     refine pu_ HT_ 18 33 (B_ 524287 19) ?_
     refine done_ (done_of HT_.out (by kernel_rfl)) ?_
     have p265 : 0 ≤ (x5_1 : Int) := od_
     have q265 : x5_1 < (t262.length : Int) := od_
     obtain ⟨ad265, e265, hx265_0⟩ := Kd.at_int (Kd.R_reads' HO_4.out).2.2 x5_1 p265 q265
     cases e265
     replace p265 := eq_true p265
     replace q265 := eq_true q265
     try go_wp2_with (first | ((with_reducible refine gate_builtin (b := .append) (xs := #[.tmp 34, .tmp 39]) rfl ?_); at_builtin; refine Kd.R_append (Kd.int .i64) (w0 := w) w.heap.size rfl (.tmp 34) (.tmp 39) 24 3 (.int .i64 0) 8 rfl Try.underlying24 info3 rfl (by decide) (by omega) u3 x3_1 (rd t262 x5_1) [.int .i64 (rd t262 x5_1)] (fun k_ => some k_ ≠ (.slice (some ad265) t262.length co10 : Value).ownBlock) (fun _ => False) rfl rfl ?aP (fun _ hk => hk.elim) ?aF ?aO ?aB ?aS ?aL ?_; (case aP => exact rfl); (case aB => exact (bl_ HB.out)); (case aF => exact (fun k_ hk => Kd.fresh' (Kd.R_lt (re_ HO_4.out)) k_ hk)); (case aO => exact (re_ HO_3.out)); (case aS => exact (below_size (bl_ HB.out))); (case aL => have := LMc9.out; omega); intro v267 w12 ho hb hg hat; rw [← Ny266.out] at ho; replace HO_4 := Aside0.mk (Kd.R_after (ok := (fun _ => True)) (by (with_reducible repeat (first | apply Kd.R_alloc | apply Kd.R_drewN | apply Kd.R_drew)); exact Kd.R_mono HO_4.out (fun _ hk => ⟨trivial, hk⟩)) hg hat); replace HB := Aside0.mk (hb); have HO268 := Aside0.mk (ho); clear HO_3; clear ho hb hg hat))
     go_roundg k1
     case measure => have := HK1.out; omega
     case rel => exact ⟨(y266), (wrap64 (x5_1 + 1)), rs_, H', ⟨by have := HK1.out; omega⟩, ⟨re_ HO268.out⟩, ⟨by (with_reducible repeat (first | apply Kd.R_alloc | apply Kd.R_drewN | apply Kd.R_drew)); exact Kd.R_mono HO_4.out (fun _ hk => hk.2)⟩, ⟨bl_ HB.out⟩⟩
   rw [if_neg c7] at H
   have c7b0 : (x5_1 == 0) = false := beq_eq_false_iff_ne.mpr c7
   have c7b1 : (x5_1 != 0) = true := bne_iff_ne.mpr c7
   obtain ⟨c13, H⟩ := ip_ H
   have c13b0 := eq_true c13
   have c13b1 : decide (0 ≤ x5_1) = true := decide_eq_true c13
   clear c13
   obtain ⟨c14, H⟩ := ip_ H
   have c14b0 := eq_true c14
   have c14b1 : decide (x5_1 ≤ (t262.length : Int)) = true := decide_eq_true c14
   clear c14
   obtain ⟨y269, hy269⟩ : ∃ y_ : List Int, y_ = (t262.take (x5_1 : Int).toNat) := ⟨_, rfl⟩
   replace H : ((spec_l3Table.f k1 y269 (rd t262 x5_1)).bind fun t274 => (if 0 ≤ (rd t262 x5_1) then (if (rd t262 x5_1) < (t274.length : Int) then (if (rdOf false t274 (rd t262 x5_1) = true) then (spec_l3Minimal.l0 k1 x3_1 t262 (wrap64 (x5_1 + 1))) else (if x3_1.length < 17592186044416 then (spec_l3Minimal.l0 k1 (x3_1 ++ [rd t262 x5_1]) t262 (wrap64 (x5_1 + 1))) else (none))) else (none)) else (none))) = some r := by subst hy269; exact H
   have Ny269 := Aside0.mk hy269
   clear hy269
   obtain ⟨t274, A15, H⟩ := ob_ H
   obtain ⟨c16b0, H⟩ := ipd_ H
   obtain ⟨c17b0, H⟩ := ipd_ H
   obtain ⟨bq18, hbq18⟩ : ∃ b_ : Bool, b_ = (rdOf false t274 (rd t262 x5_1)) := ⟨_, rfl⟩
   replace H : (if (bq18 = true) then (spec_l3Minimal.l0 k1 x3_1 t262 (wrap64 (x5_1 + 1))) else (if x3_1.length < 17592186044416 then (spec_l3Minimal.l0 k1 (x3_1 ++ [rd t262 x5_1]) t262 (wrap64 (x5_1 + 1))) else (none))) = some r := by rw [← hbq18] at H; exact H
   have Nbq18 := Aside0.mk hbq18
   clear hbq18
   by_cases c19 : (bq18 = true)
   · subst c19
     rw [if_pos rfl] at H
     have H' := Aside0.mk H
     clear H
     obtain ⟨Ao20, co20, eo20⟩ := Kd.R_slice HO_4.out
     subst eo20
     try go_wp2
     replace HO_3 := Aside0.mk (Kd.R_drew HO_3.out)
     replace HO_4 := Aside0.mk (Kd.R_drew HO_4.out)
     replace HB := Aside0.mk (below_drew1 HB.out)
     have q22 : (x5_1 : Int) ≤ ((t262.length : Int) : Int) := od_
     obtain ⟨i022, hi022, _, hsz22, _⟩ := info_parts info3
     have hroom22 : t262.length ≤ co20 := (Kd.R_reads' HO_4.out).2.1
     have hC22 : Kd.C (Kd.int .i64) _ Ao20 t262.length t262 := (Kd.R_reads' HO_4.out).2.2
     have hcut22 := cut_to (P := Try.prog) 24 3 .i64 Try.underlying24 hi022 Ao20 t262.length co20 x5_1 (od_) q22 hroom22
     have hr22 := Kd.C_take (m := (x5_1 : Int).toNat) hC22 (by omega)
     have hy22 : y269.length = (x5_1 : Int).toNat := (by rw [Ny269.out, List.length_take]; omega)
     rw [← Ny269.out] at hr22
     rw [← hy22] at hcut22
     have HR272 := Aside0.mk hr22
     have HC272 := Aside0.mk (show y269.length ≤ co20 from by omega)
     clear hr22 hC22 hroom22 hi022 hsz22
     have KY22 := Aside0.mk hy22
     clear hy22
     have KL22 := Aside0.mk (show (x5_1 : Int).toNat ≤ t262.length from by omega)
     replace q22 := eq_true q22
     have p273 : 0 ≤ (x5_1 : Int) := od_
     have q273 : x5_1 < (t262.length : Int) := od_
     obtain ⟨ad273, e273, hx273_0⟩ := Kd.at_int (Kd.R_reads' HO_4.out).2.2 x5_1 p273 q273
     cases e273
     replace p273 := eq_true p273
     replace q273 := eq_true q273
     have p277 : 0 ≤ (x5_1 : Int) := od_
     have q277 : x5_1 < (t262.length : Int) := od_
     obtain ⟨ad277, e277, hx277_0⟩ := Kd.at_int (Kd.R_reads' HO_4.out).2.2 x5_1 p277 q277
     obtain rfl : ad273 = ad277 := (by injection e277)
     replace p277 := eq_true p277
     replace q277 := eq_true q277
     refine start_ (n := 19) (S := fun w' => w'.cell? (ad273.add (x5_1).toNat) = some (.int .i64 (rd t262 x5_1)) ∧ w'.cell? (ad273.add (x5_1).toNat) = some (.int .i64 (rd t262 x5_1)) ∧ True) (ds := []) (B_ 0 19) (by kernel_rfl) rfl rfl ⟨hx273_0, hx277_0, trivial⟩ (fun hHeld => ?_); refine with_tabW spec_l3Minimal.tab6 spec_l3Minimal.bits6 (fun HT_ HW_ => ?_)
     generalize wr.drew = w21 at HO_3 HO_4 HB HR272 hx273_0 hx277_0 hHeld ⊢
     refine pu_ HT_ 0 15 (B_ 1 19) ?_
     refine pu_ HT_ 1 16 (B_ 3 19) ?_
     refine pu_ HT_ 2 17 (B_ 7 19) ?_
     refine pu_ HT_ 3 18 (B_ 15 19) ?_
     refine pu_ HT_ 4 19 (B_ 31 19) ?_
     refine pu_ HT_ 5 20 (B_ 63 19) ?_
     refine pu_ HT_ 6 21 (B_ 127 19) ?_
     refine pu_ HT_ 7 22 (B_ 255 19) ?_
     refine pu_ HT_ 8 23 (B_ 511 19) ?_
     refine pu_ HT_ 11 26 (B_ 2559 19) ?_
     refine pu_ HT_ 12 27 (B_ 6655 19) ?_
     refine pu_ HT_ 13 28 (B_ 14847 19) ?_
     refine tk3_ HT_ HW_ hHeld 9 24 (B_ 15359 19) ?_
     refine tk3_ HT_ HW_ hHeld 14 29 (B_ 31743 19) ?_
     refine on_ HT_ 10 25 (B_ 32767 19) (fun K hK => ?_)
     refine goes_ Try.func81 (by kernel_rfl) rfl #[.slice (some ad273) y269.length co20, .int .i64 (rd t262 x5_1)] (by rfl) rfl rfl (by (try simp only [List.map_toArray, List.map_cons, List.map_nil]); first | done | rfl | (simp only [List.length_drop, List.length_take]; rfl)) ?_
     with_reducible refine (spec_l3Table.calls k1 _ _ y269 (rd t262 x5_1) t274 _ ?side1 ?side2 A15.out).mono ?_
     (case side1 => repeat (first | exact (by repeat (first | (with_reducible exact HR272.out) | (with_reducible refine Kd.C_alloc ?_ _) | (with_reducible refine Kd.C_drewN ?_ _) | (with_reducible refine Kd.C_drew ?_) | exact HR272.out)) | (with_reducible refine Kd.C_alloc ?_ _) | (with_reducible refine Kd.C_drewN ?_ _) | (with_reducible refine Kd.C_drew ?_)))
     (case side2 => exact HC272.out)
     rintro e w23 ⟨v275, rfl, ho0, hb⟩
     have HS0_ := (hb.cell (World.block_lt_of_cell? _ _ (hHeld.1))).trans (hHeld.1)
     have HS1_ := (hb.cell (World.block_lt_of_cell? _ _ (hHeld.2.1))).trans (hHeld.2.1)
     refine ⟨_, rfl, ?_⟩
     replace HO_3 := Aside0.mk (Kd.R_below (re_ HO_3.out) hb)
     replace HO_4 := Aside0.mk (Kd.R_below (re_ HO_4.out) hb)
     have HO276 := Aside0.mk (Kd.R_lower ho0 (below_size (bl_ HB.out)))
     replace HR272 := Aside0.mk (Kd.C_below (by repeat (first | (with_reducible exact HR272.out) | (with_reducible refine Kd.C_alloc ?_ _) | (with_reducible refine Kd.C_drewN ?_ _) | (with_reducible refine Kd.C_drew ?_) | exact HR272.out)) hb)
     replace HB := bo_ HB hb
     (try clear hb)
     (try clear ho0)
     obtain ⟨Ao24, co24, eo24⟩ := Kd.R_slice HO276.out
     (first | subst eo24 | (injection eo24 with f1_ f2_ f3_; have f4_ := f1_.symm; have f5_ := f3_.symm; clear f1_ f2_ f3_; subst f4_; subst f5_))
     have p278 : 0 ≤ ((rd t262 x5_1) : Int) := od_
     have q278 : (rd t262 x5_1) < (t274.length : Int) := od_
     obtain ⟨ad278, e278, hx278_0⟩ := Kd.at_bool (Kd.R_reads' HO276.out).2.2 (rd t262 x5_1) p278 q278
     (try rw [← Nbq18.out] at hx278_0)
     cases e278
     replace p278 := eq_true p278
     replace q278 := eq_true q278
     refine hK.out _ _ ⟨HS0_, HS1_, trivial⟩ (fun _ => ?_); refine restart_ (S' := fun w' => w'.cell? (ad273.add (x5_1).toNat) = some (.int .i64 (rd t262 x5_1)) ∧ w'.cell? (ad273.add (x5_1).toNat) = some (.int .i64 (rd t262 x5_1)) ∧ w'.cell? (ad278.add ((rd t262 x5_1)).toNat) = some (.bool true)) (fun _ h => ⟨h.1, h.2.1, trivial⟩) ⟨HS0_, HS1_, hx278_0⟩ (fun hHeld => ?_)
     clear hK K
     refine norm_ (a' := ?_) ?_ ?_
     rotate_left
     · show Act.put _ (some 25) _ = _
       simp only [Act.put, z1_, z2_, z3_, i64_w, i32_w]
       rfl
     refine pu_ HT_ 15 30 (B_ 65535 19) ?_
     refine tk3_ HT_ HW_ hHeld 16 31 (B_ 131071 19) ?_
     refine pu_ HT_ 17 32 (B_ 262143 19) ?_
     refine pu_ HT_ 18 33 (B_ 524287 19) ?_
     refine done_ (done_of HT_.out (by kernel_rfl)) ?_
     try go_wp2
     go_roundg k1
     case measure => have := HK1.out; omega
     case rel => exact ⟨(x3_1), (wrap64 (x5_1 + 1)), rs_, H', ⟨by have := HK1.out; omega⟩, ⟨re_ HO_3.out⟩, ⟨re_ HO_4.out⟩, ⟨bl_ HB.out⟩⟩
   replace c19 := Bool.eq_false_iff.mpr c19
   subst c19
   rw [if_neg (show ¬ (false = true) by decide)] at H
   obtain ⟨c25, H⟩ := ip_ H
   have LMc25 := Aside0.mk c25
   clear c25
   obtain ⟨y280, hy280⟩ : ∃ y_ : List Int, y_ = (x3_1 ++ [rd t262 x5_1]) := ⟨_, rfl⟩
   replace H : (spec_l3Minimal.l0 k1 y280 t262 (wrap64 (x5_1 + 1))) = some r := by subst hy280; exact H
   have Ny280 := Aside0.mk hy280
   clear hy280
   have H' := Aside0.mk H
   clear H
   obtain ⟨Ao26, co26, eo26⟩ := Kd.R_slice HO_4.out
   subst eo26
   try go_wp2
   replace HO_3 := Aside0.mk (Kd.R_drew HO_3.out)
   replace HO_4 := Aside0.mk (Kd.R_drew HO_4.out)
   replace HB := Aside0.mk (below_drew1 HB.out)
   have q28 : (x5_1 : Int) ≤ ((t262.length : Int) : Int) := od_
   obtain ⟨i028, hi028, _, hsz28, _⟩ := info_parts info3
   have hroom28 : t262.length ≤ co26 := (Kd.R_reads' HO_4.out).2.1
   have hC28 : Kd.C (Kd.int .i64) _ Ao26 t262.length t262 := (Kd.R_reads' HO_4.out).2.2
   have hcut28 := cut_to (P := Try.prog) 24 3 .i64 Try.underlying24 hi028 Ao26 t262.length co26 x5_1 (od_) q28 hroom28
   have hr28 := Kd.C_take (m := (x5_1 : Int).toNat) hC28 (by omega)
   have hy28 : y269.length = (x5_1 : Int).toNat := (by rw [Ny269.out, List.length_take]; omega)
   rw [← Ny269.out] at hr28
   rw [← hy28] at hcut28
   have HR272 := Aside0.mk hr28
   have HC272 := Aside0.mk (show y269.length ≤ co26 from by omega)
   clear hr28 hC28 hroom28 hi028 hsz28
   have KY28 := Aside0.mk hy28
   clear hy28
   have KL28 := Aside0.mk (show (x5_1 : Int).toNat ≤ t262.length from by omega)
   replace q28 := eq_true q28
   have p273 : 0 ≤ (x5_1 : Int) := od_
   have q273 : x5_1 < (t262.length : Int) := od_
   obtain ⟨ad273, e273, hx273_0⟩ := Kd.at_int (Kd.R_reads' HO_4.out).2.2 x5_1 p273 q273
   cases e273
   replace p273 := eq_true p273
   replace q273 := eq_true q273
   have p277 : 0 ≤ (x5_1 : Int) := od_
   have q277 : x5_1 < (t262.length : Int) := od_
   obtain ⟨ad277, e277, hx277_0⟩ := Kd.at_int (Kd.R_reads' HO_4.out).2.2 x5_1 p277 q277
   obtain rfl : ad273 = ad277 := (by injection e277)
   replace p277 := eq_true p277
   replace q277 := eq_true q277
   refine start_ (n := 19) (S := fun w' => w'.cell? (ad273.add (x5_1).toNat) = some (.int .i64 (rd t262 x5_1)) ∧ w'.cell? (ad273.add (x5_1).toNat) = some (.int .i64 (rd t262 x5_1)) ∧ True) (ds := []) (B_ 0 19) (by kernel_rfl) rfl rfl ⟨hx273_0, hx277_0, trivial⟩ (fun hHeld => ?_); refine with_tabW spec_l3Minimal.tab6 spec_l3Minimal.bits6 (fun HT_ HW_ => ?_)
   generalize wr.drew = w27 at HO_3 HO_4 HB HR272 hx273_0 hx277_0 hHeld ⊢
   refine pu_ HT_ 0 15 (B_ 1 19) ?_
   refine pu_ HT_ 1 16 (B_ 3 19) ?_
   refine pu_ HT_ 2 17 (B_ 7 19) ?_
   refine pu_ HT_ 3 18 (B_ 15 19) ?_
   refine pu_ HT_ 4 19 (B_ 31 19) ?_
   refine pu_ HT_ 5 20 (B_ 63 19) ?_
   refine pu_ HT_ 6 21 (B_ 127 19) ?_
   refine pu_ HT_ 7 22 (B_ 255 19) ?_
   refine pu_ HT_ 8 23 (B_ 511 19) ?_
   refine pu_ HT_ 11 26 (B_ 2559 19) ?_
   refine pu_ HT_ 12 27 (B_ 6655 19) ?_
   refine pu_ HT_ 13 28 (B_ 14847 19) ?_
   refine tk3_ HT_ HW_ hHeld 9 24 (B_ 15359 19) ?_
   refine tk3_ HT_ HW_ hHeld 14 29 (B_ 31743 19) ?_
   refine on_ HT_ 10 25 (B_ 32767 19) (fun K hK => ?_)
   refine goes_ Try.func81 (by kernel_rfl) rfl #[.slice (some ad273) y269.length co26, .int .i64 (rd t262 x5_1)] (by rfl) rfl rfl (by (try simp only [List.map_toArray, List.map_cons, List.map_nil]); first | done | rfl | (simp only [List.length_drop, List.length_take]; rfl)) ?_
   with_reducible refine (spec_l3Table.calls k1 _ _ y269 (rd t262 x5_1) t274 _ ?side1 ?side2 A15.out).mono ?_
   (case side1 => repeat (first | exact (by repeat (first | (with_reducible exact HR272.out) | (with_reducible refine Kd.C_alloc ?_ _) | (with_reducible refine Kd.C_drewN ?_ _) | (with_reducible refine Kd.C_drew ?_) | exact HR272.out)) | (with_reducible refine Kd.C_alloc ?_ _) | (with_reducible refine Kd.C_drewN ?_ _) | (with_reducible refine Kd.C_drew ?_)))
   (case side2 => exact HC272.out)
   rintro e w29 ⟨v275, rfl, ho0, hb⟩
   have HS0_ := (hb.cell (World.block_lt_of_cell? _ _ (hHeld.1))).trans (hHeld.1)
   have HS1_ := (hb.cell (World.block_lt_of_cell? _ _ (hHeld.2.1))).trans (hHeld.2.1)
   refine ⟨_, rfl, ?_⟩
   replace HO_3 := Aside0.mk (Kd.R_below (re_ HO_3.out) hb)
   replace HO_4 := Aside0.mk (Kd.R_below (re_ HO_4.out) hb)
   have HO276 := Aside0.mk (Kd.R_lower ho0 (below_size (bl_ HB.out)))
   replace HR272 := Aside0.mk (Kd.C_below (by repeat (first | (with_reducible exact HR272.out) | (with_reducible refine Kd.C_alloc ?_ _) | (with_reducible refine Kd.C_drewN ?_ _) | (with_reducible refine Kd.C_drew ?_) | exact HR272.out)) hb)
   replace HB := bo_ HB hb
   (try clear hb)
   (try clear ho0)
   obtain ⟨Ao30, co30, eo30⟩ := Kd.R_slice HO276.out
   (first | subst eo30 | (injection eo30 with f1_ f2_ f3_; have f4_ := f1_.symm; have f5_ := f3_.symm; clear f1_ f2_ f3_; subst f4_; subst f5_))
   have p278 : 0 ≤ ((rd t262 x5_1) : Int) := od_
   have q278 : (rd t262 x5_1) < (t274.length : Int) := od_
   obtain ⟨ad278, e278, hx278_0⟩ := Kd.at_bool (Kd.R_reads' HO276.out).2.2 (rd t262 x5_1) p278 q278
   (try rw [← Nbq18.out] at hx278_0)
   cases e278
   replace p278 := eq_true p278
   replace q278 := eq_true q278
   refine hK.out _ _ ⟨HS0_, HS1_, trivial⟩ (fun _ => ?_); refine restart_ (S' := fun w' => w'.cell? (ad273.add (x5_1).toNat) = some (.int .i64 (rd t262 x5_1)) ∧ w'.cell? (ad273.add (x5_1).toNat) = some (.int .i64 (rd t262 x5_1)) ∧ w'.cell? (ad278.add ((rd t262 x5_1)).toNat) = some (.bool false)) (fun _ h => ⟨h.1, h.2.1, trivial⟩) ⟨HS0_, HS1_, hx278_0⟩ (fun hHeld => ?_)
   clear hK K
   refine norm_ (a' := ?_) ?_ ?_
   rotate_left
   · show Act.put _ (some 25) _ = _
     simp only [Act.put, z1_, z2_, z3_, i64_w, i32_w]
     rfl
   refine pu_ HT_ 15 30 (B_ 65535 19) ?_
   refine tk3_ HT_ HW_ hHeld 16 31 (B_ 131071 19) ?_
   refine pu_ HT_ 17 32 (B_ 262143 19) ?_
   refine pu_ HT_ 18 33 (B_ 524287 19) ?_
   refine done_ (done_of HT_.out (by kernel_rfl)) ?_
   have p279 : 0 ≤ (x5_1 : Int) := od_
   have q279 : x5_1 < (t262.length : Int) := od_
   obtain ⟨ad279, e279, hx279_0⟩ := Kd.at_int (Kd.R_reads' HO_4.out).2.2 x5_1 p279 q279
   obtain rfl : ad273 = ad279 := (by injection e279)
   replace p279 := eq_true p279
   replace q279 := eq_true q279
   try go_wp2_with (first | ((with_reducible refine gate_builtin (b := .append) (xs := #[.tmp 34, .tmp 39]) rfl ?_); at_builtin; refine Kd.R_append (Kd.int .i64) (w0 := w) w.heap.size rfl (.tmp 34) (.tmp 39) 24 3 (.int .i64 0) 8 rfl Try.underlying24 info3 rfl (by decide) (by omega) u3 x3_1 (rd t262 x5_1) [.int .i64 (rd t262 x5_1)] (fun k_ => some k_ ≠ (.slice (some ad273) t262.length co26 : Value).ownBlock) (fun _ => False) rfl rfl ?aP (fun _ hk => hk.elim) ?aF ?aO ?aB ?aS ?aL ?_; (case aP => exact rfl); (case aB => exact (bl_ HB.out)); (case aF => exact (fun k_ hk => Kd.fresh' (Kd.R_lt (re_ HO_4.out)) k_ hk)); (case aO => exact (re_ HO_3.out)); (case aS => exact (below_size (bl_ HB.out))); (case aL => have := LMc25.out; omega); intro v281 w31 ho hb hg hat; rw [← Ny280.out] at ho; replace HO276 := Aside0.mk (Kd.R_over' (re_ HO276.out) (Kd.R_typed (re_ HO_3.out)) (by decide) hg); replace HB := Aside0.mk (hb); replace HR272 := Aside0.mk ((show Kd.C (Kd.int .i64) w31 (some ad273) y269.length y269 from by rw [Ny269.out]; exact Kd.C_take (m := (x5_1 : Int).toNat) ((Kd.R_reads' (Kd.R_after (ok := (fun _ => True)) (by (with_reducible repeat (first | apply Kd.R_alloc | apply Kd.R_drewN | apply Kd.R_drew)); exact Kd.R_mono HO_4.out (fun _ hk => ⟨trivial, hk⟩)) hg hat)).2.2) KL28.out)); replace HO_4 := Aside0.mk (Kd.R_after (ok := (fun _ => True)) (by (with_reducible repeat (first | apply Kd.R_alloc | apply Kd.R_drewN | apply Kd.R_drew)); exact Kd.R_mono HO_4.out (fun _ hk => ⟨trivial, hk⟩)) hg hat); have HO282 := Aside0.mk (ho); clear HO_3; clear ho hb hg hat))
   go_roundg k1
   case measure => have := HK1.out; omega
   case rel => exact ⟨(y280), (wrap64 (x5_1 + 1)), rs_, H', ⟨by have := HK1.out; omega⟩, ⟨re_ HO282.out⟩, ⟨by (with_reducible repeat (first | apply Kd.R_alloc | apply Kd.R_drewN | apply Kd.R_drew)); exact Kd.R_mono HO_4.out (fun _ hk => hk.2)⟩, ⟨bl_ HB.out⟩⟩
def spec_l3Ends.l0 : Nat → List Int → List Bool → Int → Option (Bool)
 | 0, _, _, _ => none
 | k + 1, x0, x3, x4 => if 0 < (x0.length : Int) then (if x4 < (wrap64 (200 + (rd x0 0))) then (if 0 ≤ x4 then (if x4 < (x3.length : Int) then (if rdOf false x3 x4 = true then (spec_l3Ends.l0 k x0 x3 (wrap64 (x4 + 1))) else (some false)) else (none)) else (none)) else (some true)) else (none)
def spec_l3Ends.f (k : Nat) (l0 : List Int) : Option (Bool) := (spec_l3Table.f k l0 260).bind fun t283 => (spec_l3Ends.l0 k l0 t283 200)
theorem spec_l3Ends.mono_l : ∀ k, (∀ y0 y1 y2, LeO (spec_l3Ends.l0 k y0 y1 y2) (spec_l3Ends.l0 (k + 1) y0 y1 y2))
 | 0 => fun _ _ _ r h => by simp [spec_l3Ends.l0] at h
 | k + 1 => by
  have ih0 := spec_l3Ends.mono_l k
  · intro y0 y1 y2
    unfold spec_l3Ends.l0
    repeat' first
    | (with_reducible exact ih0 _ _ _)
    | (with_reducible exact spec_l3Table.mono _ _ _)
    | (with_reducible exact LeO.refl _)
    | (with_reducible exact LeO.none _)
    | (with_reducible refine LeO.ite ?_ ?_)
    | (with_reducible refine LeO.bind ?_ (fun _ => ?_))
    | exact ih0 _ _ _
    | exact LeO.none _
    | refine LeO.ite ?_ ?_
    | refine LeO.bind ?_ (fun _ => ?_)
theorem spec_l3Ends.mono : ∀ a0 k, LeO (spec_l3Ends.f k a0) (spec_l3Ends.f (k + 1) a0) := by
 intro a0 k
 have ih0 := spec_l3Ends.mono_l k
 unfold spec_l3Ends.f
 repeat' first
  | (with_reducible exact ih0 _ _ _)
  | (with_reducible exact spec_l3Table.mono _ _ _)
  | (with_reducible exact LeO.refl _)
  | (with_reducible exact LeO.none _)
  | (with_reducible refine LeO.ite ?_ ?_)
  | (with_reducible refine LeO.bind ?_ (fun _ => ?_))
  | exact ih0 _ _ _
  | exact LeO.none _
  | refine LeO.ite ?_ ?_
  | refine LeO.bind ?_ (fun _ => ?_)
theorem spec_l3Ends.calls (k : Nat) (A0 : Option Addr) (c0 : Nat) (l0 : List Int) (r : Bool) (w : World) (hr0 : Kd.C (Kd.int .i64) w A0 l0.length l0) (hc0 : l0.length ≤ c0) (h : spec_l3Ends.f k l0 = some r) :
 Calls Try.prog 51 #[.slice A0 l0.length c0] w fun e w' => e = .returned (.bool r) ∧ Below w.heap.size w w' := by
 have HR0 := Aside0.mk hr0
 have HC0 := Aside0.mk hc0
 clear hr0 hc0
 have HB := Aside0.mk (Below.refl w.heap.size w)
 have H := h
 clear h
 unfold spec_l3Ends.f at H
 obtain ⟨t283, A2, H⟩ := ob_ H
 have H' := Aside0.mk H
 clear H
 go_enter Try.func51, Try.ntmps51
 go_wp2_with (first | ((with_reducible refine gate_callee (f := 81) rfl ?_); refine gL_ (some 6) Try.func81 #[.slice A0 l0.length c0, .int .i64 260] ?_; (with_reducible refine (spec_l3Table.calls k _ _ l0 260 t283 _ ?side1 ?side2 A2.out).mono ?_); (case side1 => exact ce_ (HR0.out)); (case side2 => exact HC0.out); rintro e w3 ⟨v284, rfl, ho0, hb⟩; refine ⟨_, rfl, ?_⟩; have HO285 := Aside0.mk (Kd.R_lower ho0 (below_size (bl_ HB.out))); replace HB := bo_ HB hb; (try clear hb); (try clear ho0)))
 go_loopg [4] k (fun kq v4 w' => ∃ (x4_1 : Int), v4 = .int .i64 x4_1 ∧ Aside0 (spec_l3Ends.l0 kq l0 t283 x4_1 = some r) ∧ Aside0 (kq ≤ k) ∧ Aside0 (Kd.R Kd.bool 4 w' w.heap.size (fun _ => True) v284 t283) ∧ Aside0 (Below w.heap.size w w'))
 case atStart => exact ⟨(200), rs_, H', ⟨Nat.le_refl _⟩, ⟨re_ HO285.out⟩, ⟨bl_ HB.out⟩⟩
 case round =>
  clear H'
  obtain ⟨x4_1, rfl, HA, HK1, HO_3, HB⟩ := hrel
  cases gk with
  | zero => exact absurd HA.out (by simp [spec_l3Ends.l0])
  | succ k1 =>
   have H := HA.out
   clear HA
   simp only [spec_l3Ends.l0] at H
   obtain ⟨c4, H⟩ := ip_ H
   have c4b0 : decide (0 < (l0.length : Int)) = true := decide_eq_true c4
   have c4b1 : decide (0 < l0.length) = true := decide_eq_true (by omega)
   clear c4
   by_cases c5 : x4_1 < (wrap64 (200 + (rd l0 0)))
   rotate_left
   · rw [if_neg c5] at H
     have c5b0 : decide (x4_1 < (wrap64 (200 + (rd l0 0)))) = false := decide_eq_false c5
     clear c5
     obtain rfl := Option.some.inj H
     have p286 : 0 ≤ (0 : Int) := (by omega)
     have q286 : 0 < (l0.length : Int) := od_
     obtain ⟨ad286, e286, hx286_0⟩ := Kd.at_int HR0.out 0 p286 q286
     cases e286
     have qi286 : (0 < l0.length) = True := eq_true (by omega)
     (try rw [show ((0 : Int)).toNat = 0 from rfl] at hx286_0)
     (try rw [Addr.add_zero'] at hx286_0)
     (try replace hx286_0 := (HB.out.cell (World.block_lt_of_cell? w _ hx286_0)).trans hx286_0)
     replace p286 := eq_true p286
     replace q286 := eq_true q286
     go_wp2
     go_ret
     exact ⟨rf_, bl_ HB.out⟩
   rw [if_pos c5] at H
   have c5b0 : decide (x4_1 < (wrap64 (200 + (rd l0 0)))) = true := decide_eq_true c5
   clear c5
   obtain ⟨c6b0, H⟩ := ipd_ H
   obtain ⟨c7b0, H⟩ := ipd_ H
   obtain ⟨bq8, hbq8⟩ : ∃ b_ : Bool, b_ = (rdOf false t283 x4_1) := ⟨_, rfl⟩
   replace H : (if bq8 = true then (spec_l3Ends.l0 k1 l0 t283 (wrap64 (x4_1 + 1))) else (some false)) = some r := by rw [← hbq8] at H; exact H
   have Nbq8 := Aside0.mk hbq8
   clear hbq8
   by_cases c9 : bq8 = true
   rotate_left
   · replace c9 := Bool.eq_false_iff.mpr c9
     subst c9
     rw [if_neg (show ¬ (false = true) by decide)] at H
     obtain rfl := Option.some.inj H
     have p286 : 0 ≤ (0 : Int) := (by omega)
     have q286 : 0 < (l0.length : Int) := od_
     obtain ⟨ad286, e286, hx286_0⟩ := Kd.at_int HR0.out 0 p286 q286
     cases e286
     have qi286 : (0 < l0.length) = True := eq_true (by omega)
     (try rw [show ((0 : Int)).toNat = 0 from rfl] at hx286_0)
     (try rw [Addr.add_zero'] at hx286_0)
     (try replace hx286_0 := (HB.out.cell (World.block_lt_of_cell? w _ hx286_0)).trans hx286_0)
     replace p286 := eq_true p286
     replace q286 := eq_true q286
     obtain ⟨Ao11, co11, eo11⟩ := Kd.R_slice HO_3.out
     subst eo11
     have p287 : 0 ≤ (x4_1 : Int) := od_
     have q287 : x4_1 < (t283.length : Int) := od_
     obtain ⟨ad287, e287, hx287_0⟩ := Kd.at_bool (Kd.R_reads' HO_3.out).2.2 x4_1 p287 q287
     (try rw [← Nbq8.out] at hx287_0)
     cases e287
     replace p287 := eq_true p287
     replace q287 := eq_true q287
     go_wp2
     go_ret
     exact ⟨rf_, bl_ HB.out⟩
   subst c9
   rw [if_pos rfl] at H
   have H' := Aside0.mk H
   clear H
   have p286 : 0 ≤ (0 : Int) := (by omega)
   have q286 : 0 < (l0.length : Int) := od_
   obtain ⟨ad286, e286, hx286_0⟩ := Kd.at_int HR0.out 0 p286 q286
   cases e286
   have qi286 : (0 < l0.length) = True := eq_true (by omega)
   (try rw [show ((0 : Int)).toNat = 0 from rfl] at hx286_0)
   (try rw [Addr.add_zero'] at hx286_0)
   (try replace hx286_0 := (HB.out.cell (World.block_lt_of_cell? w _ hx286_0)).trans hx286_0)
   replace p286 := eq_true p286
   replace q286 := eq_true q286
   obtain ⟨Ao10, co10, eo10⟩ := Kd.R_slice HO_3.out
   subst eo10
   have p287 : 0 ≤ (x4_1 : Int) := od_
   have q287 : x4_1 < (t283.length : Int) := od_
   obtain ⟨ad287, e287, hx287_0⟩ := Kd.at_bool (Kd.R_reads' HO_3.out).2.2 x4_1 p287 q287
   (try rw [← Nbq8.out] at hx287_0)
   cases e287
   replace p287 := eq_true p287
   replace q287 := eq_true q287
   go_wp2
   go_roundg k1
   case measure => have := HK1.out; omega
   case rel => exact ⟨(wrap64 (x4_1 + 1)), rs_, H', ⟨by have := HK1.out; omega⟩, ⟨re_ HO_3.out⟩, ⟨bl_ HB.out⟩⟩
end Go.Proofs.Ytonknpgfbkgbjaa.PB
end
