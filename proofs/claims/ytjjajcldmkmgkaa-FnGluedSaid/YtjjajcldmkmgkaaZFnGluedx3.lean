-- Bundled by shake.py from this session's printed and written texts; Lean checks it.
import Derived.Test.YtjjajcldmkmgkaaZFnGluedx1
import Derived.Test.YtjjajcldmkmgkaaZFnGluedx2
section
namespace Go.Proofs.Ytjjajcldmkmgkaa.PA
open Go.RowKit Go.Proofs.YtjjajcldmkmgkaaW.PrintWords Go.Proofs.YtjjajcldmkmgkaaW.PrintLast Go.Proofs.YtjjajcldmkmgkaaW.PrintMore
attribute [local go_sem] max2_int min2_int max_two min_two max_three min_three max_four min_four
set_option linter.unusedVariables false
set_option linter.unusedSimpArgs false
set_option maxHeartbeats 8000000
set_option maxRecDepth 100000
mutual
def spec_SortList.l0 : Nat → List Int → List Int → Int → Option (List Int)
 | 0, _, _, _ => none
 | k + 1, x0, x3, x4 => if x4 < (x0.length : Int) then (spec_SortList.l1 k x0 x3 x4 (x3.length : Int)) else (some x3)
def spec_SortList.l1 : Nat → List Int → List Int → Int → Int → Option (List Int)
 | 0, _, _, _, _ => none
 | k + 1, x0, x3, x4, x5 => if x5 > 0 then (if 0 ≤ (wrap64 (x5 - 1)) then (if (wrap64 (x5 - 1)) < (x3.length : Int) then (if 0 ≤ x4 then (if x4 < (x0.length : Int) then (if (rd x3 (wrap64 (x5 - 1))) > (rd x0 x4) then (spec_SortList.l1 k x0 x3 x4 (wrap64 (x5 - 1))) else (if (rd x3 (wrap64 (x5 - 1))) = (rd x0 x4) then (spec_SortList.l0 k x0 x3 (wrap64 (x4 + 1))) else ((some (([] : List Int) : List Int)).bind fun y165 => (if 0 ≤ x5 then (if x5 ≤ (x3.length : Int) then ((some (x3.drop (x5 : Int).toNat : List Int)).bind fun y168 => (if y165.length + y168.length < 17592186044416 then ((some (y165 ++ y168 : List Int)).bind fun y172 => ((some (x3.take (x5 : Int).toNat : List Int)).bind fun y175 => (if y175.length < 17592186044416 then ((some (y175 ++ [rd x0 x4] : List Int)).bind fun y179 => (if y179.length + y172.length < 17592186044416 then (spec_SortList.l0 k x0 (y179 ++ y172) (wrap64 (x4 + 1))) else (none))) else (none)))) else (none))) else (none)) else (none))))) else (none)) else (none)) else (none)) else (none)) else ((some (([] : List Int) : List Int)).bind fun y185 => (if 0 ≤ x5 then (if x5 ≤ (x3.length : Int) then ((some (x3.drop (x5 : Int).toNat : List Int)).bind fun y188 => (if y185.length + y188.length < 17592186044416 then ((some (y185 ++ y188 : List Int)).bind fun y192 => ((some (x3.take (x5 : Int).toNat : List Int)).bind fun y195 => (if 0 ≤ x4 then (if x4 < (x0.length : Int) then (if y195.length < 17592186044416 then ((some (y195 ++ [rd x0 x4] : List Int)).bind fun y199 => (if y199.length + y192.length < 17592186044416 then (spec_SortList.l0 k x0 (y199 ++ y192) (wrap64 (x4 + 1))) else (none))) else (none)) else (none)) else (none)))) else (none))) else (none)) else (none)))
end
def spec_SortList.f (k : Nat) (l0 : List Int) : Option (List Int) := spec_SortList.l0 k l0 (([] : List Int)) 0
theorem spec_SortList.mono_l : ∀ k, (∀ y0 y1 y2, LeO (spec_SortList.l0 k y0 y1 y2) (spec_SortList.l0 (k + 1) y0 y1 y2)) ∧ (∀ y0 y1 y2 y3, LeO (spec_SortList.l1 k y0 y1 y2 y3) (spec_SortList.l1 (k + 1) y0 y1 y2 y3))
 | 0 => ⟨fun _ _ _ r h => by simp [spec_SortList.l0] at h, fun _ _ _ _ r h => by simp [spec_SortList.l1] at h⟩
 | k + 1 => by
  obtain ⟨ih0, ih1⟩ := spec_SortList.mono_l k
  refine ⟨?_, ?_⟩
  · intro y0 y1 y2
    unfold spec_SortList.l0
    repeat' first
    | (with_reducible exact ih0 _ _ _)
    | (with_reducible exact ih1 _ _ _ _)
    | (with_reducible exact LeO.refl _)
    | (with_reducible exact LeO.none _)
    | (with_reducible refine LeO.ite ?_ ?_)
    | (with_reducible refine LeO.bind ?_ (fun _ => ?_))
    | exact ih0 _ _ _
    | exact ih1 _ _ _ _
    | exact LeO.none _
    | refine LeO.ite ?_ ?_
    | refine LeO.bind ?_ (fun _ => ?_)
  · intro y0 y1 y2 y3
    unfold spec_SortList.l1
    repeat' first
    | (with_reducible exact ih0 _ _ _)
    | (with_reducible exact ih1 _ _ _ _)
    | (with_reducible exact LeO.refl _)
    | (with_reducible exact LeO.none _)
    | (with_reducible refine LeO.ite ?_ ?_)
    | (with_reducible refine LeO.bind ?_ (fun _ => ?_))
    | exact ih0 _ _ _
    | exact ih1 _ _ _ _
    | exact LeO.none _
    | refine LeO.ite ?_ ?_
    | refine LeO.bind ?_ (fun _ => ?_)
theorem spec_SortList.mono : ∀ a0 k, LeO (spec_SortList.f k a0) (spec_SortList.f (k + 1) a0) := by
 intro a0 k
 obtain ⟨ih0, ih1⟩ := spec_SortList.mono_l k
 unfold spec_SortList.f
 repeat' first
  | (with_reducible exact ih0 _ _ _)
  | (with_reducible exact ih1 _ _ _ _)
  | (with_reducible exact LeO.refl _)
  | (with_reducible exact LeO.none _)
  | (with_reducible refine LeO.ite ?_ ?_)
  | (with_reducible refine LeO.bind ?_ (fun _ => ?_))
  | exact ih0 _ _ _
  | exact ih1 _ _ _ _
  | exact LeO.none _
  | refine LeO.ite ?_ ?_
  | refine LeO.bind ?_ (fun _ => ?_)
def spec_SortList.T6 : Bool × List (List Nat × List Nat) := (true, [([], []), ([0], [0]), ([1], [1]), ([2], [2]), ([2], [2]), ([4, 2], [2, 4]), ([3, 5, 2], [2, 3, 5]), ([6, 2], [2, 6]), ([2], [2]), ([2], [2]), ([8, 9, 2], [2, 8, 9]), ([10, 2], [2, 10]), ([7, 11, 2], [2, 7, 11]), ([2, 12], [2, 12])])
def spec_SortList.B6 : List Nat := [0, 1, 3, 7, 7, 23, 63, 127, 7, 7, 775, 1799, 4095, 8191]
theorem spec_SortList.tab6 : rtab .any (opsOf Try.f68 6) = spec_SortList.T6 := by kernel_rfl
theorem spec_SortList.bits6 : waitsOk spec_SortList.T6.2 spec_SortList.B6 = true := by kernel_rfl
def spec_SortList.T8 : Bool × List (List Nat × List Nat) := (true, [([], []), ([0], [0]), ([1], [1]), ([2], [2]), ([2], [2]), ([4, 2], [2, 4]), ([3, 5, 2], [2, 3, 5]), ([6, 2], [2, 6]), ([2], [2]), ([2], [2]), ([8, 9, 2], [2, 8, 9]), ([10, 2], [2, 10]), ([7, 11, 2], [2, 7, 11]), ([2, 12], [2, 12])])
def spec_SortList.B8 : List Nat := [0, 1, 3, 7, 7, 23, 63, 127, 7, 7, 775, 1799, 4095, 8191]
theorem spec_SortList.tab8 : rtab .any (opsOf Try.f68 8) = spec_SortList.T8 := by kernel_rfl
theorem spec_SortList.bits8 : waitsOk spec_SortList.T8.2 spec_SortList.B8 = true := by kernel_rfl
def spec_SortList.T10 : Bool × List (List Nat × List Nat) := (true, [([], []), ([], []), ([0, 1], [0, 1]), ([], []), ([], []), ([3, 4], [3, 4]), ([5], [5]), ([6], [6]), ([2, 7], [2, 7]), ([], []), ([8, 9, 8], [8, 9]), ([10, 10, 0, 1, 2, 3, 4, 5, 6, 7, 8, 9, 10], [0, 10])])
def spec_SortList.B10 : List Nat := [0, 0, 3, 0, 0, 24, 56, 120, 255, 0, 1023, 2047]
theorem spec_SortList.tab10 : rtab .any (opsOf Try.f68 10) = spec_SortList.T10 := by kernel_rfl
theorem spec_SortList.bits10 : waitsOk spec_SortList.T10.2 spec_SortList.B10 = true := by kernel_rfl
theorem spec_SortList.calls (k : Nat) (A0 : Option Addr) (c0 : Nat) (l0 : List Int) (r : List Int) (w : World) (hr0 : Kd.C (Kd.int .i64) w A0 l0.length l0) (hc0 : l0.length ≤ c0) (h : spec_SortList.f k l0 = some r) :
 Calls Try.prog 68 #[.slice A0 l0.length c0] w fun e w' => ∃ v0_ : Value, e = .returned (v0_) ∧ Kd.R (Kd.int .i64) 3 w' w.heap.size (fun _ => True) v0_ r ∧ Below w.heap.size w w' := by
 have HR0 := Aside0.mk hr0
 have HC0 := Aside0.mk hc0
 clear hr0 hc0
 have HB := Aside0.mk (Below.refl w.heap.size w)
 have H := h
 clear h
 unfold spec_SortList.f at H
 obtain ⟨y158, hy158⟩ : ∃ y_ : List Int, y_ = (([] : List Int)) := ⟨_, rfl⟩
 replace H : (spec_SortList.l0 k l0 y158 0) = some r := by subst hy158; exact H
 have Ny158 := Aside0.mk hy158
 clear hy158
 have H' := Aside0.mk H
 clear H
 go_enter Try.func68, Try.ntmps68
 go_wp2_with (first | ((with_reducible refine gate_dst (N := 7) rfl ?_); refine Kd.R_lit (Kd.int .i64) _ 3 ?hg (N := 7) ?hd (xs := ([] : List Int)) (inner := []) (ok := fun _ => True) (okp := fun _ => True) ?hr ?hp (fun _ hk => hk) trivial (Below.refl _ _) (Nat.le_refl _) (by simp) ?_; (case hd => rfl); (case hg => rfl); (case hr => first | (go_simp; done) | (go_simp; rfl)); (case hp => exact (Reps.none _ _)); intro v159 w2 ho3 hb hg_ hnew_; clear hg_ hnew_; (first | rw [← Ny158.out] at ho3 | (simp only [Int.reduceToNat] at ho3; rw [← Ny158.out] at ho3)); have HO160 := Aside0.mk (Kd.R_lower ho3 (below_size (bl_ HB.out))); replace HB := bo_ HB hb; clear hb ho3))
 go_loopg [3, 4] k (fun kq v3 v4 w' => ∃ (x3_1 : List Int) (x4_1 : Int), v4 = .int .i64 x4_1 ∧ Aside0 (spec_SortList.l0 kq l0 x3_1 x4_1 = some r) ∧ Aside0 (kq ≤ k) ∧ Aside0 (Kd.R (Kd.int .i64) 3 w' w.heap.size (fun _ => True) v3 x3_1) ∧ Aside0 (Below w.heap.size w w'))
 case atStart => exact ⟨(y158), (0), rs_, H', ⟨Nat.le_refl _⟩, ⟨re_ HO160.out⟩, ⟨bl_ HB.out⟩⟩
 case round =>
  clear H'
  try clear p2
  obtain ⟨x3_1, x4_1, rfl, HA, HK1, HO_3, HB⟩ := hrel
  cases gk with
  | zero => exact absurd HA.out (by simp [spec_SortList.l0])
  | succ k1 =>
   have H := HA.out
   clear HA
   simp only [spec_SortList.l0] at H
   by_cases c4 : x4_1 < (l0.length : Int)
   rotate_left
   · rw [if_neg c4] at H
     have c4b0 : decide (x4_1 < (l0.length : Int)) = false := decide_eq_false c4
     clear c4
     obtain rfl := Option.some.inj H
     go_wp2
     go_ret
     exact ⟨_, rf_, re_ HO_3.out, bl_ HB.out⟩
   rw [if_pos c4] at H
   have c4b0 : decide (x4_1 < (l0.length : Int)) = true := decide_eq_true c4
   clear c4
   have H' := Aside0.mk H
   clear H
   obtain ⟨Ao5, co5, eo5⟩ := Kd.R_slice HO_3.out
   subst eo5
   go_wp2
   go_loopg [5] k1 (fun kq v5 w' => ∃ (x5_2 : Int), v5 = .int .i64 x5_2 ∧ Aside0 (spec_SortList.l1 kq l0 x3_1 x4_1 x5_2 = some r) ∧ Aside0 (kq ≤ k1) ∧ Aside0 (Kd.R (Kd.int .i64) 3 w' w.heap.size (fun _ => True) (.slice Ao5 x3_1.length co5) x3_1) ∧ Aside0 (Below w.heap.size w w'))
   case atStart => exact ⟨((x3_1.length : Int)), rs_, H', ⟨Nat.le_refl _⟩, ⟨re_ HO_3.out⟩, ⟨bl_ HB.out⟩⟩
   case round =>
    clear H'
    try clear p2
    try clear c4
    try clear c4b0
    try clear p2
    obtain ⟨x5_2, rfl, HA, HK2, HO_3, HB⟩ := hrel
    cases gk with
    | zero => exact absurd HA.out (by simp [spec_SortList.l1])
    | succ k2 =>
     have H := HA.out
     clear HA
     simp only [spec_SortList.l1] at H
     by_cases c6 : x5_2 > 0
     rotate_left
     · rw [if_neg c6] at H
       have c6b0 : decide (0 < x5_2) = false := decide_eq_false c6
       clear c6
       obtain ⟨y185, hy185⟩ : ∃ y_ : List Int, y_ = (([] : List Int)) := ⟨_, rfl⟩
       replace H : (if 0 ≤ x5_2 then (if x5_2 ≤ (x3_1.length : Int) then ((some (x3_1.drop (x5_2 : Int).toNat : List Int)).bind fun y188 => (if y185.length + y188.length < 17592186044416 then ((some (y185 ++ y188 : List Int)).bind fun y192 => ((some (x3_1.take (x5_2 : Int).toNat : List Int)).bind fun y195 => (if 0 ≤ x4_1 then (if x4_1 < (l0.length : Int) then (if y195.length < 17592186044416 then ((some (y195 ++ [rd l0 x4_1] : List Int)).bind fun y199 => (if y199.length + y192.length < 17592186044416 then (spec_SortList.l0 k2 l0 (y199 ++ y192) (wrap64 (x4_1 + 1))) else (none))) else (none)) else (none)) else (none)))) else (none))) else (none)) else (none)) = some r := by subst hy185; exact H
       have Ny185 := Aside0.mk hy185
       clear hy185
       by_cases c34 : 0 ≤ x5_2
       rotate_left
       · rw [if_neg c34] at H
         cases H
       rw [if_pos c34] at H
       have c34b0 := eq_true c34
       have c34b1 : decide (0 ≤ x5_2) = true := decide_eq_true c34
       clear c34
       by_cases c35 : x5_2 ≤ (x3_1.length : Int)
       rotate_left
       · rw [if_neg c35] at H
         cases H
       rw [if_pos c35] at H
       have c35b0 := eq_true c35
       have c35b1 : decide (x5_2 ≤ (x3_1.length : Int)) = true := decide_eq_true c35
       clear c35
       obtain ⟨y188, hy188⟩ : ∃ y_ : List Int, y_ = (x3_1.drop (x5_2 : Int).toNat) := ⟨_, rfl⟩
       replace H : (if y185.length + y188.length < 17592186044416 then ((some (y185 ++ y188 : List Int)).bind fun y192 => ((some (x3_1.take (x5_2 : Int).toNat : List Int)).bind fun y195 => (if 0 ≤ x4_1 then (if x4_1 < (l0.length : Int) then (if y195.length < 17592186044416 then ((some (y195 ++ [rd l0 x4_1] : List Int)).bind fun y199 => (if y199.length + y192.length < 17592186044416 then (spec_SortList.l0 k2 l0 (y199 ++ y192) (wrap64 (x4_1 + 1))) else (none))) else (none)) else (none)) else (none)))) else (none)) = some r := by subst hy188; exact H
       have Ny188 := Aside0.mk hy188
       clear hy188
       by_cases c36 : y185.length + y188.length < 17592186044416
       rotate_left
       · rw [if_neg c36] at H
         cases H
       rw [if_pos c36] at H
       have LMc36 := Aside0.mk c36
       clear c36
       obtain ⟨y192, hy192⟩ : ∃ y_ : List Int, y_ = (y185 ++ y188) := ⟨_, rfl⟩
       replace H : ((some (x3_1.take (x5_2 : Int).toNat : List Int)).bind fun y195 => (if 0 ≤ x4_1 then (if x4_1 < (l0.length : Int) then (if y195.length < 17592186044416 then ((some (y195 ++ [rd l0 x4_1] : List Int)).bind fun y199 => (if y199.length + y192.length < 17592186044416 then (spec_SortList.l0 k2 l0 (y199 ++ y192) (wrap64 (x4_1 + 1))) else (none))) else (none)) else (none)) else (none))) = some r := by subst hy192; exact H
       have Ny192 := Aside0.mk hy192
       clear hy192
       have c37b0 := eq_true (od_ : x5_2 ≤ (x3_1.length : Int))
       obtain ⟨y195, hy195⟩ : ∃ y_ : List Int, y_ = (x3_1.take (x5_2 : Int).toNat) := ⟨_, rfl⟩
       replace H : (if 0 ≤ x4_1 then (if x4_1 < (l0.length : Int) then (if y195.length < 17592186044416 then ((some (y195 ++ [rd l0 x4_1] : List Int)).bind fun y199 => (if y199.length + y192.length < 17592186044416 then (spec_SortList.l0 k2 l0 (y199 ++ y192) (wrap64 (x4_1 + 1))) else (none))) else (none)) else (none)) else (none)) = some r := by subst hy195; exact H
       have Ny195 := Aside0.mk hy195
       clear hy195
       by_cases c38 : 0 ≤ x4_1
       rotate_left
       · rw [if_neg c38] at H
         cases H
       rw [if_pos c38] at H
       have c38b0 : decide (0 ≤ x4_1) = true := decide_eq_true c38
       clear c38
       by_cases c39 : x4_1 < (l0.length : Int)
       rotate_left
       · rw [if_neg c39] at H
         cases H
       rw [if_pos c39] at H
       have c39b0 : decide (x4_1 < (l0.length : Int)) = true := decide_eq_true c39
       clear c39
       by_cases c40 : y195.length < 17592186044416
       rotate_left
       · rw [if_neg c40] at H
         cases H
       rw [if_pos c40] at H
       have LMc40 := Aside0.mk c40
       clear c40
       obtain ⟨y199, hy199⟩ : ∃ y_ : List Int, y_ = (y195 ++ [rd l0 x4_1]) := ⟨_, rfl⟩
       replace H : (if y199.length + y192.length < 17592186044416 then (spec_SortList.l0 k2 l0 (y199 ++ y192) (wrap64 (x4_1 + 1))) else (none)) = some r := by subst hy199; exact H
       have Ny199 := Aside0.mk hy199
       clear hy199
       by_cases c41 : y199.length + y192.length < 17592186044416
       rotate_left
       · rw [if_neg c41] at H
         cases H
       rw [if_pos c41] at H
       have LMc41 := Aside0.mk c41
       clear c41
       obtain ⟨y202, hy202⟩ : ∃ y_ : List Int, y_ = (y199 ++ y192) := ⟨_, rfl⟩
       replace H : (spec_SortList.l0 k2 l0 y202 (wrap64 (x4_1 + 1))) = some r := by subst hy202; exact H
       have Ny202 := Aside0.mk hy202
       clear hy202
       have H' := Aside0.mk H
       clear H
       try go_wp2
       replace HO_3 := Aside0.mk (Kd.R_drew HO_3.out)
       replace HB := Aside0.mk (below_drew1 HB.out)
       refine start_ (n := 14) (S := fun w' => True) (ds := []) (B_ 0 14) (by kernel_rfl) rfl rfl trivial (fun hHeld => ?_); refine with_tabW spec_SortList.tab6 spec_SortList.bits6 (fun HT_ HW_ => ?_)
       generalize wr.drew = w42 at HO_3 HB hHeld ⊢
       refine pu_ HT_ 0 16 (B_ 1 14) ?_
       refine pu_ HT_ 1 17 (B_ 3 14) ?_
       refine pu_ HT_ 2 18 (B_ 7 14) ?_
       refine pn_ HT_ 3 19 (B_ 15 14) ?_
       refine pn_ HT_ 4 20 (B_ 31 14) ?_
       refine pn_ HT_ 5 21 (B_ 63 14) ?_
       refine pn_ HT_ 6 22 (B_ 127 14) ?_
       refine pn_ HT_ 7 23 (B_ 255 14) ?_
       refine pn_ HT_ 8 24 (B_ 511 14) ?_
       refine pn_ HT_ 9 25 (B_ 1023 14) ?_
       refine pn_ HT_ 10 26 (B_ 2047 14) ?_
       refine pn_ HT_ 11 27 (B_ 4095 14) ?_
       refine pn_ HT_ 12 28 (B_ 8191 14) ?_
       refine pu_ HT_ 13 29 (B_ 16383 14) ?_
       refine done_ (done_of HT_.out (by kernel_rfl)) ?_
       try go_wp2
       replace HO_3 := Aside0.mk (Kd.R_drew HO_3.out)
       replace HB := Aside0.mk (below_drew1 HB.out)
       refine start_ (n := 14) (S := fun w' => True) (ds := []) (B_ 0 14) (by kernel_rfl) rfl rfl trivial (fun hHeld => ?_); refine with_tabW spec_SortList.tab8 spec_SortList.bits8 (fun HT_ HW_ => ?_)
       generalize w42.drew = w43 at HO_3 HB hHeld ⊢
       refine pu_ HT_ 0 32 (B_ 1 14) ?_
       refine pu_ HT_ 1 33 (B_ 3 14) ?_
       refine pu_ HT_ 2 34 (B_ 7 14) ?_
       refine pn_ HT_ 3 35 (B_ 15 14) ?_
       refine pn_ HT_ 4 36 (B_ 31 14) ?_
       refine pn_ HT_ 5 37 (B_ 63 14) ?_
       refine pn_ HT_ 6 38 (B_ 127 14) ?_
       refine pn_ HT_ 7 39 (B_ 255 14) ?_
       refine pn_ HT_ 8 40 (B_ 511 14) ?_
       refine pn_ HT_ 9 41 (B_ 1023 14) ?_
       refine pn_ HT_ 10 42 (B_ 2047 14) ?_
       refine pn_ HT_ 11 43 (B_ 4095 14) ?_
       refine pn_ HT_ 12 44 (B_ 8191 14) ?_
       refine pu_ HT_ 13 45 (B_ 16383 14) ?_
       refine done_ (done_of HT_.out (by kernel_rfl)) ?_
       try go_wp2_with (first | ((with_reducible refine gate_dst (N := 46) rfl ?_); refine Kd.R_lit (Kd.int .i64) _ 3 ?hg (N := 46) ?hd (xs := ([] : List Int)) (inner := []) (ok := fun _ => True) (okp := fun _ => True) ?hr ?hp (fun _ hk => hk) trivial (Below.refl _ _) (Nat.le_refl _) (by simp) ?_; (case hd => rfl); (case hg => rfl); (case hr => first | (go_simp; done) | (go_simp; rfl)); (case hp => exact (Reps.none _ _)); intro v186 w44 ho45 hb hg_ hnew_; clear hg_ hnew_; (first | rw [← Ny185.out] at ho45 | (simp only [Int.reduceToNat] at ho45; rw [← Ny185.out] at ho45)); have HO187 := Aside0.mk (Kd.R_lower (Kd.R_new' ho45 (Kd.R_lt (re_ HO_3.out))) (below_size (bl_ HB.out))); replace HO_3 := Aside0.mk (Kd.R_elder' (re_ HO_3.out) (Kd.R_base ho45) hb); replace HB := bo_ HB hb; clear hb ho45; have q46 : (x5_2 : Int) ≤ ((x3_1.length : Int) : Int) := od_; obtain ⟨i046, hi046, _, hsz46, _⟩ := info_parts info3; have hroom46 : x3_1.length ≤ co5 := (Kd.R_reads' HO_3.out).2.1; have hC46 : Kd.C (Kd.int .i64) _ Ao5 x3_1.length x3_1 := (Kd.R_reads' HO_3.out).2.2; have q046 : (0 : Int) ≤ (x5_2 : Int) := od_; have hcut46 := cut_from (P := Try.prog) 24 3 .i64 Try.underlying24 hi046 1 hsz46 Ao5 x3_1.length co5 x5_2 q046 q46; have hr46 := Kd.C_drop (m := (x5_2 : Int).toNat) (c := co5) hC46 (by omega) hroom46; obtain ⟨A46, hA46⟩ : ∃ A1, A1 = (if co5 = (x5_2 : Int).toNat then Ao5 else (Ao5 : Option Addr).map (·.add ((x5_2 : Int).toNat * 1))) := ⟨_, rfl⟩; obtain ⟨c46, hc46⟩ : ∃ c1, c1 = co5 - (x5_2 : Int).toNat := ⟨_, rfl⟩; have hy46 : y188.length = x3_1.length - (x5_2 : Int).toNat := (by rw [Ny188.out, List.length_drop] <;> omega); rw [show (x3_1).drop (x5_2 : Int).toNat = y188 from Ny188.out.symm] at hr46; replace hr46 : Kd.C (Kd.int .i64) _ A46 y188.length y188 := (by rw [hA46]; exact hr46); rw [← hy46, ← hA46, ← hc46] at hcut46; have HR191 := Aside0.mk hr46; have HC191 := Aside0.mk (show y188.length ≤ c46 from by rw [hy46, hc46]; exact Nat.sub_le_sub_right hroom46 _); clear hr46 hC46 hroom46 hi046 hsz46 hc46; have KY46 := Aside0.mk hy46; have KA46 := Aside0.mk hA46; clear hy46 hA46; have KL46 := Aside0.mk (show (x5_2 : Int).toNat ≤ x3_1.length from by omega); replace q46 := eq_true q46) | ((with_reducible refine gate_builtin (b := .append) (xs := #[.tmp 46, .tmp 49]) rfl ?_); at_builtin; refine Kd.R_append_rows (Kd.int .i64) (w0 := w) w.heap.size rfl (.tmp 46) (.tmp 49) 24 3 (.int .i64 0) 8 rfl Try.underlying24 info3 rfl (by decide) (by omega) v186 y185 y188 _ _ _ (fun k_ => some k_ ≠ (.slice Ao5 x3_1.length co5 : Value).ownBlock) (fun _ => False) rfl rfl ?aO ?aR (fun _ _ h => h) (fun _ h => h.elim) ?aF ?aB ?aS ?aL ?_; (case aR => repeat (first | exact (by repeat (first | (with_reducible exact HR191.out) | (with_reducible refine Kd.C_alloc ?_ _) | (with_reducible refine Kd.C_drewN ?_ _) | (with_reducible refine Kd.C_drew ?_) | exact HR191.out)) | (with_reducible refine Kd.C_alloc ?_ _) | (with_reducible refine Kd.C_drewN ?_ _) | (with_reducible refine Kd.C_drew ?_))); (case aB => exact (bl_ HB.out)); (case aF => exact (fun k_ hk => Kd.fresh' (Kd.R_lt (re_ HO_3.out)) k_ hk)); (case aO => exact (by (with_reducible repeat (first | apply Kd.R_alloc | apply Kd.R_drewN | apply Kd.R_drew)); exact Kd.R_mono HO187.out (fun _ hk => hk.2))); (case aS => exact (below_size (bl_ HB.out))); (case aL => have := LMc36.out; omega); intro v193 w47 ho hb hg hat; rw [← Ny192.out] at ho; replace HB := Aside0.mk (hb); replace HR191 := Aside0.mk ((show Kd.C (Kd.int .i64) w47 A46 y188.length y188 from by rw [Ny188.out, KA46.out]; exact Kd.C_drop (m := (x5_2 : Int).toNat) (c := co5) ((Kd.R_reads' (Kd.R_after (ok := (fun _ => True)) (re_ HO_3.out) hg hat)).2.2) KL46.out ((Kd.R_reads' (Kd.R_after (ok := (fun _ => True)) (re_ HO_3.out) hg hat)).2.1))); replace HO_3 := Aside0.mk (Kd.R_after (ok := (fun _ => True)) (re_ HO_3.out) hg hat); have HO194 := Aside0.mk (ho); clear HO187; clear ho hb hg hat))
       replace HO_3 := Aside0.mk (Kd.R_drew HO_3.out)
       replace HO194 := Aside0.mk (Kd.R_drew HO194.out)
       replace HR191 := Aside0.mk (Kd.C_drew HR191.out)
       replace HB := Aside0.mk (below_drew1 HB.out)
       have q49 : (x5_2 : Int) ≤ ((x3_1.length : Int) : Int) := od_
       obtain ⟨i049, hi049, _, hsz49, _⟩ := info_parts info3
       have hcut49 := cut_to (P := Try.prog) 24 3 .i64 Try.underlying24 hi049 Ao5 x3_1.length co5 x5_2 (od_) q49 (Kd.R_reads' HO_3.out).2.1
       have hr49 := Kd.R_take (m := (x5_2 : Int).toNat) HO_3.out (by omega)
       have hy49 : y195.length = (x5_2 : Int).toNat := (by rw [Ny195.out, List.length_take]; omega)
       rw [← Ny195.out] at hr49
       rw [← hy49] at hr49 hcut49
       clear hy49 hi049 hsz49 HO_3
       have HO197 := Aside0.mk hr49
       clear hr49
       replace q49 := eq_true q49
       have p198 : 0 ≤ (x4_1 : Int) := od_
       have q198 : x4_1 < (l0.length : Int) := od_
       obtain ⟨ad198, e198, hx198_0⟩ := Kd.at_int HR0.out x4_1 p198 q198
       have hw198_0 := hx198_0
       cases e198
       (try replace hx198_0 := (HB.out.cell (World.block_lt_of_cell? w _ hx198_0)).trans hx198_0)
       replace p198 := eq_true p198
       replace q198 := eq_true q198
       refine start_ (n := 12) (S := fun w' => w'.cell? (ad198.add (x4_1).toNat) = some (.int .i64 (rd l0 x4_1))) (ds := []) (B_ 0 12) (by kernel_rfl) rfl rfl (by first | exact hw198_0 | exact (HB.out.cell (World.block_lt_of_cell? w _ hw198_0)).trans hw198_0 | (obtain ⟨_, e_, h_⟩ := Kd.at_int HR0.out x4_1 (of_eq_true p198) (of_eq_true q198); cases e_; exact h_)) (fun hHeld => ?_); refine with_tabW spec_SortList.tab10 spec_SortList.bits10 (fun HT_ HW_ => ?_)
       generalize w47.drew = w48 at HO_3 HO194 HR191 HB HO197 hx198_0 hHeld ⊢
       refine pu_ HT_ 0 51 (B_ 1 12) ?_
       refine pu_ HT_ 1 52 (B_ 3 12) ?_
       refine pu_ HT_ 2 53 (B_ 7 12) ?_
       refine pu_ HT_ 3 54 (B_ 15 12) ?_
       refine pu_ HT_ 4 55 (B_ 31 12) ?_
       refine pu_ HT_ 5 56 (B_ 63 12) ?_
       refine pu_ HT_ 9 60 (B_ 575 12) ?_
       refine tk1_ HT_ HW_ hHeld 6 57 (B_ 639 12) ?_
       refine on_ HT_ 7 58 (B_ 767 12) (fun K hK => ?_)
       refine value_ (w1 := ?_) (v := ?_) (by rfl) rfl ?_ ?_
       rotate_left 2
       · go_simp
         constructor
         · rfl
         · rfl
       refine hK.out _ _ ((World.cell?_alloc_lt _ _ _ (World.block_lt_of_cell? _ _ (by first | exact hw198_0 | exact (HB.out.cell (World.block_lt_of_cell? w _ hw198_0)).trans hw198_0 | (obtain ⟨_, e_, h_⟩ := Kd.at_int HR0.out x4_1 (of_eq_true p198) (of_eq_true q198); cases e_; exact h_)))).trans (by first | exact hw198_0 | exact (HB.out.cell (World.block_lt_of_cell? w _ hw198_0)).trans hw198_0 | (obtain ⟨_, e_, h_⟩ := Kd.at_int HR0.out x4_1 (of_eq_true p198) (of_eq_true q198); cases e_; exact h_))) (fun hHeld => ?_)
       clear hK K
       refine norm_ (a' := ?_) ?_ ?_
       rotate_left
       · show Act.put _ (some 58) _ = _
         simp only [Act.put, z1_, z2_, z3_, i64_w, i32_w]
         rfl
       refine on_ HT_ 8 59 (B_ 1023 12) (fun K hK => ?_)
       refine Kd.R_append_step (Kd.int .i64) (w0 := w) w.heap.size (by rfl) (.tmp 53) (.tmp 58) 24 3 (.int .i64 0) 8 rfl Try.underlying24 info3 rfl (by decide) (by omega) (.slice Ao5 y195.length co5) y195 (rd l0 x4_1) [.int .i64 (rd l0 x4_1)] (fun k_ => some k_ ≠ (v193 : Value).ownBlock) (fun _ => False) rfl rfl ?aP (fun _ hk => hk.elim) ?aF ?aO ?aB ?aS ?aL ?_
       (case aP => exact rfl)
       (case aB => exact (bl_ HB.out))
       (case aF => exact (fun k_ hk => Kd.fresh' (Kd.R_lt (re_ HO194.out)) k_ hk))
       (case aO => exact (by (with_reducible repeat (first | apply Kd.R_alloc | apply Kd.R_drewN | apply Kd.R_drew)); exact Kd.R_mono HO197.out (fun _ hk => hk.2)))
       (case aS => exact (below_size (bl_ HB.out)))
       (case aL => have := LMc40.out; omega)
       intro v200 w50 ho hb hg hat
       rw [← Ny199.out] at ho
       replace HO194 := Aside0.mk (Kd.R_after (ok := (fun _ => True)) (by (with_reducible repeat (first | apply Kd.R_alloc | apply Kd.R_drewN | apply Kd.R_drew)); exact Kd.R_mono HO194.out (fun _ hk => ⟨trivial, by first | exact hk | exact (fun e_ => hk (e_.trans (own_len_ _ _ _ _ _)))⟩)) hg hat)
       replace HB := Aside0.mk (hb)
       have HO201 := Aside0.mk (ho)
       clear HO197
       clear ho hb hg hat
       obtain ⟨Ao52, co52, eo52⟩ := Kd.R_slice HO194.out
       (first | subst eo52 | (injection eo52 with f1_ f2_ f3_; have f4_ := f1_.symm; have f5_ := f3_.symm; clear f1_ f2_ f3_; subst f4_; subst f5_))
       refine hK.out _ _ (by first | exact hw198_0 | exact (HB.out.cell (World.block_lt_of_cell? w _ hw198_0)).trans hw198_0 | (obtain ⟨_, e_, h_⟩ := Kd.at_int HR0.out x4_1 (of_eq_true p198) (of_eq_true q198); cases e_; exact h_)) (fun hHeld => ?_)
       clear hK K
       refine norm_ (a' := ?_) ?_ ?_
       rotate_left
       · show Act.put _ (some 59) _ = _
         simp only [Act.put, z1_, z2_, z3_, i64_w, i32_w]
         rfl
       refine on_ HT_ 10 61 (B_ 2047 12) (fun K hK => ?_)
       refine Kd.R_append_rows_step (Kd.int .i64) (w0 := w) w.heap.size (by rfl) (.tmp 59) (.tmp 60) 24 3 (.int .i64 0) 8 rfl Try.underlying24 info3 rfl (by decide) (by omega) v200 y199 y192 _ _ _ (fun k_ => some k_ ≠ (.slice Ao52 y192.length co52 : Value).ownBlock) (fun _ => False) rfl rfl ?aO ?aR (fun _ _ h => h) (fun _ h => h.elim) ?aF ?aB ?aS ?aL ?_
       (case aR => exact ce_ ((Kd.R_reads' HO194.out).2.2))
       (case aB => exact (bl_ HB.out))
       (case aF => exact (fun k_ hk => Kd.fresh' (Kd.R_lt (re_ HO194.out)) k_ hk))
       (case aO => exact (re_ HO201.out))
       (case aS => exact (below_size (bl_ HB.out)))
       (case aL => have := LMc41.out; omega)
       intro v203 w51 ho hb hg hat
       rw [← Ny202.out] at ho
       replace HO194 := Aside0.mk (Kd.R_after (ok := (fun _ => True)) (re_ HO194.out) hg hat)
       replace HB := Aside0.mk (hb)
       have HO204 := Aside0.mk (ho)
       clear HO201
       clear ho hb hg hat
       refine hK.out _ _ (by first | exact hw198_0 | exact (HB.out.cell (World.block_lt_of_cell? w _ hw198_0)).trans hw198_0 | (obtain ⟨_, e_, h_⟩ := Kd.at_int HR0.out x4_1 (of_eq_true p198) (of_eq_true q198); cases e_; exact h_)) (fun hHeld => ?_)
       clear hK K
       refine norm_ (a' := ?_) ?_ ?_
       rotate_left
       · show Act.put _ (some 61) _ = _
         simp only [Act.put, z1_, z2_, z3_, i64_w, i32_w]
         rfl
       refine pu_ HT_ 11 3 (B_ 4095 12) ?_
       refine done_ (done_of HT_.out (by kernel_rfl)) ?_
       try go_wp2
       go_roundg k2
       case measure => have := HK1.out; have := HK2.out; omega
       case rel => exact ⟨(y202), (wrap64 (x4_1 + 1)), rs_, H', ⟨by have := HK1.out; have := HK2.out; omega⟩, ⟨by (with_reducible repeat (first | apply Kd.R_alloc | apply Kd.R_drewN | apply Kd.R_drew)); exact Kd.R_mono HO204.out (fun _ hk => trivial)⟩, ⟨bl_ HB.out⟩⟩
     rw [if_pos c6] at H
     have c6b0 : decide (0 < x5_2) = true := decide_eq_true c6
     clear c6
     obtain ⟨ji7, hji7⟩ : ∃ j_ : Int, (wrap64 (x5_2 - 1)) = j_ := ⟨_, rfl⟩
     replace H : (if 0 ≤ (ji7) then (if (ji7) < (x3_1.length : Int) then (if 0 ≤ x4_1 then (if x4_1 < (l0.length : Int) then (if (rd x3_1 (ji7)) > (rd l0 x4_1) then (spec_SortList.l1 k2 l0 x3_1 x4_1 ji7) else (if (rd x3_1 (ji7)) = (rd l0 x4_1) then (spec_SortList.l0 k2 l0 x3_1 (wrap64 (x4_1 + 1))) else ((some (([] : List Int) : List Int)).bind fun y165 => (if 0 ≤ x5_2 then (if x5_2 ≤ (x3_1.length : Int) then ((some (x3_1.drop (x5_2 : Int).toNat : List Int)).bind fun y168 => (if y165.length + y168.length < 17592186044416 then ((some (y165 ++ y168 : List Int)).bind fun y172 => ((some (x3_1.take (x5_2 : Int).toNat : List Int)).bind fun y175 => (if y175.length < 17592186044416 then ((some (y175 ++ [rd l0 x4_1] : List Int)).bind fun y179 => (if y179.length + y172.length < 17592186044416 then (spec_SortList.l0 k2 l0 (y179 ++ y172) (wrap64 (x4_1 + 1))) else (none))) else (none)))) else (none))) else (none)) else (none))))) else (none)) else (none)) else (none)) else (none)) = some r := by first | (rw [hji7] at H; exact H) | (simp only [hji7] at H ⊢; exact H)
     have hji7w : (IntKind.i64.wrap (x5_2 - 1)) = ji7 := (i64_w _).trans hji7
     by_cases c8 : 0 ≤ (ji7)
     rotate_left
     · rw [if_neg c8] at H
       cases H
     rw [if_pos c8] at H
     have c8b0 : decide (0 ≤ (ji7)) = true := decide_eq_true c8
     clear c8
     by_cases c9 : (ji7) < (x3_1.length : Int)
     rotate_left
     · rw [if_neg c9] at H
       cases H
     rw [if_pos c9] at H
     have c9b0 : decide ((ji7) < (x3_1.length : Int)) = true := decide_eq_true c9
     clear c9
     by_cases c10 : 0 ≤ x4_1
     rotate_left
     · rw [if_neg c10] at H
       cases H
     rw [if_pos c10] at H
     have c10b0 : decide (0 ≤ x4_1) = true := decide_eq_true c10
     clear c10
     by_cases c11 : x4_1 < (l0.length : Int)
     rotate_left
     · rw [if_neg c11] at H
       cases H
     rw [if_pos c11] at H
     have c11b0 : decide (x4_1 < (l0.length : Int)) = true := decide_eq_true c11
     clear c11
     by_cases c12 : (rd x3_1 (ji7)) > (rd l0 x4_1)
     · rw [if_pos c12] at H
       have c12b0 : decide ((rd l0 x4_1) < (rd x3_1 (ji7))) = true := decide_eq_true c12
       clear c12
       have H' := Aside0.mk H
       clear H
       try go_wp2
       replace HO_3 := Aside0.mk (Kd.R_drew HO_3.out)
       replace HB := Aside0.mk (below_drew1 HB.out)
       have p161 : 0 ≤ ((ji7) : Int) := od_
       have q161 : (ji7) < (x3_1.length : Int) := od_
       obtain ⟨ad161, e161, hx161_0⟩ := Kd.at_int (Kd.R_reads' HO_3.out).2.2 (ji7) p161 q161
       cases e161
       replace p161 := eq_true p161
       replace q161 := eq_true q161
       have p162 : 0 ≤ (x4_1 : Int) := od_
       have q162 : x4_1 < (l0.length : Int) := od_
       obtain ⟨ad162, e162, hx162_0⟩ := Kd.at_int HR0.out x4_1 p162 q162
       have hw162_0 := hx162_0
       cases e162
       (try replace hx162_0 := (HB.out.cell (World.block_lt_of_cell? w _ hx162_0)).trans hx162_0)
       replace p162 := eq_true p162
       replace q162 := eq_true q162
       refine start_ (n := 14) (S := fun w' => w'.cell? (ad161.add ((ji7)).toNat) = some (.int .i64 (rd x3_1 (ji7))) ∧ w'.cell? (ad162.add (x4_1).toNat) = some (.int .i64 (rd l0 x4_1))) (ds := []) (B_ 0 14) (by kernel_rfl) rfl rfl ⟨hx161_0, ((HB.out.cell (World.block_lt_of_cell? w _ hw162_0)).trans hw162_0)⟩ (fun hHeld => ?_); refine with_tabW spec_SortList.tab6 spec_SortList.bits6 (fun HT_ HW_ => ?_)
       generalize wr.drew = w13 at HO_3 HB hx161_0 hx162_0 hHeld ⊢
       refine pu_ HT_ 0 16 (B_ 1 14) ?_
       refine pu_ HT_ 1 17 (B_ 3 14) ?_
       refine pu_ HT_ 2 18 (B_ 7 14) ?_
       refine pu_ HT_ 3 19 (B_ 15 14) ?_
       refine pu_ HT_ 4 20 (B_ 31 14) ?_
       refine pu_ HT_ 5 21 (B_ 63 14) ?_
       refine pu_ HT_ 6 22 (B_ 127 14) ?_
       refine pu_ HT_ 8 24 (B_ 383 14) ?_
       refine pu_ HT_ 9 25 (B_ 895 14) ?_
       refine pu_ HT_ 10 26 (B_ 1919 14) ?_
       refine tk2_ HT_ HW_ hHeld 7 23 (B_ 2047 14) ?_
       refine tk2_ HT_ HW_ hHeld 11 27 (B_ 4095 14) ?_
       refine pu_ HT_ 12 28 (B_ 8191 14) ?_
       refine pu_ HT_ 13 29 (B_ 16383 14) ?_
       refine done_ (done_of HT_.out (by kernel_rfl)) ?_
       try go_wp2
       go_roundg k2
       case measure => have := HK1.out; have := HK2.out; omega
       case rel => exact ⟨(ji7), (by first | rfl | (simp; done) | (simp only [← hji7] <;> (first | rfl | simp)) | (simp [*]; done)), H', ⟨by have := HK1.out; have := HK2.out; omega⟩, ⟨re_ HO_3.out⟩, ⟨bl_ HB.out⟩⟩
     rw [if_neg c12] at H
     have c12b0 : decide ((rd l0 x4_1) < (rd x3_1 (ji7))) = false := decide_eq_false c12
     clear c12
     by_cases c14 : (rd x3_1 (ji7)) = (rd l0 x4_1)
     · rw [if_pos c14] at H
       have c14b0 : ((rd x3_1 (ji7)) == (rd l0 x4_1)) = true := beq_iff_eq.mpr c14
       have c14b1 : ((rd x3_1 (ji7)) != (rd l0 x4_1)) = false := bne_eq_false_iff_eq.mpr c14
       clear c14
       have H' := Aside0.mk H
       clear H
       try go_wp2
       replace HO_3 := Aside0.mk (Kd.R_drew HO_3.out)
       replace HB := Aside0.mk (below_drew1 HB.out)
       have p161 : 0 ≤ ((ji7) : Int) := od_
       have q161 : (ji7) < (x3_1.length : Int) := od_
       obtain ⟨ad161, e161, hx161_0⟩ := Kd.at_int (Kd.R_reads' HO_3.out).2.2 (ji7) p161 q161
       cases e161
       replace p161 := eq_true p161
       replace q161 := eq_true q161
       have p162 : 0 ≤ (x4_1 : Int) := od_
       have q162 : x4_1 < (l0.length : Int) := od_
       obtain ⟨ad162, e162, hx162_0⟩ := Kd.at_int HR0.out x4_1 p162 q162
       have hw162_0 := hx162_0
       cases e162
       (try replace hx162_0 := (HB.out.cell (World.block_lt_of_cell? w _ hx162_0)).trans hx162_0)
       replace p162 := eq_true p162
       replace q162 := eq_true q162
       refine start_ (n := 14) (S := fun w' => w'.cell? (ad161.add ((ji7)).toNat) = some (.int .i64 (rd x3_1 (ji7))) ∧ w'.cell? (ad162.add (x4_1).toNat) = some (.int .i64 (rd l0 x4_1))) (ds := []) (B_ 0 14) (by kernel_rfl) rfl rfl ⟨hx161_0, ((HB.out.cell (World.block_lt_of_cell? w _ hw162_0)).trans hw162_0)⟩ (fun hHeld => ?_); refine with_tabW spec_SortList.tab6 spec_SortList.bits6 (fun HT_ HW_ => ?_)
       generalize wr.drew = w15 at HO_3 HB hx161_0 hx162_0 hHeld ⊢
       refine pu_ HT_ 0 16 (B_ 1 14) ?_
       refine pu_ HT_ 1 17 (B_ 3 14) ?_
       refine pu_ HT_ 2 18 (B_ 7 14) ?_
       refine pu_ HT_ 3 19 (B_ 15 14) ?_
       refine pu_ HT_ 4 20 (B_ 31 14) ?_
       refine pu_ HT_ 5 21 (B_ 63 14) ?_
       refine pu_ HT_ 6 22 (B_ 127 14) ?_
       refine pu_ HT_ 8 24 (B_ 383 14) ?_
       refine pu_ HT_ 9 25 (B_ 895 14) ?_
       refine pu_ HT_ 10 26 (B_ 1919 14) ?_
       refine tk2_ HT_ HW_ hHeld 7 23 (B_ 2047 14) ?_
       refine tk2_ HT_ HW_ hHeld 11 27 (B_ 4095 14) ?_
       refine pu_ HT_ 12 28 (B_ 8191 14) ?_
       refine pu_ HT_ 13 29 (B_ 16383 14) ?_
       refine done_ (done_of HT_.out (by kernel_rfl)) ?_
       try go_wp2
       replace HO_3 := Aside0.mk (Kd.R_drew HO_3.out)
       replace HB := Aside0.mk (below_drew1 HB.out)
       have p163 : 0 ≤ ((ji7) : Int) := od_
       have q163 : (ji7) < (x3_1.length : Int) := od_
       obtain ⟨ad163, e163, hx163_0⟩ := Kd.at_int (Kd.R_reads' HO_3.out).2.2 (ji7) p163 q163
       obtain rfl : ad161 = ad163 := (by injection e163)
       replace p163 := eq_true p163
       replace q163 := eq_true q163
       have p164 : 0 ≤ (x4_1 : Int) := od_
       have q164 : x4_1 < (l0.length : Int) := od_
       obtain ⟨ad164, e164, hx164_0⟩ := Kd.at_int HR0.out x4_1 p164 q164
       have hw164_0 := hx164_0
       obtain rfl : ad162 = ad164 := (by injection e164)
       (try replace hx164_0 := (HB.out.cell (World.block_lt_of_cell? w _ hx164_0)).trans hx164_0)
       replace p164 := eq_true p164
       replace q164 := eq_true q164
       refine start_ (n := 14) (S := fun w' => w'.cell? (ad161.add ((ji7)).toNat) = some (.int .i64 (rd x3_1 (ji7))) ∧ w'.cell? (ad162.add (x4_1).toNat) = some (.int .i64 (rd l0 x4_1))) (ds := []) (B_ 0 14) (by kernel_rfl) rfl rfl ⟨hx163_0, ((HB.out.cell (World.block_lt_of_cell? w _ hw164_0)).trans hw164_0)⟩ (fun hHeld => ?_); refine with_tabW spec_SortList.tab8 spec_SortList.bits8 (fun HT_ HW_ => ?_)
       generalize w15.drew = w16 at HO_3 HB hx163_0 hx164_0 hHeld ⊢
       refine pu_ HT_ 0 32 (B_ 1 14) ?_
       refine pu_ HT_ 1 33 (B_ 3 14) ?_
       refine pu_ HT_ 2 34 (B_ 7 14) ?_
       refine pu_ HT_ 3 35 (B_ 15 14) ?_
       refine pu_ HT_ 4 36 (B_ 31 14) ?_
       refine pu_ HT_ 5 37 (B_ 63 14) ?_
       refine pu_ HT_ 6 38 (B_ 127 14) ?_
       refine pu_ HT_ 8 40 (B_ 383 14) ?_
       refine pu_ HT_ 9 41 (B_ 895 14) ?_
       refine pu_ HT_ 10 42 (B_ 1919 14) ?_
       refine tk2_ HT_ HW_ hHeld 7 39 (B_ 2047 14) ?_
       refine tk2_ HT_ HW_ hHeld 11 43 (B_ 4095 14) ?_
       refine pu_ HT_ 12 44 (B_ 8191 14) ?_
       refine pu_ HT_ 13 45 (B_ 16383 14) ?_
       refine done_ (done_of HT_.out (by kernel_rfl)) ?_
       try go_wp2
       go_roundg k2
       case measure => have := HK1.out; have := HK2.out; omega
       case rel => exact ⟨(x3_1), (wrap64 (x4_1 + 1)), rs_, H', ⟨by have := HK1.out; have := HK2.out; omega⟩, ⟨re_ HO_3.out⟩, ⟨bl_ HB.out⟩⟩
     rw [if_neg c14] at H
     have c14b0 : ((rd x3_1 (ji7)) == (rd l0 x4_1)) = false := beq_eq_false_iff_ne.mpr c14
     have c14b1 : ((rd x3_1 (ji7)) != (rd l0 x4_1)) = true := bne_iff_ne.mpr c14
     obtain ⟨y165, hy165⟩ : ∃ y_ : List Int, y_ = (([] : List Int)) := ⟨_, rfl⟩
     replace H : (if 0 ≤ x5_2 then (if x5_2 ≤ (x3_1.length : Int) then ((some (x3_1.drop (x5_2 : Int).toNat : List Int)).bind fun y168 => (if y165.length + y168.length < 17592186044416 then ((some (y165 ++ y168 : List Int)).bind fun y172 => ((some (x3_1.take (x5_2 : Int).toNat : List Int)).bind fun y175 => (if y175.length < 17592186044416 then ((some (y175 ++ [rd l0 x4_1] : List Int)).bind fun y179 => (if y179.length + y172.length < 17592186044416 then (spec_SortList.l0 k2 l0 (y179 ++ y172) (wrap64 (x4_1 + 1))) else (none))) else (none)))) else (none))) else (none)) else (none)) = some r := by subst hy165; exact H
     have Ny165 := Aside0.mk hy165
     clear hy165
     by_cases c17 : 0 ≤ x5_2
     rotate_left
     · rw [if_neg c17] at H
       cases H
     rw [if_pos c17] at H
     have c17b0 := eq_true c17
     have c17b1 : decide (0 ≤ x5_2) = true := decide_eq_true c17
     clear c17
     by_cases c18 : x5_2 ≤ (x3_1.length : Int)
     rotate_left
     · rw [if_neg c18] at H
       cases H
     rw [if_pos c18] at H
     have c18b0 := eq_true c18
     have c18b1 : decide (x5_2 ≤ (x3_1.length : Int)) = true := decide_eq_true c18
     clear c18
     obtain ⟨y168, hy168⟩ : ∃ y_ : List Int, y_ = (x3_1.drop (x5_2 : Int).toNat) := ⟨_, rfl⟩
     replace H : (if y165.length + y168.length < 17592186044416 then ((some (y165 ++ y168 : List Int)).bind fun y172 => ((some (x3_1.take (x5_2 : Int).toNat : List Int)).bind fun y175 => (if y175.length < 17592186044416 then ((some (y175 ++ [rd l0 x4_1] : List Int)).bind fun y179 => (if y179.length + y172.length < 17592186044416 then (spec_SortList.l0 k2 l0 (y179 ++ y172) (wrap64 (x4_1 + 1))) else (none))) else (none)))) else (none)) = some r := by subst hy168; exact H
     have Ny168 := Aside0.mk hy168
     clear hy168
     by_cases c19 : y165.length + y168.length < 17592186044416
     rotate_left
     · rw [if_neg c19] at H
       cases H
     rw [if_pos c19] at H
     have LMc19 := Aside0.mk c19
     clear c19
     obtain ⟨y172, hy172⟩ : ∃ y_ : List Int, y_ = (y165 ++ y168) := ⟨_, rfl⟩
     replace H : ((some (x3_1.take (x5_2 : Int).toNat : List Int)).bind fun y175 => (if y175.length < 17592186044416 then ((some (y175 ++ [rd l0 x4_1] : List Int)).bind fun y179 => (if y179.length + y172.length < 17592186044416 then (spec_SortList.l0 k2 l0 (y179 ++ y172) (wrap64 (x4_1 + 1))) else (none))) else (none))) = some r := by subst hy172; exact H
     have Ny172 := Aside0.mk hy172
     clear hy172
     have c20b0 := eq_true (od_ : x5_2 ≤ (x3_1.length : Int))
     obtain ⟨y175, hy175⟩ : ∃ y_ : List Int, y_ = (x3_1.take (x5_2 : Int).toNat) := ⟨_, rfl⟩
     replace H : (if y175.length < 17592186044416 then ((some (y175 ++ [rd l0 x4_1] : List Int)).bind fun y179 => (if y179.length + y172.length < 17592186044416 then (spec_SortList.l0 k2 l0 (y179 ++ y172) (wrap64 (x4_1 + 1))) else (none))) else (none)) = some r := by subst hy175; exact H
     have Ny175 := Aside0.mk hy175
     clear hy175
     by_cases c21 : y175.length < 17592186044416
     rotate_left
     · rw [if_neg c21] at H
       cases H
     rw [if_pos c21] at H
     have LMc21 := Aside0.mk c21
     clear c21
     obtain ⟨y179, hy179⟩ : ∃ y_ : List Int, y_ = (y175 ++ [rd l0 x4_1]) := ⟨_, rfl⟩
     replace H : (if y179.length + y172.length < 17592186044416 then (spec_SortList.l0 k2 l0 (y179 ++ y172) (wrap64 (x4_1 + 1))) else (none)) = some r := by subst hy179; exact H
     have Ny179 := Aside0.mk hy179
     clear hy179
     by_cases c22 : y179.length + y172.length < 17592186044416
     rotate_left
     · rw [if_neg c22] at H
       cases H
     rw [if_pos c22] at H
     have LMc22 := Aside0.mk c22
     clear c22
     obtain ⟨y182, hy182⟩ : ∃ y_ : List Int, y_ = (y179 ++ y172) := ⟨_, rfl⟩
     replace H : (spec_SortList.l0 k2 l0 y182 (wrap64 (x4_1 + 1))) = some r := by subst hy182; exact H
     have Ny182 := Aside0.mk hy182
     clear hy182
     have H' := Aside0.mk H
     clear H
     try go_wp2
     replace HO_3 := Aside0.mk (Kd.R_drew HO_3.out)
     replace HB := Aside0.mk (below_drew1 HB.out)
     have p161 : 0 ≤ ((ji7) : Int) := od_
     have q161 : (ji7) < (x3_1.length : Int) := od_
     obtain ⟨ad161, e161, hx161_0⟩ := Kd.at_int (Kd.R_reads' HO_3.out).2.2 (ji7) p161 q161
     cases e161
     replace p161 := eq_true p161
     replace q161 := eq_true q161
     have p162 : 0 ≤ (x4_1 : Int) := od_
     have q162 : x4_1 < (l0.length : Int) := od_
     obtain ⟨ad162, e162, hx162_0⟩ := Kd.at_int HR0.out x4_1 p162 q162
     have hw162_0 := hx162_0
     cases e162
     (try replace hx162_0 := (HB.out.cell (World.block_lt_of_cell? w _ hx162_0)).trans hx162_0)
     replace p162 := eq_true p162
     replace q162 := eq_true q162
     refine start_ (n := 14) (S := fun w' => w'.cell? (ad161.add ((ji7)).toNat) = some (.int .i64 (rd x3_1 (ji7))) ∧ w'.cell? (ad162.add (x4_1).toNat) = some (.int .i64 (rd l0 x4_1))) (ds := []) (B_ 0 14) (by kernel_rfl) rfl rfl ⟨hx161_0, ((HB.out.cell (World.block_lt_of_cell? w _ hw162_0)).trans hw162_0)⟩ (fun hHeld => ?_); refine with_tabW spec_SortList.tab6 spec_SortList.bits6 (fun HT_ HW_ => ?_)
     generalize wr.drew = w23 at HO_3 HB hx161_0 hx162_0 hHeld ⊢
     refine pu_ HT_ 0 16 (B_ 1 14) ?_
     refine pu_ HT_ 1 17 (B_ 3 14) ?_
     refine pu_ HT_ 2 18 (B_ 7 14) ?_
     refine pu_ HT_ 3 19 (B_ 15 14) ?_
     refine pu_ HT_ 4 20 (B_ 31 14) ?_
     refine pu_ HT_ 5 21 (B_ 63 14) ?_
     refine pu_ HT_ 6 22 (B_ 127 14) ?_
     refine pu_ HT_ 8 24 (B_ 383 14) ?_
     refine pu_ HT_ 9 25 (B_ 895 14) ?_
     refine pu_ HT_ 10 26 (B_ 1919 14) ?_
     refine tk2_ HT_ HW_ hHeld 7 23 (B_ 2047 14) ?_
     refine tk2_ HT_ HW_ hHeld 11 27 (B_ 4095 14) ?_
     refine pu_ HT_ 12 28 (B_ 8191 14) ?_
     refine pu_ HT_ 13 29 (B_ 16383 14) ?_
     refine done_ (done_of HT_.out (by kernel_rfl)) ?_
     try go_wp2
     replace HO_3 := Aside0.mk (Kd.R_drew HO_3.out)
     replace HB := Aside0.mk (below_drew1 HB.out)
     have p163 : 0 ≤ ((ji7) : Int) := od_
     have q163 : (ji7) < (x3_1.length : Int) := od_
     obtain ⟨ad163, e163, hx163_0⟩ := Kd.at_int (Kd.R_reads' HO_3.out).2.2 (ji7) p163 q163
     obtain rfl : ad161 = ad163 := (by injection e163)
     replace p163 := eq_true p163
     replace q163 := eq_true q163
     have p164 : 0 ≤ (x4_1 : Int) := od_
     have q164 : x4_1 < (l0.length : Int) := od_
     obtain ⟨ad164, e164, hx164_0⟩ := Kd.at_int HR0.out x4_1 p164 q164
     have hw164_0 := hx164_0
     obtain rfl : ad162 = ad164 := (by injection e164)
     (try replace hx164_0 := (HB.out.cell (World.block_lt_of_cell? w _ hx164_0)).trans hx164_0)
     replace p164 := eq_true p164
     replace q164 := eq_true q164
     refine start_ (n := 14) (S := fun w' => w'.cell? (ad161.add ((ji7)).toNat) = some (.int .i64 (rd x3_1 (ji7))) ∧ w'.cell? (ad162.add (x4_1).toNat) = some (.int .i64 (rd l0 x4_1))) (ds := []) (B_ 0 14) (by kernel_rfl) rfl rfl ⟨hx163_0, ((HB.out.cell (World.block_lt_of_cell? w _ hw164_0)).trans hw164_0)⟩ (fun hHeld => ?_); refine with_tabW spec_SortList.tab8 spec_SortList.bits8 (fun HT_ HW_ => ?_)
     generalize w23.drew = w24 at HO_3 HB hx163_0 hx164_0 hHeld ⊢
     refine pu_ HT_ 0 32 (B_ 1 14) ?_
     refine pu_ HT_ 1 33 (B_ 3 14) ?_
     refine pu_ HT_ 2 34 (B_ 7 14) ?_
     refine pu_ HT_ 3 35 (B_ 15 14) ?_
     refine pu_ HT_ 4 36 (B_ 31 14) ?_
     refine pu_ HT_ 5 37 (B_ 63 14) ?_
     refine pu_ HT_ 6 38 (B_ 127 14) ?_
     refine pu_ HT_ 8 40 (B_ 383 14) ?_
     refine pu_ HT_ 9 41 (B_ 895 14) ?_
     refine pu_ HT_ 10 42 (B_ 1919 14) ?_
     refine tk2_ HT_ HW_ hHeld 7 39 (B_ 2047 14) ?_
     refine tk2_ HT_ HW_ hHeld 11 43 (B_ 4095 14) ?_
     refine pu_ HT_ 12 44 (B_ 8191 14) ?_
     refine pu_ HT_ 13 45 (B_ 16383 14) ?_
     refine done_ (done_of HT_.out (by kernel_rfl)) ?_
     try go_wp2_with (first | ((with_reducible refine gate_dst (N := 46) rfl ?_); refine Kd.R_lit (Kd.int .i64) _ 3 ?hg (N := 46) ?hd (xs := ([] : List Int)) (inner := []) (ok := fun _ => True) (okp := fun _ => True) ?hr ?hp (fun _ hk => hk) trivial (Below.refl _ _) (Nat.le_refl _) (by simp) ?_; (case hd => rfl); (case hg => rfl); (case hr => first | (go_simp; done) | (go_simp; rfl)); (case hp => exact (Reps.none _ _)); intro v166 w25 ho26 hb hg_ hnew_; clear hg_ hnew_; (first | rw [← Ny165.out] at ho26 | (simp only [Int.reduceToNat] at ho26; rw [← Ny165.out] at ho26)); have HO167 := Aside0.mk (Kd.R_lower (Kd.R_new' ho26 (Kd.R_lt (re_ HO_3.out))) (below_size (bl_ HB.out))); replace HO_3 := Aside0.mk (Kd.R_elder' (re_ HO_3.out) (Kd.R_base ho26) hb); replace HB := bo_ HB hb; clear hb ho26; have q27 : (x5_2 : Int) ≤ ((x3_1.length : Int) : Int) := od_; obtain ⟨i027, hi027, _, hsz27, _⟩ := info_parts info3; have hroom27 : x3_1.length ≤ co5 := (Kd.R_reads' HO_3.out).2.1; have hC27 : Kd.C (Kd.int .i64) _ (some ad161) x3_1.length x3_1 := (Kd.R_reads' HO_3.out).2.2; have q027 : (0 : Int) ≤ (x5_2 : Int) := od_; have hcut27 := cut_from (P := Try.prog) 24 3 .i64 Try.underlying24 hi027 1 hsz27 (some ad161) x3_1.length co5 x5_2 q027 q27; have hr27 := Kd.C_drop (m := (x5_2 : Int).toNat) (c := co5) hC27 (by omega) hroom27; obtain ⟨A27, hA27⟩ : ∃ A1, A1 = (if co5 = (x5_2 : Int).toNat then (some ad161) else ((some ad161) : Option Addr).map (·.add ((x5_2 : Int).toNat * 1))) := ⟨_, rfl⟩; obtain ⟨c27, hc27⟩ : ∃ c1, c1 = co5 - (x5_2 : Int).toNat := ⟨_, rfl⟩; have hy27 : y168.length = x3_1.length - (x5_2 : Int).toNat := (by rw [Ny168.out, List.length_drop] <;> omega); rw [show (x3_1).drop (x5_2 : Int).toNat = y168 from Ny168.out.symm] at hr27; replace hr27 : Kd.C (Kd.int .i64) _ A27 y168.length y168 := (by rw [hA27]; exact hr27); rw [← hy27, ← hA27, ← hc27] at hcut27; have HR171 := Aside0.mk hr27; have HC171 := Aside0.mk (show y168.length ≤ c27 from by rw [hy27, hc27]; exact Nat.sub_le_sub_right hroom27 _); clear hr27 hC27 hroom27 hi027 hsz27 hc27; have KY27 := Aside0.mk hy27; have KA27 := Aside0.mk hA27; clear hy27 hA27; have KL27 := Aside0.mk (show (x5_2 : Int).toNat ≤ x3_1.length from by omega); replace q27 := eq_true q27) | ((with_reducible refine gate_builtin (b := .append) (xs := #[.tmp 46, .tmp 49]) rfl ?_); at_builtin; refine Kd.R_append_rows (Kd.int .i64) (w0 := w) w.heap.size rfl (.tmp 46) (.tmp 49) 24 3 (.int .i64 0) 8 rfl Try.underlying24 info3 rfl (by decide) (by omega) v166 y165 y168 _ _ _ (fun k_ => some k_ ≠ (.slice (some ad161) x3_1.length co5 : Value).ownBlock) (fun _ => False) rfl rfl ?aO ?aR (fun _ _ h => h) (fun _ h => h.elim) ?aF ?aB ?aS ?aL ?_; (case aR => repeat (first | exact (by repeat (first | (with_reducible exact HR171.out) | (with_reducible refine Kd.C_alloc ?_ _) | (with_reducible refine Kd.C_drewN ?_ _) | (with_reducible refine Kd.C_drew ?_) | exact HR171.out)) | (with_reducible refine Kd.C_alloc ?_ _) | (with_reducible refine Kd.C_drewN ?_ _) | (with_reducible refine Kd.C_drew ?_))); (case aB => exact (bl_ HB.out)); (case aF => exact (fun k_ hk => Kd.fresh' (Kd.R_lt (re_ HO_3.out)) k_ hk)); (case aO => exact (by (with_reducible repeat (first | apply Kd.R_alloc | apply Kd.R_drewN | apply Kd.R_drew)); exact Kd.R_mono HO167.out (fun _ hk => hk.2))); (case aS => exact (below_size (bl_ HB.out))); (case aL => have := LMc19.out; omega); intro v173 w28 ho hb hg hat; rw [← Ny172.out] at ho; replace HB := Aside0.mk (hb); replace HR171 := Aside0.mk ((show Kd.C (Kd.int .i64) w28 A27 y168.length y168 from by rw [Ny168.out, KA27.out]; exact Kd.C_drop (m := (x5_2 : Int).toNat) (c := co5) ((Kd.R_reads' (Kd.R_after (ok := (fun _ => True)) (re_ HO_3.out) hg hat)).2.2) KL27.out ((Kd.R_reads' (Kd.R_after (ok := (fun _ => True)) (re_ HO_3.out) hg hat)).2.1))); replace HO_3 := Aside0.mk (Kd.R_after (ok := (fun _ => True)) (re_ HO_3.out) hg hat); have HO174 := Aside0.mk (ho); clear HO167; clear ho hb hg hat))
     replace HO_3 := Aside0.mk (Kd.R_drew HO_3.out)
     replace HO174 := Aside0.mk (Kd.R_drew HO174.out)
     replace HR171 := Aside0.mk (Kd.C_drew HR171.out)
     replace HB := Aside0.mk (below_drew1 HB.out)
     have q30 : (x5_2 : Int) ≤ ((x3_1.length : Int) : Int) := od_
     obtain ⟨i030, hi030, _, hsz30, _⟩ := info_parts info3
     have hcut30 := cut_to (P := Try.prog) 24 3 .i64 Try.underlying24 hi030 (some ad161) x3_1.length co5 x5_2 (od_) q30 (Kd.R_reads' HO_3.out).2.1
     have hr30 := Kd.R_take (m := (x5_2 : Int).toNat) HO_3.out (by omega)
     have hy30 : y175.length = (x5_2 : Int).toNat := (by rw [Ny175.out, List.length_take]; omega)
     rw [← Ny175.out] at hr30
     rw [← hy30] at hr30 hcut30
     clear hy30 hi030 hsz30 HO_3
     have HO177 := Aside0.mk hr30
     clear hr30
     replace q30 := eq_true q30
     have p178 : 0 ≤ (x4_1 : Int) := od_
     have q178 : x4_1 < (l0.length : Int) := od_
     obtain ⟨ad178, e178, hx178_0⟩ := Kd.at_int HR0.out x4_1 p178 q178
     have hw178_0 := hx178_0
     obtain rfl : ad162 = ad178 := (by injection e178)
     (try replace hx178_0 := (HB.out.cell (World.block_lt_of_cell? w _ hx178_0)).trans hx178_0)
     replace p178 := eq_true p178
     replace q178 := eq_true q178
     refine start_ (n := 12) (S := fun w' => w'.cell? (ad162.add (x4_1).toNat) = some (.int .i64 (rd l0 x4_1))) (ds := []) (B_ 0 12) (by kernel_rfl) rfl rfl (by first | exact hw178_0 | exact (HB.out.cell (World.block_lt_of_cell? w _ hw178_0)).trans hw178_0 | (obtain ⟨_, e_, h_⟩ := Kd.at_int HR0.out x4_1 (of_eq_true p178) (of_eq_true q178); cases e_; exact h_)) (fun hHeld => ?_); refine with_tabW spec_SortList.tab10 spec_SortList.bits10 (fun HT_ HW_ => ?_)
     generalize w28.drew = w29 at HO_3 HO174 HR171 HB HO177 hx178_0 hHeld ⊢
     refine pu_ HT_ 0 51 (B_ 1 12) ?_
     refine pu_ HT_ 1 52 (B_ 3 12) ?_
     refine pu_ HT_ 2 53 (B_ 7 12) ?_
     refine pu_ HT_ 3 54 (B_ 15 12) ?_
     refine pu_ HT_ 4 55 (B_ 31 12) ?_
     refine pu_ HT_ 5 56 (B_ 63 12) ?_
     refine pu_ HT_ 9 60 (B_ 575 12) ?_
     refine tk1_ HT_ HW_ hHeld 6 57 (B_ 639 12) ?_
     refine on_ HT_ 7 58 (B_ 767 12) (fun K hK => ?_)
     refine value_ (w1 := ?_) (v := ?_) (by rfl) rfl ?_ ?_
     rotate_left 2
     · go_simp
       constructor
       · rfl
       · rfl
     refine hK.out _ _ ((World.cell?_alloc_lt _ _ _ (World.block_lt_of_cell? _ _ (by first | exact hw178_0 | exact (HB.out.cell (World.block_lt_of_cell? w _ hw178_0)).trans hw178_0 | (obtain ⟨_, e_, h_⟩ := Kd.at_int HR0.out x4_1 (of_eq_true p178) (of_eq_true q178); cases e_; exact h_)))).trans (by first | exact hw178_0 | exact (HB.out.cell (World.block_lt_of_cell? w _ hw178_0)).trans hw178_0 | (obtain ⟨_, e_, h_⟩ := Kd.at_int HR0.out x4_1 (of_eq_true p178) (of_eq_true q178); cases e_; exact h_))) (fun hHeld => ?_)
     clear hK K
     refine norm_ (a' := ?_) ?_ ?_
     rotate_left
     · show Act.put _ (some 58) _ = _
       simp only [Act.put, z1_, z2_, z3_, i64_w, i32_w]
       rfl
     refine on_ HT_ 8 59 (B_ 1023 12) (fun K hK => ?_)
     refine Kd.R_append_step (Kd.int .i64) (w0 := w) w.heap.size (by rfl) (.tmp 53) (.tmp 58) 24 3 (.int .i64 0) 8 rfl Try.underlying24 info3 rfl (by decide) (by omega) (.slice (some ad161) y175.length co5) y175 (rd l0 x4_1) [.int .i64 (rd l0 x4_1)] (fun k_ => some k_ ≠ (v173 : Value).ownBlock) (fun _ => False) rfl rfl ?aP (fun _ hk => hk.elim) ?aF ?aO ?aB ?aS ?aL ?_
     (case aP => exact rfl)
     (case aB => exact (bl_ HB.out))
     (case aF => exact (fun k_ hk => Kd.fresh' (Kd.R_lt (re_ HO174.out)) k_ hk))
     (case aO => exact (by (with_reducible repeat (first | apply Kd.R_alloc | apply Kd.R_drewN | apply Kd.R_drew)); exact Kd.R_mono HO177.out (fun _ hk => hk.2)))
     (case aS => exact (below_size (bl_ HB.out)))
     (case aL => have := LMc21.out; omega)
     intro v180 w31 ho hb hg hat
     rw [← Ny179.out] at ho
     replace HO174 := Aside0.mk (Kd.R_after (ok := (fun _ => True)) (by (with_reducible repeat (first | apply Kd.R_alloc | apply Kd.R_drewN | apply Kd.R_drew)); exact Kd.R_mono HO174.out (fun _ hk => ⟨trivial, by first | exact hk | exact (fun e_ => hk (e_.trans (own_len_ _ _ _ _ _)))⟩)) hg hat)
     replace HB := Aside0.mk (hb)
     have HO181 := Aside0.mk (ho)
     clear HO177
     clear ho hb hg hat
     obtain ⟨Ao33, co33, eo33⟩ := Kd.R_slice HO174.out
     (first | subst eo33 | (injection eo33 with f1_ f2_ f3_; have f4_ := f1_.symm; have f5_ := f3_.symm; clear f1_ f2_ f3_; subst f4_; subst f5_))
     refine hK.out _ _ (by first | exact hw178_0 | exact (HB.out.cell (World.block_lt_of_cell? w _ hw178_0)).trans hw178_0 | (obtain ⟨_, e_, h_⟩ := Kd.at_int HR0.out x4_1 (of_eq_true p178) (of_eq_true q178); cases e_; exact h_)) (fun hHeld => ?_)
     clear hK K
     refine norm_ (a' := ?_) ?_ ?_
     rotate_left
     · show Act.put _ (some 59) _ = _
       simp only [Act.put, z1_, z2_, z3_, i64_w, i32_w]
       rfl
     refine on_ HT_ 10 61 (B_ 2047 12) (fun K hK => ?_)
     refine Kd.R_append_rows_step (Kd.int .i64) (w0 := w) w.heap.size (by rfl) (.tmp 59) (.tmp 60) 24 3 (.int .i64 0) 8 rfl Try.underlying24 info3 rfl (by decide) (by omega) v180 y179 y172 _ _ _ (fun k_ => some k_ ≠ (.slice Ao33 y172.length co33 : Value).ownBlock) (fun _ => False) rfl rfl ?aO ?aR (fun _ _ h => h) (fun _ h => h.elim) ?aF ?aB ?aS ?aL ?_
     (case aR => exact ce_ ((Kd.R_reads' HO174.out).2.2))
     (case aB => exact (bl_ HB.out))
     (case aF => exact (fun k_ hk => Kd.fresh' (Kd.R_lt (re_ HO174.out)) k_ hk))
     (case aO => exact (re_ HO181.out))
     (case aS => exact (below_size (bl_ HB.out)))
     (case aL => have := LMc22.out; omega)
     intro v183 w32 ho hb hg hat
     rw [← Ny182.out] at ho
     replace HO174 := Aside0.mk (Kd.R_after (ok := (fun _ => True)) (re_ HO174.out) hg hat)
     replace HB := Aside0.mk (hb)
     have HO184 := Aside0.mk (ho)
     clear HO181
     clear ho hb hg hat
     refine hK.out _ _ (by first | exact hw178_0 | exact (HB.out.cell (World.block_lt_of_cell? w _ hw178_0)).trans hw178_0 | (obtain ⟨_, e_, h_⟩ := Kd.at_int HR0.out x4_1 (of_eq_true p178) (of_eq_true q178); cases e_; exact h_)) (fun hHeld => ?_)
     clear hK K
     refine norm_ (a' := ?_) ?_ ?_
     rotate_left
     · show Act.put _ (some 61) _ = _
       simp only [Act.put, z1_, z2_, z3_, i64_w, i32_w]
       rfl
     refine pu_ HT_ 11 3 (B_ 4095 12) ?_
     refine done_ (done_of HT_.out (by kernel_rfl)) ?_
     try go_wp2
     go_roundg k2
     case measure => have := HK1.out; have := HK2.out; omega
     case rel => exact ⟨(y182), (wrap64 (x4_1 + 1)), rs_, H', ⟨by have := HK1.out; have := HK2.out; omega⟩, ⟨by (with_reducible repeat (first | apply Kd.R_alloc | apply Kd.R_drewN | apply Kd.R_drew)); exact Kd.R_mono HO184.out (fun _ hk => trivial)⟩, ⟨bl_ HB.out⟩⟩
def spec_l3Minimal.l0 : Nat → List Int → List Int → Int → Option (List Int)
 | 0, _, _, _ => none
 | k + 1, x3, x4, x5 => if x5 < (x4.length : Int) then (if x5 = 0 then (if 0 ≤ x5 then (if x3.length < 17592186044416 then (spec_l3Minimal.l0 k (x3 ++ [rd x4 x5]) x4 (wrap64 (x5 + 1))) else (none)) else (none)) else (if 0 ≤ x5 then (if x5 ≤ (x4.length : Int) then ((spec_l3Table.f k (x4.take (x5 : Int).toNat) (rd x4 x5)).bind fun t220 => (if 0 ≤ (rd x4 x5) then (if (rd x4 x5) < (t220.length : Int) then (if (rdOf false t220 (rd x4 x5) = true) then (spec_l3Minimal.l0 k x3 x4 (wrap64 (x5 + 1))) else (if x3.length < 17592186044416 then (spec_l3Minimal.l0 k (x3 ++ [rd x4 x5]) x4 (wrap64 (x5 + 1))) else (none))) else (none)) else (none))) else (none)) else (none))) else (some x3)
def spec_l3Minimal.f (k : Nat) (l0 : List Int) : Option (List Int) := (spec_SortList.f k l0).bind fun t208 => (spec_l3Minimal.l0 k (([] : List Int)) t208 0)
theorem spec_l3Minimal.mono_l : ∀ k, (∀ y0 y1 y2, LeO (spec_l3Minimal.l0 k y0 y1 y2) (spec_l3Minimal.l0 (k + 1) y0 y1 y2))
 | 0 => fun _ _ _ r h => by simp [spec_l3Minimal.l0] at h
 | k + 1 => by
  have ih0 := spec_l3Minimal.mono_l k
  · intro y0 y1 y2
    unfold spec_l3Minimal.l0
    repeat' first
    | (with_reducible exact ih0 _ _ _)
    | (with_reducible exact spec_SortList.mono _ _)
    | (with_reducible exact spec_l3Table.mono _ _ _)
    | (with_reducible exact LeO.refl _)
    | (with_reducible exact LeO.none _)
    | (with_reducible refine LeO.ite ?_ ?_)
    | (with_reducible refine LeO.bind ?_ (fun _ => ?_))
    | exact ih0 _ _ _
    | exact LeO.none _
    | refine LeO.ite ?_ ?_
    | refine LeO.bind ?_ (fun _ => ?_)
theorem spec_l3Minimal.mono : ∀ a0 k, LeO (spec_l3Minimal.f k a0) (spec_l3Minimal.f (k + 1) a0) := by
 intro a0 k
 have ih0 := spec_l3Minimal.mono_l k
 unfold spec_l3Minimal.f
 repeat' first
  | (with_reducible exact ih0 _ _ _)
  | (with_reducible exact spec_SortList.mono _ _)
  | (with_reducible exact spec_l3Table.mono _ _ _)
  | (with_reducible exact LeO.refl _)
  | (with_reducible exact LeO.none _)
  | (with_reducible refine LeO.ite ?_ ?_)
  | (with_reducible refine LeO.bind ?_ (fun _ => ?_))
  | exact ih0 _ _ _
  | exact LeO.none _
  | refine LeO.ite ?_ ?_
  | refine LeO.bind ?_ (fun _ => ?_)
def spec_l3Minimal.T6 : Bool × List (List Nat × List Nat) := (true, [([], []), ([0], [0]), ([1], [1]), ([2], [2]), ([2], [2]), ([3, 4, 2], [2, 3, 4]), ([2], [2]), ([2], [2]), ([6, 7, 2], [2, 6, 7]), ([8, 2], [2, 8]), ([5, 9, 2, 2], [2, 5, 9]), ([2], [2]), ([2], [2]), ([11, 12, 2], [2, 11, 12]), ([13, 2], [2, 13]), ([10, 14, 2], [2, 10, 14]), ([15, 2], [2, 15]), ([16, 2], [2, 16]), ([2, 17], [2, 17])])
def spec_l3Minimal.B6 : List Nat := [0, 1, 3, 7, 7, 31, 7, 7, 199, 455, 1023, 7, 7, 6151, 14343, 32767, 65535, 131071, 262143]
theorem spec_l3Minimal.tab6 : rtab .any (opsOf Try.f45 6) = spec_l3Minimal.T6 := by kernel_rfl
theorem spec_l3Minimal.bits6 : waitsOk spec_l3Minimal.T6.2 spec_l3Minimal.B6 = true := by kernel_rfl
theorem spec_l3Minimal.calls (k : Nat) (A0 : Option Addr) (c0 : Nat) (l0 : List Int) (r : List Int) (w : World) (hr0 : Kd.C (Kd.int .i64) w A0 l0.length l0) (hc0 : l0.length ≤ c0) (h : spec_l3Minimal.f k l0 = some r) :
 Calls Try.prog 45 #[.slice A0 l0.length c0] w fun e w' => ∃ v0_ : Value, e = .returned (v0_) ∧ Kd.R (Kd.int .i64) 3 w' w.heap.size (fun _ => True) v0_ r ∧ Below w.heap.size w w' := by
 have HR0 := Aside0.mk hr0
 have HC0 := Aside0.mk hc0
 clear hr0 hc0
 have HB := Aside0.mk (Below.refl w.heap.size w)
 have H := h
 clear h
 unfold spec_l3Minimal.f at H
 obtain ⟨y205, hy205⟩ : ∃ y_ : List Int, y_ = (([] : List Int)) := ⟨_, rfl⟩
 replace H : ((spec_SortList.f k l0).bind fun t208 => (spec_l3Minimal.l0 k y205 t208 0)) = some r := by subst hy205; exact H
 have Ny205 := Aside0.mk hy205
 clear hy205
 obtain ⟨t208, A2, H⟩ := ob_ H
 have H' := Aside0.mk H
 clear H
 go_enter Try.func45, Try.ntmps45
 go_wp2_with (first | ((with_reducible refine gate_dst (N := 6) rfl ?_); refine Kd.R_lit (Kd.int .i64) _ 3 ?hg (N := 6) ?hd (xs := ([] : List Int)) (inner := []) (ok := fun _ => True) (okp := fun _ => True) ?hr ?hp (fun _ hk => hk) trivial (Below.refl _ _) (Nat.le_refl _) (by simp) ?_; (case hd => rfl); (case hg => rfl); (case hr => first | (go_simp; done) | (go_simp; rfl)); (case hp => exact (Reps.none _ _)); intro v206 w3 ho4 hb hg_ hnew_; clear hg_ hnew_; (first | rw [← Ny205.out] at ho4 | (simp only [Int.reduceToNat] at ho4; rw [← Ny205.out] at ho4)); have HO207 := Aside0.mk (Kd.R_lower ho4 (below_size (bl_ HB.out))); replace HB := bo_ HB hb; clear hb ho4) | ((with_reducible refine gate_callee (f := 68) rfl ?_); refine gL_ (some 8) Try.func68 #[.slice A0 l0.length c0] ?_; (with_reducible refine (spec_SortList.calls k _ _ l0 t208 _ ?side1 ?side2 A2.out).mono ?_); (case side1 => exact ch_ HR0 HB); (case side2 => exact HC0.out); rintro e w5 ⟨v209, rfl, ho0, hb⟩; refine ⟨_, rfl, ?_⟩; have HO210 := Aside0.mk (Kd.R_lower (Kd.R_new' ho0 (Kd.R_lt (re_ HO207.out))) (below_size (bl_ HB.out))); replace HO207 := Aside0.mk (Kd.R_elder' (re_ HO207.out) (Kd.R_base ho0) hb); replace HB := bo_ HB hb; (try clear hb); (try clear ho0)))
 go_loopg [3, 5] k (fun kq v3 v5 w' => ∃ (x3_1 : List Int) (x5_1 : Int), v5 = .int .i64 x5_1 ∧ Aside0 (spec_l3Minimal.l0 kq x3_1 t208 x5_1 = some r) ∧ Aside0 (kq ≤ k) ∧ Aside0 (Kd.R (Kd.int .i64) 3 w' w.heap.size (fun k_ => some k_ ≠ (v209 : Value).ownBlock) v3 x3_1) ∧ Aside0 (Kd.R (Kd.int .i64) 3 w' w.heap.size (fun k_ => some k_ ≠ (v3 : Value).ownBlock) v209 t208) ∧ Aside0 (Below w.heap.size w w'))
 case atStart => exact ⟨(y205), (0), rs_, H', ⟨Nat.le_refl _⟩, ⟨by (with_reducible repeat (first | apply Kd.R_alloc | apply Kd.R_drewN | apply Kd.R_drew)); exact Kd.R_mono HO207.out (fun _ hk => hk.2)⟩, ⟨by (with_reducible repeat (first | apply Kd.R_alloc | apply Kd.R_drewN | apply Kd.R_drew)); exact Kd.R_mono HO210.out (fun _ hk => hk.2)⟩, ⟨bl_ HB.out⟩⟩
 case round =>
  clear H'
  try clear p2
  try clear c4
  obtain ⟨x3_1, x5_1, rfl, HA, HK1, HO_3, HO_4, HB⟩ := hrel
  cases gk with
  | zero => exact absurd HA.out (by simp [spec_l3Minimal.l0])
  | succ k1 =>
   have H := HA.out
   clear HA
   simp only [spec_l3Minimal.l0] at H
   by_cases c6 : x5_1 < (t208.length : Int)
   rotate_left
   · rw [if_neg c6] at H
     have c6b0 : decide (x5_1 < (t208.length : Int)) = false := decide_eq_false c6
     clear c6
     obtain rfl := Option.some.inj H
     obtain ⟨Ao32, co32, eo32⟩ := Kd.R_slice HO_4.out
     subst eo32
     go_wp2
     go_ret
     exact ⟨_, rf_, by (with_reducible repeat (first | apply Kd.R_alloc | apply Kd.R_drewN | apply Kd.R_drew)); exact Kd.R_mono HO_3.out (fun _ hk => trivial), bl_ HB.out⟩
   rw [if_pos c6] at H
   have c6b0 : decide (x5_1 < (t208.length : Int)) = true := decide_eq_true c6
   clear c6
   by_cases c7 : x5_1 = 0
   · rw [if_pos c7] at H
     have c7b0 : (x5_1 == 0) = true := beq_iff_eq.mpr c7
     have c7b1 : (x5_1 != 0) = false := bne_eq_false_iff_eq.mpr c7
     clear c7
     by_cases c8 : 0 ≤ x5_1
     rotate_left
     · rw [if_neg c8] at H
       cases H
     rw [if_pos c8] at H
     have c8b0 : decide (0 ≤ x5_1) = true := decide_eq_true c8
     clear c8
     by_cases c9 : x3_1.length < 17592186044416
     rotate_left
     · rw [if_neg c9] at H
       cases H
     rw [if_pos c9] at H
     have LMc9 := Aside0.mk c9
     clear c9
     obtain ⟨y212, hy212⟩ : ∃ y_ : List Int, y_ = (x3_1 ++ [rd t208 x5_1]) := ⟨_, rfl⟩
     replace H : (spec_l3Minimal.l0 k1 y212 t208 (wrap64 (x5_1 + 1))) = some r := by subst hy212; exact H
     have Ny212 := Aside0.mk hy212
     clear hy212
     have H' := Aside0.mk H
     clear H
     obtain ⟨Ao10, co10, eo10⟩ := Kd.R_slice HO_4.out
     subst eo10
     try go_wp2
     replace HO_3 := Aside0.mk (Kd.R_drew HO_3.out)
     replace HO_4 := Aside0.mk (Kd.R_drew HO_4.out)
     replace HB := Aside0.mk (below_drew1 HB.out)
     refine start_ (n := 19) (S := fun w' => True) (ds := []) (B_ 0 19) (by kernel_rfl) rfl rfl trivial (fun hHeld => ?_); refine with_tabW spec_l3Minimal.tab6 spec_l3Minimal.bits6 (fun HT_ HW_ => ?_)
     generalize wr.drew = w11 at HO_3 HO_4 HB hHeld ⊢
     refine pu_ HT_ 0 15 (B_ 1 19) ?_
     refine pu_ HT_ 1 16 (B_ 3 19) ?_
     refine pu_ HT_ 2 17 (B_ 7 19) ?_
     refine pn_ HT_ 3 18 (B_ 15 19) ?_
     refine pn_ HT_ 4 19 (B_ 31 19) ?_
     refine pn_ HT_ 5 20 (B_ 63 19) ?_
     refine pn_ HT_ 6 21 (B_ 127 19) ?_
     refine pn_ HT_ 7 22 (B_ 255 19) ?_
     refine pn_ HT_ 8 23 (B_ 511 19) ?_
     refine pn_ HT_ 9 24 (B_ 1023 19) ?_
     refine pn_ HT_ 10 25 (B_ 2047 19) ?_
     refine pn_ HT_ 11 26 (B_ 4095 19) ?_
     refine pn_ HT_ 12 27 (B_ 8191 19) ?_
     refine pn_ HT_ 13 28 (B_ 16383 19) ?_
     refine pn_ HT_ 14 29 (B_ 32767 19) ?_
     refine pn_ HT_ 15 30 (B_ 65535 19) ?_
     refine pn_ HT_ 16 31 (B_ 131071 19) ?_
     refine pn_ HT_ 17 32 (B_ 262143 19) ?_
     refine pu_ HT_ 18 33 (B_ 524287 19) ?_
     refine done_ (done_of HT_.out (by kernel_rfl)) ?_
     have p211 : 0 ≤ (x5_1 : Int) := od_
     have q211 : x5_1 < (t208.length : Int) := od_
     obtain ⟨ad211, e211, hx211_0⟩ := Kd.at_int (Kd.R_reads' HO_4.out).2.2 x5_1 p211 q211
     cases e211
     replace p211 := eq_true p211
     replace q211 := eq_true q211
     try go_wp2_with (first | ((with_reducible refine gate_builtin (b := .append) (xs := #[.tmp 34, .tmp 39]) rfl ?_); at_builtin; refine Kd.R_append (Kd.int .i64) (w0 := w) w.heap.size rfl (.tmp 34) (.tmp 39) 24 3 (.int .i64 0) 8 rfl Try.underlying24 info3 rfl (by decide) (by omega) u3 x3_1 (rd t208 x5_1) [.int .i64 (rd t208 x5_1)] (fun k_ => some k_ ≠ (.slice (some ad211) t208.length co10 : Value).ownBlock) (fun _ => False) rfl rfl ?aP (fun _ hk => hk.elim) ?aF ?aO ?aB ?aS ?aL ?_; (case aP => exact rfl); (case aB => exact (bl_ HB.out)); (case aF => exact (fun k_ hk => Kd.fresh' (Kd.R_lt (re_ HO_4.out)) k_ hk)); (case aO => exact (re_ HO_3.out)); (case aS => exact (below_size (bl_ HB.out))); (case aL => have := LMc9.out; omega); intro v213 w12 ho hb hg hat; rw [← Ny212.out] at ho; replace HO_4 := Aside0.mk (Kd.R_after (ok := (fun _ => True)) (by (with_reducible repeat (first | apply Kd.R_alloc | apply Kd.R_drewN | apply Kd.R_drew)); exact Kd.R_mono HO_4.out (fun _ hk => ⟨trivial, hk⟩)) hg hat); replace HB := Aside0.mk (hb); have HO214 := Aside0.mk (ho); clear HO_3; clear ho hb hg hat))
     go_roundg k1
     case measure => have := HK1.out; omega
     case rel => exact ⟨(y212), (wrap64 (x5_1 + 1)), rs_, H', ⟨by have := HK1.out; omega⟩, ⟨re_ HO214.out⟩, ⟨by (with_reducible repeat (first | apply Kd.R_alloc | apply Kd.R_drewN | apply Kd.R_drew)); exact Kd.R_mono HO_4.out (fun _ hk => hk.2)⟩, ⟨bl_ HB.out⟩⟩
   rw [if_neg c7] at H
   have c7b0 : (x5_1 == 0) = false := beq_eq_false_iff_ne.mpr c7
   have c7b1 : (x5_1 != 0) = true := bne_iff_ne.mpr c7
   by_cases c13 : 0 ≤ x5_1
   rotate_left
   · rw [if_neg c13] at H
     cases H
   rw [if_pos c13] at H
   have c13b0 := eq_true c13
   have c13b1 : decide (0 ≤ x5_1) = true := decide_eq_true c13
   clear c13
   by_cases c14 : x5_1 ≤ (t208.length : Int)
   rotate_left
   · rw [if_neg c14] at H
     cases H
   rw [if_pos c14] at H
   have c14b0 := eq_true c14
   have c14b1 : decide (x5_1 ≤ (t208.length : Int)) = true := decide_eq_true c14
   clear c14
   obtain ⟨y215, hy215⟩ : ∃ y_ : List Int, y_ = (t208.take (x5_1 : Int).toNat) := ⟨_, rfl⟩
   replace H : ((spec_l3Table.f k1 y215 (rd t208 x5_1)).bind fun t220 => (if 0 ≤ (rd t208 x5_1) then (if (rd t208 x5_1) < (t220.length : Int) then (if (rdOf false t220 (rd t208 x5_1) = true) then (spec_l3Minimal.l0 k1 x3_1 t208 (wrap64 (x5_1 + 1))) else (if x3_1.length < 17592186044416 then (spec_l3Minimal.l0 k1 (x3_1 ++ [rd t208 x5_1]) t208 (wrap64 (x5_1 + 1))) else (none))) else (none)) else (none))) = some r := by subst hy215; exact H
   have Ny215 := Aside0.mk hy215
   clear hy215
   obtain ⟨t220, A15, H⟩ := ob_ H
   by_cases c16 : 0 ≤ (rd t208 x5_1)
   rotate_left
   · rw [if_neg c16] at H
     cases H
   rw [if_pos c16] at H
   have c16b0 : decide (0 ≤ (rd t208 x5_1)) = true := decide_eq_true c16
   clear c16
   by_cases c17 : (rd t208 x5_1) < (t220.length : Int)
   rotate_left
   · rw [if_neg c17] at H
     cases H
   rw [if_pos c17] at H
   have c17b0 : decide ((rd t208 x5_1) < (t220.length : Int)) = true := decide_eq_true c17
   clear c17
   obtain ⟨bq18, hbq18⟩ : ∃ b_ : Bool, b_ = (rdOf false t220 (rd t208 x5_1)) := ⟨_, rfl⟩
   replace H : (if (bq18 = true) then (spec_l3Minimal.l0 k1 x3_1 t208 (wrap64 (x5_1 + 1))) else (if x3_1.length < 17592186044416 then (spec_l3Minimal.l0 k1 (x3_1 ++ [rd t208 x5_1]) t208 (wrap64 (x5_1 + 1))) else (none))) = some r := by rw [← hbq18] at H; exact H
   have Nbq18 := Aside0.mk hbq18
   clear hbq18
   by_cases c19 : (bq18 = true)
   · subst c19
     rw [if_pos rfl] at H
     have H' := Aside0.mk H
     clear H
     obtain ⟨Ao20, co20, eo20⟩ := Kd.R_slice HO_4.out
     subst eo20
     try go_wp2
     replace HO_3 := Aside0.mk (Kd.R_drew HO_3.out)
     replace HO_4 := Aside0.mk (Kd.R_drew HO_4.out)
     replace HB := Aside0.mk (below_drew1 HB.out)
     have q22 : (x5_1 : Int) ≤ ((t208.length : Int) : Int) := od_
     obtain ⟨i022, hi022, _, hsz22, _⟩ := info_parts info3
     have hroom22 : t208.length ≤ co20 := (Kd.R_reads' HO_4.out).2.1
     have hC22 : Kd.C (Kd.int .i64) _ Ao20 t208.length t208 := (Kd.R_reads' HO_4.out).2.2
     have hcut22 := cut_to (P := Try.prog) 24 3 .i64 Try.underlying24 hi022 Ao20 t208.length co20 x5_1 (od_) q22 hroom22
     have hr22 := Kd.C_take (m := (x5_1 : Int).toNat) hC22 (by omega)
     have hy22 : y215.length = (x5_1 : Int).toNat := (by rw [Ny215.out, List.length_take]; omega)
     rw [← Ny215.out] at hr22
     rw [← hy22] at hcut22
     have HR218 := Aside0.mk hr22
     have HC218 := Aside0.mk (show y215.length ≤ co20 from by omega)
     clear hr22 hC22 hroom22 hi022 hsz22
     have KY22 := Aside0.mk hy22
     clear hy22
     have KL22 := Aside0.mk (show (x5_1 : Int).toNat ≤ t208.length from by omega)
     replace q22 := eq_true q22
     have p219 : 0 ≤ (x5_1 : Int) := od_
     have q219 : x5_1 < (t208.length : Int) := od_
     obtain ⟨ad219, e219, hx219_0⟩ := Kd.at_int (Kd.R_reads' HO_4.out).2.2 x5_1 p219 q219
     cases e219
     replace p219 := eq_true p219
     replace q219 := eq_true q219
     have p223 : 0 ≤ (x5_1 : Int) := od_
     have q223 : x5_1 < (t208.length : Int) := od_
     obtain ⟨ad223, e223, hx223_0⟩ := Kd.at_int (Kd.R_reads' HO_4.out).2.2 x5_1 p223 q223
     obtain rfl : ad219 = ad223 := (by injection e223)
     replace p223 := eq_true p223
     replace q223 := eq_true q223
     refine start_ (n := 19) (S := fun w' => w'.cell? (ad219.add (x5_1).toNat) = some (.int .i64 (rd t208 x5_1)) ∧ w'.cell? (ad219.add (x5_1).toNat) = some (.int .i64 (rd t208 x5_1)) ∧ True) (ds := []) (B_ 0 19) (by kernel_rfl) rfl rfl ⟨hx219_0, hx223_0, trivial⟩ (fun hHeld => ?_); refine with_tabW spec_l3Minimal.tab6 spec_l3Minimal.bits6 (fun HT_ HW_ => ?_)
     generalize wr.drew = w21 at HO_3 HO_4 HB HR218 hx219_0 hx223_0 hHeld ⊢
     refine pu_ HT_ 0 15 (B_ 1 19) ?_
     refine pu_ HT_ 1 16 (B_ 3 19) ?_
     refine pu_ HT_ 2 17 (B_ 7 19) ?_
     refine pu_ HT_ 3 18 (B_ 15 19) ?_
     refine pu_ HT_ 4 19 (B_ 31 19) ?_
     refine pu_ HT_ 5 20 (B_ 63 19) ?_
     refine pu_ HT_ 6 21 (B_ 127 19) ?_
     refine pu_ HT_ 7 22 (B_ 255 19) ?_
     refine pu_ HT_ 8 23 (B_ 511 19) ?_
     refine pu_ HT_ 11 26 (B_ 2559 19) ?_
     refine pu_ HT_ 12 27 (B_ 6655 19) ?_
     refine pu_ HT_ 13 28 (B_ 14847 19) ?_
     refine tk3_ HT_ HW_ hHeld 9 24 (B_ 15359 19) ?_
     refine tk3_ HT_ HW_ hHeld 14 29 (B_ 31743 19) ?_
     refine on_ HT_ 10 25 (B_ 32767 19) (fun K hK => ?_)
     refine goes_ Try.func64 (by kernel_rfl) rfl #[.slice (some ad219) y215.length co20, .int .i64 (rd t208 x5_1)] (by rfl) rfl rfl (by (try simp only [List.map_toArray, List.map_cons, List.map_nil]); first | done | rfl | (simp only [List.length_drop, List.length_take]; rfl)) ?_
     with_reducible refine (spec_l3Table.calls k1 _ _ y215 (rd t208 x5_1) t220 _ ?side1 ?side2 A15.out).mono ?_
     (case side1 => repeat (first | exact (by repeat (first | (with_reducible exact HR218.out) | (with_reducible refine Kd.C_alloc ?_ _) | (with_reducible refine Kd.C_drewN ?_ _) | (with_reducible refine Kd.C_drew ?_) | exact HR218.out)) | (with_reducible refine Kd.C_alloc ?_ _) | (with_reducible refine Kd.C_drewN ?_ _) | (with_reducible refine Kd.C_drew ?_)))
     (case side2 => exact HC218.out)
     rintro e w23 ⟨v221, rfl, ho0, hb⟩
     have HS0_ := (hb.cell (World.block_lt_of_cell? _ _ (hHeld.1))).trans (hHeld.1)
     have HS1_ := (hb.cell (World.block_lt_of_cell? _ _ (hHeld.2.1))).trans (hHeld.2.1)
     refine ⟨_, rfl, ?_⟩
     replace HO_3 := Aside0.mk (Kd.R_below (re_ HO_3.out) hb)
     replace HO_4 := Aside0.mk (Kd.R_below (re_ HO_4.out) hb)
     have HO222 := Aside0.mk (Kd.R_lower ho0 (below_size (bl_ HB.out)))
     replace HR218 := Aside0.mk (Kd.C_below (by repeat (first | (with_reducible exact HR218.out) | (with_reducible refine Kd.C_alloc ?_ _) | (with_reducible refine Kd.C_drewN ?_ _) | (with_reducible refine Kd.C_drew ?_) | exact HR218.out)) hb)
     replace HB := bo_ HB hb
     (try clear hb)
     (try clear ho0)
     obtain ⟨Ao24, co24, eo24⟩ := Kd.R_slice HO222.out
     (first | subst eo24 | (injection eo24 with f1_ f2_ f3_; have f4_ := f1_.symm; have f5_ := f3_.symm; clear f1_ f2_ f3_; subst f4_; subst f5_))
     have p224 : 0 ≤ ((rd t208 x5_1) : Int) := od_
     have q224 : (rd t208 x5_1) < (t220.length : Int) := od_
     obtain ⟨ad224, e224, hx224_0⟩ := Kd.at_bool (Kd.R_reads' HO222.out).2.2 (rd t208 x5_1) p224 q224
     (try rw [← Nbq18.out] at hx224_0)
     cases e224
     replace p224 := eq_true p224
     replace q224 := eq_true q224
     refine hK.out _ _ ⟨HS0_, HS1_, trivial⟩ (fun _ => ?_); refine restart_ (S' := fun w' => w'.cell? (ad219.add (x5_1).toNat) = some (.int .i64 (rd t208 x5_1)) ∧ w'.cell? (ad219.add (x5_1).toNat) = some (.int .i64 (rd t208 x5_1)) ∧ w'.cell? (ad224.add ((rd t208 x5_1)).toNat) = some (.bool true)) (fun _ h => ⟨h.1, h.2.1, trivial⟩) ⟨HS0_, HS1_, hx224_0⟩ (fun hHeld => ?_)
     clear hK K
     refine norm_ (a' := ?_) ?_ ?_
     rotate_left
     · show Act.put _ (some 25) _ = _
       simp only [Act.put, z1_, z2_, z3_, i64_w, i32_w]
       rfl
     refine pu_ HT_ 15 30 (B_ 65535 19) ?_
     refine tk3_ HT_ HW_ hHeld 16 31 (B_ 131071 19) ?_
     refine pu_ HT_ 17 32 (B_ 262143 19) ?_
     refine pu_ HT_ 18 33 (B_ 524287 19) ?_
     refine done_ (done_of HT_.out (by kernel_rfl)) ?_
     try go_wp2
     go_roundg k1
     case measure => have := HK1.out; omega
     case rel => exact ⟨(x3_1), (wrap64 (x5_1 + 1)), rs_, H', ⟨by have := HK1.out; omega⟩, ⟨re_ HO_3.out⟩, ⟨re_ HO_4.out⟩, ⟨bl_ HB.out⟩⟩
   replace c19 := Bool.eq_false_iff.mpr c19
   subst c19
   rw [if_neg (show ¬ (false = true) by decide)] at H
   by_cases c25 : x3_1.length < 17592186044416
   rotate_left
   · rw [if_neg c25] at H
     cases H
   rw [if_pos c25] at H
   have LMc25 := Aside0.mk c25
   clear c25
   obtain ⟨y226, hy226⟩ : ∃ y_ : List Int, y_ = (x3_1 ++ [rd t208 x5_1]) := ⟨_, rfl⟩
   replace H : (spec_l3Minimal.l0 k1 y226 t208 (wrap64 (x5_1 + 1))) = some r := by subst hy226; exact H
   have Ny226 := Aside0.mk hy226
   clear hy226
   have H' := Aside0.mk H
   clear H
   obtain ⟨Ao26, co26, eo26⟩ := Kd.R_slice HO_4.out
   subst eo26
   try go_wp2
   replace HO_3 := Aside0.mk (Kd.R_drew HO_3.out)
   replace HO_4 := Aside0.mk (Kd.R_drew HO_4.out)
   replace HB := Aside0.mk (below_drew1 HB.out)
   have q28 : (x5_1 : Int) ≤ ((t208.length : Int) : Int) := od_
   obtain ⟨i028, hi028, _, hsz28, _⟩ := info_parts info3
   have hroom28 : t208.length ≤ co26 := (Kd.R_reads' HO_4.out).2.1
   have hC28 : Kd.C (Kd.int .i64) _ Ao26 t208.length t208 := (Kd.R_reads' HO_4.out).2.2
   have hcut28 := cut_to (P := Try.prog) 24 3 .i64 Try.underlying24 hi028 Ao26 t208.length co26 x5_1 (od_) q28 hroom28
   have hr28 := Kd.C_take (m := (x5_1 : Int).toNat) hC28 (by omega)
   have hy28 : y215.length = (x5_1 : Int).toNat := (by rw [Ny215.out, List.length_take]; omega)
   rw [← Ny215.out] at hr28
   rw [← hy28] at hcut28
   have HR218 := Aside0.mk hr28
   have HC218 := Aside0.mk (show y215.length ≤ co26 from by omega)
   clear hr28 hC28 hroom28 hi028 hsz28
   have KY28 := Aside0.mk hy28
   clear hy28
   have KL28 := Aside0.mk (show (x5_1 : Int).toNat ≤ t208.length from by omega)
   replace q28 := eq_true q28
   have p219 : 0 ≤ (x5_1 : Int) := od_
   have q219 : x5_1 < (t208.length : Int) := od_
   obtain ⟨ad219, e219, hx219_0⟩ := Kd.at_int (Kd.R_reads' HO_4.out).2.2 x5_1 p219 q219
   cases e219
   replace p219 := eq_true p219
   replace q219 := eq_true q219
   have p223 : 0 ≤ (x5_1 : Int) := od_
   have q223 : x5_1 < (t208.length : Int) := od_
   obtain ⟨ad223, e223, hx223_0⟩ := Kd.at_int (Kd.R_reads' HO_4.out).2.2 x5_1 p223 q223
   obtain rfl : ad219 = ad223 := (by injection e223)
   replace p223 := eq_true p223
   replace q223 := eq_true q223
   refine start_ (n := 19) (S := fun w' => w'.cell? (ad219.add (x5_1).toNat) = some (.int .i64 (rd t208 x5_1)) ∧ w'.cell? (ad219.add (x5_1).toNat) = some (.int .i64 (rd t208 x5_1)) ∧ True) (ds := []) (B_ 0 19) (by kernel_rfl) rfl rfl ⟨hx219_0, hx223_0, trivial⟩ (fun hHeld => ?_); refine with_tabW spec_l3Minimal.tab6 spec_l3Minimal.bits6 (fun HT_ HW_ => ?_)
   generalize wr.drew = w27 at HO_3 HO_4 HB HR218 hx219_0 hx223_0 hHeld ⊢
   refine pu_ HT_ 0 15 (B_ 1 19) ?_
   refine pu_ HT_ 1 16 (B_ 3 19) ?_
   refine pu_ HT_ 2 17 (B_ 7 19) ?_
   refine pu_ HT_ 3 18 (B_ 15 19) ?_
   refine pu_ HT_ 4 19 (B_ 31 19) ?_
   refine pu_ HT_ 5 20 (B_ 63 19) ?_
   refine pu_ HT_ 6 21 (B_ 127 19) ?_
   refine pu_ HT_ 7 22 (B_ 255 19) ?_
   refine pu_ HT_ 8 23 (B_ 511 19) ?_
   refine pu_ HT_ 11 26 (B_ 2559 19) ?_
   refine pu_ HT_ 12 27 (B_ 6655 19) ?_
   refine pu_ HT_ 13 28 (B_ 14847 19) ?_
   refine tk3_ HT_ HW_ hHeld 9 24 (B_ 15359 19) ?_
   refine tk3_ HT_ HW_ hHeld 14 29 (B_ 31743 19) ?_
   refine on_ HT_ 10 25 (B_ 32767 19) (fun K hK => ?_)
   refine goes_ Try.func64 (by kernel_rfl) rfl #[.slice (some ad219) y215.length co26, .int .i64 (rd t208 x5_1)] (by rfl) rfl rfl (by (try simp only [List.map_toArray, List.map_cons, List.map_nil]); first | done | rfl | (simp only [List.length_drop, List.length_take]; rfl)) ?_
   with_reducible refine (spec_l3Table.calls k1 _ _ y215 (rd t208 x5_1) t220 _ ?side1 ?side2 A15.out).mono ?_
   (case side1 => repeat (first | exact (by repeat (first | (with_reducible exact HR218.out) | (with_reducible refine Kd.C_alloc ?_ _) | (with_reducible refine Kd.C_drewN ?_ _) | (with_reducible refine Kd.C_drew ?_) | exact HR218.out)) | (with_reducible refine Kd.C_alloc ?_ _) | (with_reducible refine Kd.C_drewN ?_ _) | (with_reducible refine Kd.C_drew ?_)))
   (case side2 => exact HC218.out)
   rintro e w29 ⟨v221, rfl, ho0, hb⟩
   have HS0_ := (hb.cell (World.block_lt_of_cell? _ _ (hHeld.1))).trans (hHeld.1)
   have HS1_ := (hb.cell (World.block_lt_of_cell? _ _ (hHeld.2.1))).trans (hHeld.2.1)
   refine ⟨_, rfl, ?_⟩
   replace HO_3 := Aside0.mk (Kd.R_below (re_ HO_3.out) hb)
   replace HO_4 := Aside0.mk (Kd.R_below (re_ HO_4.out) hb)
   have HO222 := Aside0.mk (Kd.R_lower ho0 (below_size (bl_ HB.out)))
   replace HR218 := Aside0.mk (Kd.C_below (by repeat (first | (with_reducible exact HR218.out) | (with_reducible refine Kd.C_alloc ?_ _) | (with_reducible refine Kd.C_drewN ?_ _) | (with_reducible refine Kd.C_drew ?_) | exact HR218.out)) hb)
   replace HB := bo_ HB hb
   (try clear hb)
   (try clear ho0)
   obtain ⟨Ao30, co30, eo30⟩ := Kd.R_slice HO222.out
   (first | subst eo30 | (injection eo30 with f1_ f2_ f3_; have f4_ := f1_.symm; have f5_ := f3_.symm; clear f1_ f2_ f3_; subst f4_; subst f5_))
   have p224 : 0 ≤ ((rd t208 x5_1) : Int) := od_
   have q224 : (rd t208 x5_1) < (t220.length : Int) := od_
   obtain ⟨ad224, e224, hx224_0⟩ := Kd.at_bool (Kd.R_reads' HO222.out).2.2 (rd t208 x5_1) p224 q224
   (try rw [← Nbq18.out] at hx224_0)
   cases e224
   replace p224 := eq_true p224
   replace q224 := eq_true q224
   refine hK.out _ _ ⟨HS0_, HS1_, trivial⟩ (fun _ => ?_); refine restart_ (S' := fun w' => w'.cell? (ad219.add (x5_1).toNat) = some (.int .i64 (rd t208 x5_1)) ∧ w'.cell? (ad219.add (x5_1).toNat) = some (.int .i64 (rd t208 x5_1)) ∧ w'.cell? (ad224.add ((rd t208 x5_1)).toNat) = some (.bool false)) (fun _ h => ⟨h.1, h.2.1, trivial⟩) ⟨HS0_, HS1_, hx224_0⟩ (fun hHeld => ?_)
   clear hK K
   refine norm_ (a' := ?_) ?_ ?_
   rotate_left
   · show Act.put _ (some 25) _ = _
     simp only [Act.put, z1_, z2_, z3_, i64_w, i32_w]
     rfl
   refine pu_ HT_ 15 30 (B_ 65535 19) ?_
   refine tk3_ HT_ HW_ hHeld 16 31 (B_ 131071 19) ?_
   refine pu_ HT_ 17 32 (B_ 262143 19) ?_
   refine pu_ HT_ 18 33 (B_ 524287 19) ?_
   refine done_ (done_of HT_.out (by kernel_rfl)) ?_
   have p225 : 0 ≤ (x5_1 : Int) := od_
   have q225 : x5_1 < (t208.length : Int) := od_
   obtain ⟨ad225, e225, hx225_0⟩ := Kd.at_int (Kd.R_reads' HO_4.out).2.2 x5_1 p225 q225
   obtain rfl : ad219 = ad225 := (by injection e225)
   replace p225 := eq_true p225
   replace q225 := eq_true q225
   try go_wp2_with (first | ((with_reducible refine gate_builtin (b := .append) (xs := #[.tmp 34, .tmp 39]) rfl ?_); at_builtin; refine Kd.R_append (Kd.int .i64) (w0 := w) w.heap.size rfl (.tmp 34) (.tmp 39) 24 3 (.int .i64 0) 8 rfl Try.underlying24 info3 rfl (by decide) (by omega) u3 x3_1 (rd t208 x5_1) [.int .i64 (rd t208 x5_1)] (fun k_ => some k_ ≠ (.slice (some ad219) t208.length co26 : Value).ownBlock) (fun _ => False) rfl rfl ?aP (fun _ hk => hk.elim) ?aF ?aO ?aB ?aS ?aL ?_; (case aP => exact rfl); (case aB => exact (bl_ HB.out)); (case aF => exact (fun k_ hk => Kd.fresh' (Kd.R_lt (re_ HO_4.out)) k_ hk)); (case aO => exact (re_ HO_3.out)); (case aS => exact (below_size (bl_ HB.out))); (case aL => have := LMc25.out; omega); intro v227 w31 ho hb hg hat; rw [← Ny226.out] at ho; replace HO222 := Aside0.mk (Kd.R_over' (re_ HO222.out) (Kd.R_typed (re_ HO_3.out)) (by decide) hg); replace HB := Aside0.mk (hb); replace HR218 := Aside0.mk ((show Kd.C (Kd.int .i64) w31 (some ad219) y215.length y215 from by rw [Ny215.out]; exact Kd.C_take (m := (x5_1 : Int).toNat) ((Kd.R_reads' (Kd.R_after (ok := (fun _ => True)) (by (with_reducible repeat (first | apply Kd.R_alloc | apply Kd.R_drewN | apply Kd.R_drew)); exact Kd.R_mono HO_4.out (fun _ hk => ⟨trivial, hk⟩)) hg hat)).2.2) KL28.out)); replace HO_4 := Aside0.mk (Kd.R_after (ok := (fun _ => True)) (by (with_reducible repeat (first | apply Kd.R_alloc | apply Kd.R_drewN | apply Kd.R_drew)); exact Kd.R_mono HO_4.out (fun _ hk => ⟨trivial, hk⟩)) hg hat); have HO228 := Aside0.mk (ho); clear HO_3; clear ho hb hg hat))
   go_roundg k1
   case measure => have := HK1.out; omega
   case rel => exact ⟨(y226), (wrap64 (x5_1 + 1)), rs_, H', ⟨by have := HK1.out; omega⟩, ⟨re_ HO228.out⟩, ⟨by (with_reducible repeat (first | apply Kd.R_alloc | apply Kd.R_drewN | apply Kd.R_drew)); exact Kd.R_mono HO_4.out (fun _ hk => hk.2)⟩, ⟨bl_ HB.out⟩⟩
def spec_IsAscending.l0 : Nat → List Int → Int → Option (Bool)
 | 0, _, _ => none
 | k + 1, x0, x3 => if x3 < (x0.length : Int) then (if 0 ≤ (wrap64 (x3 - 1)) then (if (wrap64 (x3 - 1)) < (x0.length : Int) then (if 0 ≤ x3 then (if (rd x0 (wrap64 (x3 - 1))) ≥ (rd x0 x3) then (some false) else (spec_IsAscending.l0 k x0 (wrap64 (x3 + 1)))) else (none)) else (none)) else (none)) else (some true)
def spec_IsAscending.f (k : Nat) (l0 : List Int) : Option (Bool) := spec_IsAscending.l0 k l0 1
theorem spec_IsAscending.mono_l : ∀ k, (∀ y0 y1, LeO (spec_IsAscending.l0 k y0 y1) (spec_IsAscending.l0 (k + 1) y0 y1))
 | 0 => fun _ _ r h => by simp [spec_IsAscending.l0] at h
 | k + 1 => by
  have ih0 := spec_IsAscending.mono_l k
  · intro y0 y1
    unfold spec_IsAscending.l0
    repeat' first
    | (with_reducible exact ih0 _ _)
    | (with_reducible exact LeO.refl _)
    | (with_reducible exact LeO.none _)
    | (with_reducible refine LeO.ite ?_ ?_)
    | (with_reducible refine LeO.bind ?_ (fun _ => ?_))
    | exact ih0 _ _
    | exact LeO.none _
    | refine LeO.ite ?_ ?_
    | refine LeO.bind ?_ (fun _ => ?_)
theorem spec_IsAscending.mono : ∀ a0 k, LeO (spec_IsAscending.f k a0) (spec_IsAscending.f (k + 1) a0) := by
 intro a0 k
 have ih0 := spec_IsAscending.mono_l k
 unfold spec_IsAscending.f
 repeat' first
  | (with_reducible exact ih0 _ _)
  | (with_reducible exact LeO.refl _)
  | (with_reducible exact LeO.none _)
  | (with_reducible refine LeO.ite ?_ ?_)
  | (with_reducible refine LeO.bind ?_ (fun _ => ?_))
  | exact ih0 _ _
  | exact LeO.none _
  | refine LeO.ite ?_ ?_
  | refine LeO.bind ?_ (fun _ => ?_)
theorem spec_IsAscending.calls (k : Nat) (A0 : Option Addr) (c0 : Nat) (l0 : List Int) (r : Bool) (w : World) (hr0 : Kd.C (Kd.int .i64) w A0 l0.length l0) (hc0 : l0.length ≤ c0) (h : spec_IsAscending.f k l0 = some r) :
 Calls Try.prog 66 #[.slice A0 l0.length c0] w fun e w' => e = .returned (.bool r) ∧ Drawn0 w w' := by
 have HR0 := Aside0.mk hr0
 have HC0 := Aside0.mk hc0
 clear hr0 hc0
 have H := h
 clear h
 unfold spec_IsAscending.f at H
 have H' := Aside0.mk H
 clear H
 go_enter Try.func66, Try.ntmps66
 go_wp2
 repeat (go_quiet (fail); try go_wp2)
 go_loopg [3] k (fun kq v3 w' => ∃ (x3_1 : Int), v3 = .int .i64 x3_1 ∧ Aside0 (spec_IsAscending.l0 kq l0 x3_1 = some r) ∧ Aside0 (kq ≤ k) ∧ Drawn0 w w')
 case atStart => exact ⟨(1), rs_, H', ⟨Nat.le_refl _⟩, by repeat (first | exact Drawn0.refl _ | apply Drawn0.step)⟩
 case round =>
  clear H'
  obtain ⟨x3_1, rfl, HA, HK1, ⟨m1, rfl⟩⟩ := hrel
  cases gk with
  | zero => exact absurd HA.out (by simp [spec_IsAscending.l0])
  | succ k1 =>
   have H := HA.out
   clear HA
   simp only [spec_IsAscending.l0] at H
   by_cases c2 : x3_1 < (l0.length : Int)
   rotate_left
   · rw [if_neg c2] at H
     have c2b0 : decide (x3_1 < (l0.length : Int)) = false := decide_eq_false c2
     clear c2
     obtain rfl := Option.some.inj H
     go_wp2
     repeat (go_quiet (fail); try go_wp2)
     go_ret
     exact ⟨by first | rfl | (simp; done) | (simp [*]; done), by repeat (first | exact Drawn0.refl _ | apply Drawn0.step)⟩
   rw [if_pos c2] at H
   have c2b0 : decide (x3_1 < (l0.length : Int)) = true := decide_eq_true c2
   clear c2
   obtain ⟨ji3, hji3⟩ : ∃ j_ : Int, (wrap64 (x3_1 - 1)) = j_ := ⟨_, rfl⟩
   replace H : (if 0 ≤ (ji3) then (if (ji3) < (l0.length : Int) then (if 0 ≤ x3_1 then (if (rd l0 (ji3)) ≥ (rd l0 x3_1) then (some false) else (spec_IsAscending.l0 k1 l0 (wrap64 (x3_1 + 1)))) else (none)) else (none)) else (none)) = some r := by first | (rw [hji3] at H; exact H) | (simp only [hji3] at H ⊢; exact H)
   have hji3w : (IntKind.i64.wrap (x3_1 - 1)) = ji3 := (i64_w _).trans hji3
   by_cases c4 : 0 ≤ (ji3)
   rotate_left
   · rw [if_neg c4] at H
     cases H
   rw [if_pos c4] at H
   have c4b0 : decide (0 ≤ (ji3)) = true := decide_eq_true c4
   clear c4
   by_cases c5 : (ji3) < (l0.length : Int)
   rotate_left
   · rw [if_neg c5] at H
     cases H
   rw [if_pos c5] at H
   have c5b0 : decide ((ji3) < (l0.length : Int)) = true := decide_eq_true c5
   clear c5
   by_cases c6 : 0 ≤ x3_1
   rotate_left
   · rw [if_neg c6] at H
     cases H
   rw [if_pos c6] at H
   have c6b0 : decide (0 ≤ x3_1) = true := decide_eq_true c6
   clear c6
   by_cases c7 : (rd l0 (ji3)) ≥ (rd l0 x3_1)
   · rw [if_pos c7] at H
     have c7b0 : decide ((rd l0 x3_1) ≤ (rd l0 (ji3))) = true := decide_eq_true c7
     clear c7
     obtain rfl := Option.some.inj H
     have p229 : 0 ≤ ((ji3) : Int) := od_
     have q229 : (ji3) < (l0.length : Int) := od_
     obtain ⟨ad229, e229, hx229_0⟩ := Kd.at_int HR0.out (ji3) p229 q229
     cases e229
     replace p229 := eq_true p229
     replace q229 := eq_true q229
     have p230 : 0 ≤ (x3_1 : Int) := od_
     have q230 : x3_1 < (l0.length : Int) := od_
     obtain ⟨ad230, e230, hx230_0⟩ := Kd.at_int HR0.out x3_1 p230 q230
     obtain rfl : ad229 = ad230 := (by injection e230)
     replace p230 := eq_true p230
     replace q230 := eq_true q230
     go_wp2
     repeat (go_quiet (fail); try go_wp2)
     go_ret
     exact ⟨by first | rfl | (simp; done) | (simp only [← hji3] <;> (first | rfl | simp)) | (simp [*]; done), by repeat (first | exact Drawn0.refl _ | apply Drawn0.step)⟩
   rw [if_neg c7] at H
   have c7b0 : decide ((rd l0 x3_1) ≤ (rd l0 (ji3))) = false := decide_eq_false c7
   clear c7
   have H' := Aside0.mk H
   clear H
   have p229 : 0 ≤ ((ji3) : Int) := od_
   have q229 : (ji3) < (l0.length : Int) := od_
   obtain ⟨ad229, e229, hx229_0⟩ := Kd.at_int HR0.out (ji3) p229 q229
   cases e229
   replace p229 := eq_true p229
   replace q229 := eq_true q229
   have p230 : 0 ≤ (x3_1 : Int) := od_
   have q230 : x3_1 < (l0.length : Int) := od_
   obtain ⟨ad230, e230, hx230_0⟩ := Kd.at_int HR0.out x3_1 p230 q230
   obtain rfl : ad229 = ad230 := (by injection e230)
   replace p230 := eq_true p230
   replace q230 := eq_true q230
   go_wp2
   repeat (go_quiet (fail); try go_wp2)
   go_roundg k1
   case measure => have := HK1.out; omega
   case rel => exact ⟨(wrap64 (x3_1 + 1)), rs_, H', ⟨by have := HK1.out; omega⟩, by repeat (first | exact Drawn0.refl _ | apply Drawn0.step)⟩
def spec_l3Ends.l0 : Nat → List Int → List Bool → Int → Option (Bool)
 | 0, _, _, _ => none
 | k + 1, x0, x3, x4 => if 0 < (x0.length : Int) then (if x4 < (wrap64 (200 + (rd x0 0))) then (if 0 ≤ x4 then (if x4 < (x3.length : Int) then (if rdOf false x3 x4 = true then (spec_l3Ends.l0 k x0 x3 (wrap64 (x4 + 1))) else (some false)) else (none)) else (none)) else (some true)) else (none)
def spec_l3Ends.f (k : Nat) (l0 : List Int) : Option (Bool) := (spec_l3Table.f k l0 260).bind fun t231 => (spec_l3Ends.l0 k l0 t231 200)
theorem spec_l3Ends.mono_l : ∀ k, (∀ y0 y1 y2, LeO (spec_l3Ends.l0 k y0 y1 y2) (spec_l3Ends.l0 (k + 1) y0 y1 y2))
 | 0 => fun _ _ _ r h => by simp [spec_l3Ends.l0] at h
 | k + 1 => by
  have ih0 := spec_l3Ends.mono_l k
  · intro y0 y1 y2
    unfold spec_l3Ends.l0
    repeat' first
    | (with_reducible exact ih0 _ _ _)
    | (with_reducible exact spec_l3Table.mono _ _ _)
    | (with_reducible exact LeO.refl _)
    | (with_reducible exact LeO.none _)
    | (with_reducible refine LeO.ite ?_ ?_)
    | (with_reducible refine LeO.bind ?_ (fun _ => ?_))
    | exact ih0 _ _ _
    | exact LeO.none _
    | refine LeO.ite ?_ ?_
    | refine LeO.bind ?_ (fun _ => ?_)
theorem spec_l3Ends.mono : ∀ a0 k, LeO (spec_l3Ends.f k a0) (spec_l3Ends.f (k + 1) a0) := by
 intro a0 k
 have ih0 := spec_l3Ends.mono_l k
 unfold spec_l3Ends.f
 repeat' first
  | (with_reducible exact ih0 _ _ _)
  | (with_reducible exact spec_l3Table.mono _ _ _)
  | (with_reducible exact LeO.refl _)
  | (with_reducible exact LeO.none _)
  | (with_reducible refine LeO.ite ?_ ?_)
  | (with_reducible refine LeO.bind ?_ (fun _ => ?_))
  | exact ih0 _ _ _
  | exact LeO.none _
  | refine LeO.ite ?_ ?_
  | refine LeO.bind ?_ (fun _ => ?_)
theorem spec_l3Ends.calls (k : Nat) (A0 : Option Addr) (c0 : Nat) (l0 : List Int) (r : Bool) (w : World) (hr0 : Kd.C (Kd.int .i64) w A0 l0.length l0) (hc0 : l0.length ≤ c0) (h : spec_l3Ends.f k l0 = some r) :
 Calls Try.prog 67 #[.slice A0 l0.length c0] w fun e w' => e = .returned (.bool r) ∧ Below w.heap.size w w' := by
 have HR0 := Aside0.mk hr0
 have HC0 := Aside0.mk hc0
 clear hr0 hc0
 have HB := Aside0.mk (Below.refl w.heap.size w)
 have H := h
 clear h
 unfold spec_l3Ends.f at H
 obtain ⟨t231, A2, H⟩ := ob_ H
 have H' := Aside0.mk H
 clear H
 go_enter Try.func67, Try.ntmps67
 go_wp2_with (first | ((with_reducible refine gate_callee (f := 64) rfl ?_); refine gL_ (some 6) Try.func64 #[.slice A0 l0.length c0, .int .i64 260] ?_; (with_reducible refine (spec_l3Table.calls k _ _ l0 260 t231 _ ?side1 ?side2 A2.out).mono ?_); (case side1 => exact ce_ (HR0.out)); (case side2 => exact HC0.out); rintro e w3 ⟨v232, rfl, ho0, hb⟩; refine ⟨_, rfl, ?_⟩; have HO233 := Aside0.mk (Kd.R_lower ho0 (below_size (bl_ HB.out))); replace HB := bo_ HB hb; (try clear hb); (try clear ho0)))
 go_loopg [4] k (fun kq v4 w' => ∃ (x4_1 : Int), v4 = .int .i64 x4_1 ∧ Aside0 (spec_l3Ends.l0 kq l0 t231 x4_1 = some r) ∧ Aside0 (kq ≤ k) ∧ Aside0 (Kd.R Kd.bool 4 w' w.heap.size (fun _ => True) v232 t231) ∧ Aside0 (Below w.heap.size w w'))
 case atStart => exact ⟨(200), rs_, H', ⟨Nat.le_refl _⟩, ⟨re_ HO233.out⟩, ⟨bl_ HB.out⟩⟩
 case round =>
  clear H'
  try clear p2
  obtain ⟨x4_1, rfl, HA, HK1, HO_3, HB⟩ := hrel
  cases gk with
  | zero => exact absurd HA.out (by simp [spec_l3Ends.l0])
  | succ k1 =>
   have H := HA.out
   clear HA
   simp only [spec_l3Ends.l0] at H
   by_cases c4 : 0 < (l0.length : Int)
   rotate_left
   · rw [if_neg c4] at H
     cases H
   rw [if_pos c4] at H
   have c4b0 : decide (0 < (l0.length : Int)) = true := decide_eq_true c4
   have c4b1 : decide (0 < l0.length) = true := decide_eq_true (by omega)
   clear c4
   by_cases c5 : x4_1 < (wrap64 (200 + (rd l0 0)))
   rotate_left
   · rw [if_neg c5] at H
     have c5b0 : decide (x4_1 < (wrap64 (200 + (rd l0 0)))) = false := decide_eq_false c5
     clear c5
     obtain rfl := Option.some.inj H
     have p234 : 0 ≤ (0 : Int) := (by omega)
     have q234 : 0 < (l0.length : Int) := od_
     obtain ⟨ad234, e234, hx234_0⟩ := Kd.at_int HR0.out 0 p234 q234
     cases e234
     have qi234 : (0 < l0.length) = True := eq_true (by omega)
     (try rw [show ((0 : Int)).toNat = 0 from rfl] at hx234_0)
     (try rw [Addr.add_zero'] at hx234_0)
     (try replace hx234_0 := (HB.out.cell (World.block_lt_of_cell? w _ hx234_0)).trans hx234_0)
     replace p234 := eq_true p234
     replace q234 := eq_true q234
     go_wp2
     go_ret
     exact ⟨rf_, bl_ HB.out⟩
   rw [if_pos c5] at H
   have c5b0 : decide (x4_1 < (wrap64 (200 + (rd l0 0)))) = true := decide_eq_true c5
   clear c5
   by_cases c6 : 0 ≤ x4_1
   rotate_left
   · rw [if_neg c6] at H
     cases H
   rw [if_pos c6] at H
   have c6b0 : decide (0 ≤ x4_1) = true := decide_eq_true c6
   clear c6
   by_cases c7 : x4_1 < (t231.length : Int)
   rotate_left
   · rw [if_neg c7] at H
     cases H
   rw [if_pos c7] at H
   have c7b0 : decide (x4_1 < (t231.length : Int)) = true := decide_eq_true c7
   clear c7
   obtain ⟨bq8, hbq8⟩ : ∃ b_ : Bool, b_ = (rdOf false t231 x4_1) := ⟨_, rfl⟩
   replace H : (if bq8 = true then (spec_l3Ends.l0 k1 l0 t231 (wrap64 (x4_1 + 1))) else (some false)) = some r := by rw [← hbq8] at H; exact H
   have Nbq8 := Aside0.mk hbq8
   clear hbq8
   by_cases c9 : bq8 = true
   rotate_left
   · replace c9 := Bool.eq_false_iff.mpr c9
     subst c9
     rw [if_neg (show ¬ (false = true) by decide)] at H
     obtain rfl := Option.some.inj H
     have p234 : 0 ≤ (0 : Int) := (by omega)
     have q234 : 0 < (l0.length : Int) := od_
     obtain ⟨ad234, e234, hx234_0⟩ := Kd.at_int HR0.out 0 p234 q234
     cases e234
     have qi234 : (0 < l0.length) = True := eq_true (by omega)
     (try rw [show ((0 : Int)).toNat = 0 from rfl] at hx234_0)
     (try rw [Addr.add_zero'] at hx234_0)
     (try replace hx234_0 := (HB.out.cell (World.block_lt_of_cell? w _ hx234_0)).trans hx234_0)
     replace p234 := eq_true p234
     replace q234 := eq_true q234
     obtain ⟨Ao11, co11, eo11⟩ := Kd.R_slice HO_3.out
     subst eo11
     have p235 : 0 ≤ (x4_1 : Int) := od_
     have q235 : x4_1 < (t231.length : Int) := od_
     obtain ⟨ad235, e235, hx235_0⟩ := Kd.at_bool (Kd.R_reads' HO_3.out).2.2 x4_1 p235 q235
     (try rw [← Nbq8.out] at hx235_0)
     cases e235
     replace p235 := eq_true p235
     replace q235 := eq_true q235
     go_wp2
     go_ret
     exact ⟨rf_, bl_ HB.out⟩
   subst c9
   rw [if_pos rfl] at H
   have H' := Aside0.mk H
   clear H
   have p234 : 0 ≤ (0 : Int) := (by omega)
   have q234 : 0 < (l0.length : Int) := od_
   obtain ⟨ad234, e234, hx234_0⟩ := Kd.at_int HR0.out 0 p234 q234
   cases e234
   have qi234 : (0 < l0.length) = True := eq_true (by omega)
   (try rw [show ((0 : Int)).toNat = 0 from rfl] at hx234_0)
   (try rw [Addr.add_zero'] at hx234_0)
   (try replace hx234_0 := (HB.out.cell (World.block_lt_of_cell? w _ hx234_0)).trans hx234_0)
   replace p234 := eq_true p234
   replace q234 := eq_true q234
   obtain ⟨Ao10, co10, eo10⟩ := Kd.R_slice HO_3.out
   subst eo10
   have p235 : 0 ≤ (x4_1 : Int) := od_
   have q235 : x4_1 < (t231.length : Int) := od_
   obtain ⟨ad235, e235, hx235_0⟩ := Kd.at_bool (Kd.R_reads' HO_3.out).2.2 x4_1 p235 q235
   (try rw [← Nbq8.out] at hx235_0)
   cases e235
   replace p235 := eq_true p235
   replace q235 := eq_true q235
   go_wp2
   go_roundg k1
   case measure => have := HK1.out; omega
   case rel => exact ⟨(wrap64 (x4_1 + 1)), rs_, H', ⟨by have := HK1.out; omega⟩, ⟨re_ HO_3.out⟩, ⟨bl_ HB.out⟩⟩
end Go.Proofs.Ytjjajcldmkmgkaa.PA
end
