-- Bundled by shake.py from this session's printed and written texts; Lean checks it.
import Derived.Test.YtjjajcldmkmgkaaDoorZFnExactDescribeSemigroupx1
import Derived.Test.YtjjajcldmkmgkaaDoorZFnExactDescribeSemigroupx2
section
namespace Go.Proofs.YtjjajcldmkmgkaaDoor.PA
open Go.RowKit Go.Proofs.YtjjajcldmkmgkaaDoorW.PrintWords Go.Proofs.YtjjajcldmkmgkaaDoorW.PrintLast Go.Proofs.YtjjajcldmkmgkaaDoorW.PrintMore
attribute [local go_sem] max2_int min2_int max_two min_two max_three min_three max_four min_four
set_option linter.unusedVariables false
set_option linter.unusedSimpArgs false
def spec_l3Minimal.l0 : Nat → List Int → List Int → Int → Option (List Int)
 | 0, _, _, _ => none
 | k + 1, x3, x4, x5 => if x5 < (x4.length : Int) then (if x5 = 0 then (if 0 ≤ x5 then (if x3.length < 17592186044416 then (spec_l3Minimal.l0 k (x3 ++ [rd x4 x5]) x4 (wrap64 (x5 + 1))) else (none)) else (none)) else (if 0 ≤ x5 then (if x5 ≤ (x4.length : Int) then ((spec_l3Table.f k (x4.take (x5 : Int).toNat) (rd x4 x5)).bind fun t187 => (if 0 ≤ (rd x4 x5) then (if (rd x4 x5) < (t187.length : Int) then (if (rdOf false t187 (rd x4 x5) = true) then (spec_l3Minimal.l0 k x3 x4 (wrap64 (x5 + 1))) else (if x3.length < 17592186044416 then (spec_l3Minimal.l0 k (x3 ++ [rd x4 x5]) x4 (wrap64 (x5 + 1))) else (none))) else (none)) else (none))) else (none)) else (none))) else (some x3)
def spec_l3Minimal.f (k : Nat) (l0 : List Int) : Option (List Int) := (spec_SortList.f k l0).bind fun t175 => (spec_l3Minimal.l0 k (([] : List Int)) t175 0)
def spec_l3Minimal.T6 : Bool × List (List Nat × List Nat) := (true, [([], []), ([0], [0]), ([1], [1]), ([2], [2]), ([2], [2]), ([3, 4, 2], [2, 3, 4]), ([2], [2]), ([2], [2]), ([6, 7, 2], [2, 6, 7]), ([8, 2], [2, 8]), ([5, 9, 2, 2], [2, 5, 9]), ([2], [2]), ([2], [2]), ([11, 12, 2], [2, 11, 12]), ([13, 2], [2, 13]), ([10, 14, 2], [2, 10, 14]), ([15, 2], [2, 15]), ([16, 2], [2, 16]), ([2, 17], [2, 17])])
def spec_l3Minimal.B6 : List Nat := [0, 1, 3, 7, 7, 31, 7, 7, 199, 455, 1023, 7, 7, 6151, 14343, 32767, 65535, 131071, 262143]
theorem spec_l3Minimal.tab6 : rtab .any (opsOf Tryd.f38 6) = spec_l3Minimal.T6 := by kernel_rfl
theorem spec_l3Minimal.bits6 : waitsOk spec_l3Minimal.T6.2 spec_l3Minimal.B6 = true := by kernel_rfl
set_option maxHeartbeats 8000000 in
set_option maxRecDepth 100000 in
theorem spec_l3Minimal.calls (k : Nat) (A0 : Option Addr) (c0 : Nat) (l0 : List Int) (r : List Int) (w : World) (hr0 : Kd.C (Kd.int .i64) w A0 l0.length l0) (hc0 : l0.length ≤ c0) (h : spec_l3Minimal.f k l0 = some r) :
 Calls Tryd.prog 38 #[.slice A0 l0.length c0] w fun e w' => ∃ v0_ : Value, e = .returned (v0_) ∧ Kd.R (Kd.int .i64) 3 w' w.heap.size (fun _ => True) v0_ r ∧ Below w.heap.size w w' := by
 have HR0 := Aside0.mk hr0
 have HC0 := Aside0.mk hc0
 clear hr0 hc0
 have HB := Aside0.mk (Below.refl w.heap.size w)
 have H : ((spec_SortList.f k l0).bind fun t175 => (spec_l3Minimal.l0 k (([] : List Int)) t175 0)) = some r := h
 clear h
 obtain ⟨y172, hy172⟩ : ∃ y_ : List Int, y_ = (([] : List Int)) := ⟨_, rfl⟩
 replace H : ((spec_SortList.f k l0).bind fun t175 => (spec_l3Minimal.l0 k y172 t175 0)) = some r := by subst hy172; exact H
 have Ny172 := Aside0.mk hy172
 clear hy172
 replace H := Option.bind_eq_some_iff.mp H
 obtain ⟨t175, A20, H⟩ := H
 have A2 := Aside0.mk A20
 clear A20
 have H' := Aside0.mk H
 clear H
 go_enter Tryd.func38, Tryd.ntmps38
 go_wp2_with (first | ((with_reducible refine gate_dst (N := 6) rfl ?_); refine Kd.R_lit (Kd.int .i64) _ 3 ?hg (N := 6) ?hd (xs := ([] : List Int)) (inner := []) (ok := fun _ => True) (okp := fun _ => True) ?hr ?hp (fun _ hk => hk) trivial (Below.refl _ _) (Nat.le_refl _) (by simp) ?_; (case hd => rfl); (case hg => rfl); (case hr => first | (go_simp; done) | (go_simp; rfl)); (case hp => exact (Reps.none _ _)); intro v173 w3 ho4 hb hg_ hnew_; clear hg_ hnew_; (first | rw [← Ny172.out] at ho4 | (simp only [Int.reduceToNat] at ho4; rw [← Ny172.out] at ho4)); have HO174 := Aside0.mk (Kd.R_lower ho4 (below_size (bl_ HB.out))); replace HB := Aside0.mk (below_step (bl_ HB.out) hb); clear hb ho4) | ((with_reducible refine gate_callee (f := 68) rfl ?_); refine gL_ (some 8) Tryd.func68 #[.slice A0 l0.length c0] ?_; (with_reducible refine (spec_SortList.calls k _ _ l0 t175 _ ?side1 ?side2 A2.out).mono ?_); (case side1 => exact ce_ ((Kd.C_below HR0.out HB.out))); (case side2 => exact HC0.out); rintro e w5 ⟨v176, rfl, ho0, hb⟩; refine ⟨_, rfl, ?_⟩; have HO177 := Aside0.mk (Kd.R_lower (Kd.R_new' ho0 (Kd.R_lt (re_ HO174.out))) (below_size (bl_ HB.out))); replace HO174 := Aside0.mk (Kd.R_elder' (re_ HO174.out) (Kd.R_base ho0) hb); replace HB := Aside0.mk (below_step (bl_ HB.out) hb); (try clear hb); (try clear hb2); (try clear hk); (try clear hi); (try clear ho0)))
 go_loopg [3, 5] k (fun kq v3 v5 w' => ∃ (x3_1 : List Int) (x5_1 : Int), v5 = .int .i64 x5_1 ∧ Aside0 (spec_l3Minimal.l0 kq x3_1 t175 x5_1 = some r) ∧ Aside0 (kq ≤ k) ∧ Aside0 (Kd.R (Kd.int .i64) 3 w' w.heap.size (fun k_ => some k_ ≠ (v176 : Value).ownBlock) v3 x3_1) ∧ Aside0 (Kd.R (Kd.int .i64) 3 w' w.heap.size (fun k_ => some k_ ≠ (v3 : Value).ownBlock) v176 t175) ∧ Aside0 (Below w.heap.size w w'))
 case atStart => exact ⟨(y172), (0), (by first | rfl | (simp; done) | (simp [*]; done)), H', ⟨Nat.le_refl _⟩, ⟨by (with_reducible repeat (first | apply Kd.R_alloc | apply Kd.R_drewN | apply Kd.R_drew)); exact Kd.R_mono HO174.out (fun _ hk => hk.2)⟩, ⟨by (with_reducible repeat (first | apply Kd.R_alloc | apply Kd.R_drewN | apply Kd.R_drew)); exact Kd.R_mono HO177.out (fun _ hk => hk.2)⟩, ⟨bl_ HB.out⟩⟩
 case round =>
  clear H'
  try clear p2
  try clear c3
  obtain ⟨x3_1, x5_1, rfl, HA, HK1, HO_3, HO_4, HB⟩ := hrel
  cases gk with
  | zero => exact absurd HA.out (by simp [spec_l3Minimal.l0])
  | succ k1 =>
   have H := HA.out
   clear HA
   simp only [spec_l3Minimal.l0] at H
   by_cases c6 : x5_1 < (t175.length : Int)
   · rw [if_pos c6] at H
     have c6b0 : decide (x5_1 < (t175.length : Int)) = true := decide_eq_true c6
     clear c6
     by_cases c7 : x5_1 = 0
     · rw [if_pos c7] at H
       have c7b0 : (x5_1 == 0) = true := beq_iff_eq.mpr c7
       have c7b1 : (x5_1 != 0) = false := bne_eq_false_iff_eq.mpr c7
       clear c7
       by_cases c8 : 0 ≤ x5_1
       · rw [if_pos c8] at H
         have c8b0 : decide (0 ≤ x5_1) = true := decide_eq_true c8
         clear c8
         by_cases c9 : x3_1.length < 17592186044416
         · rw [if_pos c9] at H
           have LMc9 := Aside0.mk c9
           clear c9
           obtain ⟨y179, hy179⟩ : ∃ y_ : List Int, y_ = (x3_1 ++ [rd t175 x5_1]) := ⟨_, rfl⟩
           replace H : (spec_l3Minimal.l0 k1 y179 t175 (wrap64 (x5_1 + 1))) = some r := by subst hy179; exact H
           have Ny179 := Aside0.mk hy179
           clear hy179
           have H' := Aside0.mk H
           clear H
           obtain ⟨Ao10, co10, eo10⟩ := Kd.R_slice HO_4.out
           subst eo10
           try go_wp2
           replace HO_3 := Aside0.mk (Kd.R_drew HO_3.out)
           replace HO_4 := Aside0.mk (Kd.R_drew HO_4.out)
           replace HB := Aside0.mk (below_drew1 HB.out)
           refine start_ (n := 19) (S := fun w' => True) (ds := []) (B_ 0 19) (by kernel_rfl) rfl rfl trivial (fun hHeld => ?_); refine with_tabW spec_l3Minimal.tab6 spec_l3Minimal.bits6 (fun HT_ HW_ => ?_)
           generalize wr.drew = w11 at HO_3 HO_4 HB hHeld ⊢
           refine pu_ HT_ 0 15 (B_ 1 19) ?_
           refine pu_ HT_ 1 16 (B_ 3 19) ?_
           refine pu_ HT_ 2 17 (B_ 7 19) ?_
           refine pn_ HT_ 3 18 (B_ 15 19) ?_
           refine pn_ HT_ 4 19 (B_ 31 19) ?_
           refine pn_ HT_ 5 20 (B_ 63 19) ?_
           refine pn_ HT_ 6 21 (B_ 127 19) ?_
           refine pn_ HT_ 7 22 (B_ 255 19) ?_
           refine pn_ HT_ 8 23 (B_ 511 19) ?_
           refine pn_ HT_ 9 24 (B_ 1023 19) ?_
           refine pn_ HT_ 10 25 (B_ 2047 19) ?_
           refine pn_ HT_ 11 26 (B_ 4095 19) ?_
           refine pn_ HT_ 12 27 (B_ 8191 19) ?_
           refine pn_ HT_ 13 28 (B_ 16383 19) ?_
           refine pn_ HT_ 14 29 (B_ 32767 19) ?_
           refine pn_ HT_ 15 30 (B_ 65535 19) ?_
           refine pn_ HT_ 16 31 (B_ 131071 19) ?_
           refine pn_ HT_ 17 32 (B_ 262143 19) ?_
           refine pu_ HT_ 18 33 (B_ 524287 19) ?_
           refine done_ (done_of HT_.out (by kernel_rfl)) ?_
           have p178 : 0 ≤ (x5_1 : Int) := od_
           have q178 : x5_1 < (t175.length : Int) := od_
           obtain ⟨ad178, e178, hx178_0⟩ := Kd.at_int (Kd.R_reads' HO_4.out).2.2 x5_1 p178 q178
           cases e178
           replace p178 := eq_true p178
           replace q178 := eq_true q178
           try go_wp2_with (first | ((with_reducible refine gate_builtin (b := .append) (xs := #[.tmp 34, .tmp 39]) rfl ?_); at_builtin; refine Kd.R_append (Kd.int .i64) (w0 := w) w.heap.size rfl (.tmp 34) (.tmp 39) 22 3 (.int .i64 0) 8 rfl Tryd.underlying22 info3 rfl (by decide) (by omega) u3 x3_1 (rd t175 x5_1) [.int .i64 (rd t175 x5_1)] (fun k_ => some k_ ≠ (.slice (some ad178) t175.length co10 : Value).ownBlock) (fun _ => False) rfl rfl ?aP (fun _ hk => hk.elim) ?aF ?aO ?aB ?aS ?aL ?_; (case aP => exact rfl); (case aB => exact (bl_ HB.out)); (case aF => exact (fun k_ hk => Kd.fresh' (Kd.R_lt (re_ HO_4.out)) k_ hk)); (case aO => exact (re_ HO_3.out)); (case aS => exact (below_size (bl_ HB.out))); (case aL => have := LMc9.out; omega); intro v180 w12 ho hb hg hat; rw [← Ny179.out] at ho; replace HO_4 := Aside0.mk (Kd.R_after (ok := (fun _ => True)) (by (with_reducible repeat (first | apply Kd.R_alloc | apply Kd.R_drewN | apply Kd.R_drew)); exact Kd.R_mono HO_4.out (fun _ hk => ⟨trivial, hk⟩)) hg hat); replace HB := Aside0.mk (hb); have HO181 := Aside0.mk (ho); clear HO_3; clear ho hb hg hat))
           go_roundg k1
           case measure => have := HK1.out; omega
           case rel => exact ⟨(y179), (wrap64 (x5_1 + 1)), (by first | rfl | (simp; done) | (simp [*]; done)), H', ⟨by have := HK1.out; omega⟩, ⟨re_ HO181.out⟩, ⟨by (with_reducible repeat (first | apply Kd.R_alloc | apply Kd.R_drewN | apply Kd.R_drew)); exact Kd.R_mono HO_4.out (fun _ hk => hk.2)⟩, ⟨bl_ HB.out⟩⟩
         · rw [if_neg c9] at H
           exact absurd H (by simp)
       · rw [if_neg c8] at H
         exact absurd H (by simp)
     · rw [if_neg c7] at H
       have c7b0 : (x5_1 == 0) = false := beq_eq_false_iff_ne.mpr c7
       have c7b1 : (x5_1 != 0) = true := bne_iff_ne.mpr c7
       by_cases c13 : 0 ≤ x5_1
       · rw [if_pos c13] at H
         have c13b0 := eq_true c13
         have c13b1 : decide (0 ≤ x5_1) = true := decide_eq_true c13
         clear c13
         by_cases c14 : x5_1 ≤ (t175.length : Int)
         · rw [if_pos c14] at H
           have c14b0 := eq_true c14
           have c14b1 : decide (x5_1 ≤ (t175.length : Int)) = true := decide_eq_true c14
           clear c14
           obtain ⟨y182, hy182⟩ : ∃ y_ : List Int, y_ = (t175.take (x5_1 : Int).toNat) := ⟨_, rfl⟩
           replace H : ((spec_l3Table.f k1 y182 (rd t175 x5_1)).bind fun t187 => (if 0 ≤ (rd t175 x5_1) then (if (rd t175 x5_1) < (t187.length : Int) then (if (rdOf false t187 (rd t175 x5_1) = true) then (spec_l3Minimal.l0 k1 x3_1 t175 (wrap64 (x5_1 + 1))) else (if x3_1.length < 17592186044416 then (spec_l3Minimal.l0 k1 (x3_1 ++ [rd t175 x5_1]) t175 (wrap64 (x5_1 + 1))) else (none))) else (none)) else (none))) = some r := by subst hy182; exact H
           have Ny182 := Aside0.mk hy182
           clear hy182
           replace H := Option.bind_eq_some_iff.mp H
           obtain ⟨t187, A150, H⟩ := H
           have A15 := Aside0.mk A150
           clear A150
           by_cases c16 : 0 ≤ (rd t175 x5_1)
           · rw [if_pos c16] at H
             have c16b0 : decide (0 ≤ (rd t175 x5_1)) = true := decide_eq_true c16
             clear c16
             by_cases c17 : (rd t175 x5_1) < (t187.length : Int)
             · rw [if_pos c17] at H
               have c17b0 : decide ((rd t175 x5_1) < (t187.length : Int)) = true := decide_eq_true c17
               clear c17
               obtain ⟨bq18, hbq18⟩ : ∃ b_ : Bool, b_ = (rdOf false t187 (rd t175 x5_1)) := ⟨_, rfl⟩
               replace H : (if (bq18 = true) then (spec_l3Minimal.l0 k1 x3_1 t175 (wrap64 (x5_1 + 1))) else (if x3_1.length < 17592186044416 then (spec_l3Minimal.l0 k1 (x3_1 ++ [rd t175 x5_1]) t175 (wrap64 (x5_1 + 1))) else (none))) = some r := by rw [← hbq18] at H; exact H
               have Nbq18 := Aside0.mk hbq18
               clear hbq18
               by_cases c19 : (bq18 = true)
               · subst c19
                 rw [if_pos rfl] at H
                 have H' := Aside0.mk H
                 clear H
                 obtain ⟨Ao20, co20, eo20⟩ := Kd.R_slice HO_4.out
                 subst eo20
                 try go_wp2
                 replace HO_3 := Aside0.mk (Kd.R_drew HO_3.out)
                 replace HO_4 := Aside0.mk (Kd.R_drew HO_4.out)
                 replace HB := Aside0.mk (below_drew1 HB.out)
                 have q22 : (x5_1 : Int) ≤ ((t175.length : Int) : Int) := od_
                 obtain ⟨i022, hi022, _, hsz22, _⟩ := info_parts info3
                 have hroom22 : t175.length ≤ co20 := (Kd.R_reads' HO_4.out).2.1
                 have hC22 : Kd.C (Kd.int .i64) _ Ao20 t175.length t175 := (Kd.R_reads' HO_4.out).2.2
                 have hcut22 := cut_to (P := Tryd.prog) 22 3 .i64 Tryd.underlying22 hi022 Ao20 t175.length co20 x5_1 (od_) q22 hroom22
                 have hr22 := Kd.C_take (m := (x5_1 : Int).toNat) hC22 (by omega)
                 have hy22 : y182.length = (x5_1 : Int).toNat := (by rw [Ny182.out, List.length_take]; omega)
                 rw [← Ny182.out] at hr22
                 rw [← hy22] at hcut22
                 have HR185 := Aside0.mk hr22
                 have HC185 := Aside0.mk (show y182.length ≤ co20 from by omega)
                 clear hr22 hC22 hroom22 hi022 hsz22
                 have KY22 := Aside0.mk hy22
                 clear hy22
                 have KL22 := Aside0.mk (show (x5_1 : Int).toNat ≤ t175.length from by omega)
                 replace q22 := eq_true q22
                 have p186 : 0 ≤ (x5_1 : Int) := od_
                 have q186 : x5_1 < (t175.length : Int) := od_
                 obtain ⟨ad186, e186, hx186_0⟩ := Kd.at_int (Kd.R_reads' HO_4.out).2.2 x5_1 p186 q186
                 cases e186
                 replace p186 := eq_true p186
                 replace q186 := eq_true q186
                 have p190 : 0 ≤ (x5_1 : Int) := od_
                 have q190 : x5_1 < (t175.length : Int) := od_
                 obtain ⟨ad190, e190, hx190_0⟩ := Kd.at_int (Kd.R_reads' HO_4.out).2.2 x5_1 p190 q190
                 obtain rfl : ad186 = ad190 := (by injection e190)
                 replace p190 := eq_true p190
                 replace q190 := eq_true q190
                 refine start_ (n := 19) (S := fun w' => w'.cell? (ad186.add (x5_1).toNat) = some (.int .i64 (rd t175 x5_1)) ∧ w'.cell? (ad186.add (x5_1).toNat) = some (.int .i64 (rd t175 x5_1)) ∧ True) (ds := []) (B_ 0 19) (by kernel_rfl) rfl rfl ⟨hx186_0, hx190_0, trivial⟩ (fun hHeld => ?_); refine with_tabW spec_l3Minimal.tab6 spec_l3Minimal.bits6 (fun HT_ HW_ => ?_)
                 generalize wr.drew = w21 at HO_3 HO_4 HB HR185 hx186_0 hx190_0 hHeld ⊢
                 refine pu_ HT_ 0 15 (B_ 1 19) ?_
                 refine pu_ HT_ 1 16 (B_ 3 19) ?_
                 refine pu_ HT_ 2 17 (B_ 7 19) ?_
                 refine pu_ HT_ 3 18 (B_ 15 19) ?_
                 refine pu_ HT_ 4 19 (B_ 31 19) ?_
                 refine pu_ HT_ 5 20 (B_ 63 19) ?_
                 refine pu_ HT_ 6 21 (B_ 127 19) ?_
                 refine pu_ HT_ 7 22 (B_ 255 19) ?_
                 refine pu_ HT_ 8 23 (B_ 511 19) ?_
                 refine pu_ HT_ 11 26 (B_ 2559 19) ?_
                 refine pu_ HT_ 12 27 (B_ 6655 19) ?_
                 refine pu_ HT_ 13 28 (B_ 14847 19) ?_
                 refine tk3_ HT_ HW_ hHeld 9 24 (B_ 15359 19) ?_
                 refine tk3_ HT_ HW_ hHeld 14 29 (B_ 31743 19) ?_
                 refine one_ (i := 10) (N := some 25) (B_ 32767 19) rfl rfl (one_of HT_.out (by kernel_rfl)) (by decide) (fun K hK => ?_)
                 refine goes_ Tryd.func69 (by kernel_rfl) rfl #[.slice (some ad186) y182.length co20, .int .i64 (rd t175 x5_1)] (by rfl) rfl rfl (by (try simp only [List.map_toArray, List.map_cons, List.map_nil]); first | done | rfl | (simp only [List.length_drop, List.length_take]; rfl)) ?_
                 with_reducible refine (spec_l3Table.calls k1 _ _ y182 (rd t175 x5_1) t187 _ ?side1 ?side2 A15.out).mono ?_
                 (case side1 => repeat (first | exact (by repeat (first | (with_reducible exact HR185.out) | (with_reducible refine Kd.C_alloc ?_ _) | (with_reducible refine Kd.C_drewN ?_ _) | (with_reducible refine Kd.C_drew ?_) | exact HR185.out)) | (with_reducible refine Kd.C_alloc ?_ _) | (with_reducible refine Kd.C_drewN ?_ _) | (with_reducible refine Kd.C_drew ?_)))
                 (case side2 => exact HC185.out)
                 rintro e w23 ⟨v188, rfl, ho0, hb⟩
                 have HS0_ := (hb.cell (World.block_lt_of_cell? _ _ (hHeld.1))).trans (hHeld.1)
                 have HS1_ := (hb.cell (World.block_lt_of_cell? _ _ (hHeld.2.1))).trans (hHeld.2.1)
                 refine ⟨_, rfl, ?_⟩
                 replace HO_3 := Aside0.mk (Kd.R_below (re_ HO_3.out) hb)
                 replace HO_4 := Aside0.mk (Kd.R_below (re_ HO_4.out) hb)
                 have HO189 := Aside0.mk (Kd.R_lower ho0 (below_size (bl_ HB.out)))
                 replace HR185 := Aside0.mk (Kd.C_below (by repeat (first | (with_reducible exact HR185.out) | (with_reducible refine Kd.C_alloc ?_ _) | (with_reducible refine Kd.C_drewN ?_ _) | (with_reducible refine Kd.C_drew ?_) | exact HR185.out)) hb)
                 replace HB := Aside0.mk (below_step (bl_ HB.out) hb)
                 (try clear hb)
                 (try clear hb2)
                 (try clear hk)
                 (try clear hi)
                 (try clear ho0)
                 obtain ⟨Ao24, co24, eo24⟩ := Kd.R_slice HO189.out
                 (first | subst eo24 | (injection eo24 with f1_ f2_ f3_; have f4_ := f1_.symm; have f5_ := f3_.symm; clear f1_ f2_ f3_; subst f4_; subst f5_))
                 have p191 : 0 ≤ ((rd t175 x5_1) : Int) := od_
                 have q191 : (rd t175 x5_1) < (t187.length : Int) := od_
                 obtain ⟨ad191, e191, hx191_0⟩ := Kd.at_bool (Kd.R_reads' HO189.out).2.2 (rd t175 x5_1) p191 q191
                 (try rw [← Nbq18.out] at hx191_0)
                 cases e191
                 replace p191 := eq_true p191
                 replace q191 := eq_true q191
                 refine hK.out _ _ ⟨HS0_, HS1_, trivial⟩ (fun _ => ?_); refine restart_ (S' := fun w' => w'.cell? (ad186.add (x5_1).toNat) = some (.int .i64 (rd t175 x5_1)) ∧ w'.cell? (ad186.add (x5_1).toNat) = some (.int .i64 (rd t175 x5_1)) ∧ w'.cell? (ad191.add ((rd t175 x5_1)).toNat) = some (.bool true)) (fun _ h => ⟨h.1, h.2.1, trivial⟩) ⟨HS0_, HS1_, hx191_0⟩ (fun hHeld => ?_)
                 clear hK K
                 refine norm_ (a' := ?_) ?_ ?_
                 rotate_left
                 · show Act.put _ (some 25) _ = _
                   simp only [Act.put, z1_, z2_, z3_, i64_w, i32_w]
                   rfl
                 refine pu_ HT_ 15 30 (B_ 65535 19) ?_
                 refine tk3_ HT_ HW_ hHeld 16 31 (B_ 131071 19) ?_
                 refine pu_ HT_ 17 32 (B_ 262143 19) ?_
                 refine pu_ HT_ 18 33 (B_ 524287 19) ?_
                 refine done_ (done_of HT_.out (by kernel_rfl)) ?_
                 try go_wp2
                 go_roundg k1
                 case measure => have := HK1.out; omega
                 case rel => exact ⟨(x3_1), (wrap64 (x5_1 + 1)), (by first | rfl | (simp; done) | (simp [*]; done)), H', ⟨by have := HK1.out; omega⟩, ⟨re_ HO_3.out⟩, ⟨re_ HO_4.out⟩, ⟨bl_ HB.out⟩⟩
               · replace c19 := Bool.eq_false_iff.mpr c19
                 subst c19
                 rw [if_neg (show ¬ (false = true) by decide)] at H
                 by_cases c25 : x3_1.length < 17592186044416
                 · rw [if_pos c25] at H
                   have LMc25 := Aside0.mk c25
                   clear c25
                   obtain ⟨y193, hy193⟩ : ∃ y_ : List Int, y_ = (x3_1 ++ [rd t175 x5_1]) := ⟨_, rfl⟩
                   replace H : (spec_l3Minimal.l0 k1 y193 t175 (wrap64 (x5_1 + 1))) = some r := by subst hy193; exact H
                   have Ny193 := Aside0.mk hy193
                   clear hy193
                   have H' := Aside0.mk H
                   clear H
                   obtain ⟨Ao26, co26, eo26⟩ := Kd.R_slice HO_4.out
                   subst eo26
                   try go_wp2
                   replace HO_3 := Aside0.mk (Kd.R_drew HO_3.out)
                   replace HO_4 := Aside0.mk (Kd.R_drew HO_4.out)
                   replace HB := Aside0.mk (below_drew1 HB.out)
                   have q28 : (x5_1 : Int) ≤ ((t175.length : Int) : Int) := od_
                   obtain ⟨i028, hi028, _, hsz28, _⟩ := info_parts info3
                   have hroom28 : t175.length ≤ co26 := (Kd.R_reads' HO_4.out).2.1
                   have hC28 : Kd.C (Kd.int .i64) _ Ao26 t175.length t175 := (Kd.R_reads' HO_4.out).2.2
                   have hcut28 := cut_to (P := Tryd.prog) 22 3 .i64 Tryd.underlying22 hi028 Ao26 t175.length co26 x5_1 (od_) q28 hroom28
                   have hr28 := Kd.C_take (m := (x5_1 : Int).toNat) hC28 (by omega)
                   have hy28 : y182.length = (x5_1 : Int).toNat := (by rw [Ny182.out, List.length_take]; omega)
                   rw [← Ny182.out] at hr28
                   rw [← hy28] at hcut28
                   have HR185 := Aside0.mk hr28
                   have HC185 := Aside0.mk (show y182.length ≤ co26 from by omega)
                   clear hr28 hC28 hroom28 hi028 hsz28
                   have KY28 := Aside0.mk hy28
                   clear hy28
                   have KL28 := Aside0.mk (show (x5_1 : Int).toNat ≤ t175.length from by omega)
                   replace q28 := eq_true q28
                   have p186 : 0 ≤ (x5_1 : Int) := od_
                   have q186 : x5_1 < (t175.length : Int) := od_
                   obtain ⟨ad186, e186, hx186_0⟩ := Kd.at_int (Kd.R_reads' HO_4.out).2.2 x5_1 p186 q186
                   cases e186
                   replace p186 := eq_true p186
                   replace q186 := eq_true q186
                   have p190 : 0 ≤ (x5_1 : Int) := od_
                   have q190 : x5_1 < (t175.length : Int) := od_
                   obtain ⟨ad190, e190, hx190_0⟩ := Kd.at_int (Kd.R_reads' HO_4.out).2.2 x5_1 p190 q190
                   obtain rfl : ad186 = ad190 := (by injection e190)
                   replace p190 := eq_true p190
                   replace q190 := eq_true q190
                   refine start_ (n := 19) (S := fun w' => w'.cell? (ad186.add (x5_1).toNat) = some (.int .i64 (rd t175 x5_1)) ∧ w'.cell? (ad186.add (x5_1).toNat) = some (.int .i64 (rd t175 x5_1)) ∧ True) (ds := []) (B_ 0 19) (by kernel_rfl) rfl rfl ⟨hx186_0, hx190_0, trivial⟩ (fun hHeld => ?_); refine with_tabW spec_l3Minimal.tab6 spec_l3Minimal.bits6 (fun HT_ HW_ => ?_)
                   generalize wr.drew = w27 at HO_3 HO_4 HB HR185 hx186_0 hx190_0 hHeld ⊢
                   refine pu_ HT_ 0 15 (B_ 1 19) ?_
                   refine pu_ HT_ 1 16 (B_ 3 19) ?_
                   refine pu_ HT_ 2 17 (B_ 7 19) ?_
                   refine pu_ HT_ 3 18 (B_ 15 19) ?_
                   refine pu_ HT_ 4 19 (B_ 31 19) ?_
                   refine pu_ HT_ 5 20 (B_ 63 19) ?_
                   refine pu_ HT_ 6 21 (B_ 127 19) ?_
                   refine pu_ HT_ 7 22 (B_ 255 19) ?_
                   refine pu_ HT_ 8 23 (B_ 511 19) ?_
                   refine pu_ HT_ 11 26 (B_ 2559 19) ?_
                   refine pu_ HT_ 12 27 (B_ 6655 19) ?_
                   refine pu_ HT_ 13 28 (B_ 14847 19) ?_
                   refine tk3_ HT_ HW_ hHeld 9 24 (B_ 15359 19) ?_
                   refine tk3_ HT_ HW_ hHeld 14 29 (B_ 31743 19) ?_
                   refine one_ (i := 10) (N := some 25) (B_ 32767 19) rfl rfl (one_of HT_.out (by kernel_rfl)) (by decide) (fun K hK => ?_)
                   refine goes_ Tryd.func69 (by kernel_rfl) rfl #[.slice (some ad186) y182.length co26, .int .i64 (rd t175 x5_1)] (by rfl) rfl rfl (by (try simp only [List.map_toArray, List.map_cons, List.map_nil]); first | done | rfl | (simp only [List.length_drop, List.length_take]; rfl)) ?_
                   with_reducible refine (spec_l3Table.calls k1 _ _ y182 (rd t175 x5_1) t187 _ ?side1 ?side2 A15.out).mono ?_
                   (case side1 => repeat (first | exact (by repeat (first | (with_reducible exact HR185.out) | (with_reducible refine Kd.C_alloc ?_ _) | (with_reducible refine Kd.C_drewN ?_ _) | (with_reducible refine Kd.C_drew ?_) | exact HR185.out)) | (with_reducible refine Kd.C_alloc ?_ _) | (with_reducible refine Kd.C_drewN ?_ _) | (with_reducible refine Kd.C_drew ?_)))
                   (case side2 => exact HC185.out)
                   rintro e w29 ⟨v188, rfl, ho0, hb⟩
                   have HS0_ := (hb.cell (World.block_lt_of_cell? _ _ (hHeld.1))).trans (hHeld.1)
                   have HS1_ := (hb.cell (World.block_lt_of_cell? _ _ (hHeld.2.1))).trans (hHeld.2.1)
                   refine ⟨_, rfl, ?_⟩
                   replace HO_3 := Aside0.mk (Kd.R_below (re_ HO_3.out) hb)
                   replace HO_4 := Aside0.mk (Kd.R_below (re_ HO_4.out) hb)
                   have HO189 := Aside0.mk (Kd.R_lower ho0 (below_size (bl_ HB.out)))
                   replace HR185 := Aside0.mk (Kd.C_below (by repeat (first | (with_reducible exact HR185.out) | (with_reducible refine Kd.C_alloc ?_ _) | (with_reducible refine Kd.C_drewN ?_ _) | (with_reducible refine Kd.C_drew ?_) | exact HR185.out)) hb)
                   replace HB := Aside0.mk (below_step (bl_ HB.out) hb)
                   (try clear hb)
                   (try clear hb2)
                   (try clear hk)
                   (try clear hi)
                   (try clear ho0)
                   obtain ⟨Ao30, co30, eo30⟩ := Kd.R_slice HO189.out
                   (first | subst eo30 | (injection eo30 with f1_ f2_ f3_; have f4_ := f1_.symm; have f5_ := f3_.symm; clear f1_ f2_ f3_; subst f4_; subst f5_))
                   have p191 : 0 ≤ ((rd t175 x5_1) : Int) := od_
                   have q191 : (rd t175 x5_1) < (t187.length : Int) := od_
                   obtain ⟨ad191, e191, hx191_0⟩ := Kd.at_bool (Kd.R_reads' HO189.out).2.2 (rd t175 x5_1) p191 q191
                   (try rw [← Nbq18.out] at hx191_0)
                   cases e191
                   replace p191 := eq_true p191
                   replace q191 := eq_true q191
                   refine hK.out _ _ ⟨HS0_, HS1_, trivial⟩ (fun _ => ?_); refine restart_ (S' := fun w' => w'.cell? (ad186.add (x5_1).toNat) = some (.int .i64 (rd t175 x5_1)) ∧ w'.cell? (ad186.add (x5_1).toNat) = some (.int .i64 (rd t175 x5_1)) ∧ w'.cell? (ad191.add ((rd t175 x5_1)).toNat) = some (.bool false)) (fun _ h => ⟨h.1, h.2.1, trivial⟩) ⟨HS0_, HS1_, hx191_0⟩ (fun hHeld => ?_)
                   clear hK K
                   refine norm_ (a' := ?_) ?_ ?_
                   rotate_left
                   · show Act.put _ (some 25) _ = _
                     simp only [Act.put, z1_, z2_, z3_, i64_w, i32_w]
                     rfl
                   refine pu_ HT_ 15 30 (B_ 65535 19) ?_
                   refine tk3_ HT_ HW_ hHeld 16 31 (B_ 131071 19) ?_
                   refine pu_ HT_ 17 32 (B_ 262143 19) ?_
                   refine pu_ HT_ 18 33 (B_ 524287 19) ?_
                   refine done_ (done_of HT_.out (by kernel_rfl)) ?_
                   have p192 : 0 ≤ (x5_1 : Int) := od_
                   have q192 : x5_1 < (t175.length : Int) := od_
                   obtain ⟨ad192, e192, hx192_0⟩ := Kd.at_int (Kd.R_reads' HO_4.out).2.2 x5_1 p192 q192
                   obtain rfl : ad186 = ad192 := (by injection e192)
                   replace p192 := eq_true p192
                   replace q192 := eq_true q192
                   try go_wp2_with (first | ((with_reducible refine gate_builtin (b := .append) (xs := #[.tmp 34, .tmp 39]) rfl ?_); at_builtin; refine Kd.R_append (Kd.int .i64) (w0 := w) w.heap.size rfl (.tmp 34) (.tmp 39) 22 3 (.int .i64 0) 8 rfl Tryd.underlying22 info3 rfl (by decide) (by omega) u3 x3_1 (rd t175 x5_1) [.int .i64 (rd t175 x5_1)] (fun k_ => some k_ ≠ (.slice (some ad186) t175.length co26 : Value).ownBlock) (fun _ => False) rfl rfl ?aP (fun _ hk => hk.elim) ?aF ?aO ?aB ?aS ?aL ?_; (case aP => exact rfl); (case aB => exact (bl_ HB.out)); (case aF => exact (fun k_ hk => Kd.fresh' (Kd.R_lt (re_ HO_4.out)) k_ hk)); (case aO => exact (re_ HO_3.out)); (case aS => exact (below_size (bl_ HB.out))); (case aL => have := LMc25.out; omega); intro v194 w31 ho hb hg hat; rw [← Ny193.out] at ho; replace HO189 := Aside0.mk (Kd.R_over' (re_ HO189.out) (Kd.R_typed (re_ HO_3.out)) (by decide) hg); replace HB := Aside0.mk (hb); replace HR185 := Aside0.mk ((show Kd.C (Kd.int .i64) w31 (some ad186) y182.length y182 from by rw [Ny182.out]; exact Kd.C_take (m := (x5_1 : Int).toNat) ((Kd.R_reads' (Kd.R_after (ok := (fun _ => True)) (by (with_reducible repeat (first | apply Kd.R_alloc | apply Kd.R_drewN | apply Kd.R_drew)); exact Kd.R_mono HO_4.out (fun _ hk => ⟨trivial, hk⟩)) hg hat)).2.2) KL28.out)); replace HO_4 := Aside0.mk (Kd.R_after (ok := (fun _ => True)) (by (with_reducible repeat (first | apply Kd.R_alloc | apply Kd.R_drewN | apply Kd.R_drew)); exact Kd.R_mono HO_4.out (fun _ hk => ⟨trivial, hk⟩)) hg hat); have HO195 := Aside0.mk (ho); clear HO_3; clear ho hb hg hat))
                   go_roundg k1
                   case measure => have := HK1.out; omega
                   case rel => exact ⟨(y193), (wrap64 (x5_1 + 1)), (by first | rfl | (simp; done) | (simp [*]; done)), H', ⟨by have := HK1.out; omega⟩, ⟨re_ HO195.out⟩, ⟨by (with_reducible repeat (first | apply Kd.R_alloc | apply Kd.R_drewN | apply Kd.R_drew)); exact Kd.R_mono HO_4.out (fun _ hk => hk.2)⟩, ⟨bl_ HB.out⟩⟩
                 · rw [if_neg c25] at H
                   exact absurd H (by simp)
             · rw [if_neg c17] at H
               exact absurd H (by simp)
           · rw [if_neg c16] at H
             exact absurd H (by simp)
         · rw [if_neg c14] at H
           exact absurd H (by simp)
       · rw [if_neg c13] at H
         exact absurd H (by simp)
   · rw [if_neg c6] at H
     have c6b0 : decide (x5_1 < (t175.length : Int)) = false := decide_eq_false c6
     clear c6
     obtain rfl := Option.some.inj H
     obtain ⟨Ao32, co32, eo32⟩ := Kd.R_slice HO_4.out
     subst eo32
     go_wp2
     go_ret
     exact ⟨_, by first | rfl | (simp [errW_none, errW_some] <;> rfl) | (simp [*, errW_none, errW_some] <;> rfl), by (with_reducible repeat (first | apply Kd.R_alloc | apply Kd.R_drewN | apply Kd.R_drew)); exact Kd.R_mono HO_3.out (fun _ hk => trivial), bl_ HB.out⟩
end Go.Proofs.YtjjajcldmkmgkaaDoor.PA
end
section
namespace Go.Proofs.YtjjajcldmkmgkaaDoor.PA
open Go.RowKit Go.Proofs.YtjjajcldmkmgkaaDoorW.PrintWords Go.Proofs.YtjjajcldmkmgkaaDoorW.PrintLast Go.Proofs.YtjjajcldmkmgkaaDoorW.PrintMore
attribute [local go_sem] max2_int min2_int max_two min_two max_three min_three max_four min_four
set_option linter.unusedVariables false
set_option linter.unusedSimpArgs false
def spec_l3Ends.l0 : Nat → List Int → List Bool → Int → Option (Bool)
 | 0, _, _, _ => none
 | k + 1, x0, x3, x4 => if 0 < (x0.length : Int) then (if x4 < (wrap64 (200 + (rd x0 0))) then (if 0 ≤ x4 then (if x4 < (x3.length : Int) then (if rdOf false x3 x4 = true then (spec_l3Ends.l0 k x0 x3 (wrap64 (x4 + 1))) else (some false)) else (none)) else (none)) else (some true)) else (none)
def spec_l3Ends.f (k : Nat) (l0 : List Int) : Option (Bool) := (spec_l3Table.f k l0 260).bind fun t196 => (spec_l3Ends.l0 k l0 t196 200)
set_option maxHeartbeats 8000000 in
set_option maxRecDepth 100000 in
theorem spec_l3Ends.calls (k : Nat) (A0 : Option Addr) (c0 : Nat) (l0 : List Int) (r : Bool) (w : World) (hr0 : Kd.C (Kd.int .i64) w A0 l0.length l0) (hc0 : l0.length ≤ c0) (h : spec_l3Ends.f k l0 = some r) :
 Calls Tryd.prog 39 #[.slice A0 l0.length c0] w fun e w' => e = .returned (.bool r) ∧ Below w.heap.size w w' := by
 have HR0 := Aside0.mk hr0
 have HC0 := Aside0.mk hc0
 clear hr0 hc0
 have HB := Aside0.mk (Below.refl w.heap.size w)
 have H : ((spec_l3Table.f k l0 260).bind fun t196 => (spec_l3Ends.l0 k l0 t196 200)) = some r := h
 clear h
 replace H := Option.bind_eq_some_iff.mp H
 obtain ⟨t196, A20, H⟩ := H
 have A2 := Aside0.mk A20
 clear A20
 have H' := Aside0.mk H
 clear H
 go_enter Tryd.func39, Tryd.ntmps39
 go_wp2_with (first | ((with_reducible refine gate_callee (f := 69) rfl ?_); refine gL_ (some 6) Tryd.func69 #[.slice A0 l0.length c0, .int .i64 260] ?_; (with_reducible refine (spec_l3Table.calls k _ _ l0 260 t196 _ ?side1 ?side2 A2.out).mono ?_); (case side1 => exact ce_ (HR0.out)); (case side2 => exact HC0.out); rintro e w3 ⟨v197, rfl, ho0, hb⟩; refine ⟨_, rfl, ?_⟩; have HO198 := Aside0.mk (Kd.R_lower ho0 (below_size (bl_ HB.out))); replace HB := Aside0.mk (below_step (bl_ HB.out) hb); (try clear hb); (try clear hb2); (try clear hk); (try clear hi); (try clear ho0)))
 go_loopg [4] k (fun kq v4 w' => ∃ (x4_1 : Int), v4 = .int .i64 x4_1 ∧ Aside0 (spec_l3Ends.l0 kq l0 t196 x4_1 = some r) ∧ Aside0 (kq ≤ k) ∧ Aside0 (Kd.R Kd.bool 4 w' w.heap.size (fun _ => True) v197 t196) ∧ Aside0 (Below w.heap.size w w'))
 case atStart => exact ⟨(200), (by first | rfl | (simp; done) | (simp [*]; done)), H', ⟨Nat.le_refl _⟩, ⟨re_ HO198.out⟩, ⟨bl_ HB.out⟩⟩
 case round =>
  clear H'
  try clear p2
  try clear c3
  obtain ⟨x4_1, rfl, HA, HK1, HO_3, HB⟩ := hrel
  cases gk with
  | zero => exact absurd HA.out (by simp [spec_l3Ends.l0])
  | succ k1 =>
   have H := HA.out
   clear HA
   simp only [spec_l3Ends.l0] at H
   by_cases c4 : 0 < (l0.length : Int)
   · rw [if_pos c4] at H
     have c4b0 : decide (0 < (l0.length : Int)) = true := decide_eq_true c4
     have c4b1 : decide (0 < l0.length) = true := decide_eq_true (by omega)
     clear c4
     by_cases c5 : x4_1 < (wrap64 (200 + (rd l0 0)))
     · rw [if_pos c5] at H
       have c5b0 : decide (x4_1 < (wrap64 (200 + (rd l0 0)))) = true := decide_eq_true c5
       clear c5
       by_cases c6 : 0 ≤ x4_1
       · rw [if_pos c6] at H
         have c6b0 : decide (0 ≤ x4_1) = true := decide_eq_true c6
         clear c6
         by_cases c7 : x4_1 < (t196.length : Int)
         · rw [if_pos c7] at H
           have c7b0 : decide (x4_1 < (t196.length : Int)) = true := decide_eq_true c7
           clear c7
           obtain ⟨bq8, hbq8⟩ : ∃ b_ : Bool, b_ = (rdOf false t196 x4_1) := ⟨_, rfl⟩
           replace H : (if bq8 = true then (spec_l3Ends.l0 k1 l0 t196 (wrap64 (x4_1 + 1))) else (some false)) = some r := by rw [← hbq8] at H; exact H
           have Nbq8 := Aside0.mk hbq8
           clear hbq8
           by_cases c9 : bq8 = true
           · subst c9
             rw [if_pos rfl] at H
             have H' := Aside0.mk H
             clear H
             have p199 : 0 ≤ (0 : Int) := (by omega)
             have q199 : 0 < (l0.length : Int) := od_
             obtain ⟨ad199, e199, hx199_0⟩ := Kd.at_int HR0.out 0 p199 q199
             cases e199
             have qi199 : (0 < l0.length) = True := eq_true (by omega)
             (try rw [show ((0 : Int)).toNat = 0 from rfl] at hx199_0)
             (try rw [Addr.add_zero'] at hx199_0)
             (try replace hx199_0 := (HB.out.cell (World.block_lt_of_cell? w _ hx199_0)).trans hx199_0)
             replace p199 := eq_true p199
             replace q199 := eq_true q199
             obtain ⟨Ao10, co10, eo10⟩ := Kd.R_slice HO_3.out
             subst eo10
             have p200 : 0 ≤ (x4_1 : Int) := od_
             have q200 : x4_1 < (t196.length : Int) := od_
             obtain ⟨ad200, e200, hx200_0⟩ := Kd.at_bool (Kd.R_reads' HO_3.out).2.2 x4_1 p200 q200
             (try rw [← Nbq8.out] at hx200_0)
             cases e200
             replace p200 := eq_true p200
             replace q200 := eq_true q200
             go_wp2
             go_roundg k1
             case measure => have := HK1.out; omega
             case rel => exact ⟨(wrap64 (x4_1 + 1)), (by first | rfl | (simp; done) | (simp [*]; done)), H', ⟨by have := HK1.out; omega⟩, ⟨re_ HO_3.out⟩, ⟨bl_ HB.out⟩⟩
           · replace c9 := Bool.eq_false_iff.mpr c9
             subst c9
             rw [if_neg (show ¬ (false = true) by decide)] at H
             obtain rfl := Option.some.inj H
             have p199 : 0 ≤ (0 : Int) := (by omega)
             have q199 : 0 < (l0.length : Int) := od_
             obtain ⟨ad199, e199, hx199_0⟩ := Kd.at_int HR0.out 0 p199 q199
             cases e199
             have qi199 : (0 < l0.length) = True := eq_true (by omega)
             (try rw [show ((0 : Int)).toNat = 0 from rfl] at hx199_0)
             (try rw [Addr.add_zero'] at hx199_0)
             (try replace hx199_0 := (HB.out.cell (World.block_lt_of_cell? w _ hx199_0)).trans hx199_0)
             replace p199 := eq_true p199
             replace q199 := eq_true q199
             obtain ⟨Ao11, co11, eo11⟩ := Kd.R_slice HO_3.out
             subst eo11
             have p200 : 0 ≤ (x4_1 : Int) := od_
             have q200 : x4_1 < (t196.length : Int) := od_
             obtain ⟨ad200, e200, hx200_0⟩ := Kd.at_bool (Kd.R_reads' HO_3.out).2.2 x4_1 p200 q200
             (try rw [← Nbq8.out] at hx200_0)
             cases e200
             replace p200 := eq_true p200
             replace q200 := eq_true q200
             go_wp2
             go_ret
             exact ⟨by first | rfl | (simp [errW_none, errW_some] <;> rfl) | (simp [*, errW_none, errW_some] <;> rfl), bl_ HB.out⟩
         · rw [if_neg c7] at H
           exact absurd H (by simp)
       · rw [if_neg c6] at H
         exact absurd H (by simp)
     · rw [if_neg c5] at H
       have c5b0 : decide (x4_1 < (wrap64 (200 + (rd l0 0)))) = false := decide_eq_false c5
       clear c5
       obtain rfl := Option.some.inj H
       have p199 : 0 ≤ (0 : Int) := (by omega)
       have q199 : 0 < (l0.length : Int) := od_
       obtain ⟨ad199, e199, hx199_0⟩ := Kd.at_int HR0.out 0 p199 q199
       cases e199
       have qi199 : (0 < l0.length) = True := eq_true (by omega)
       (try rw [show ((0 : Int)).toNat = 0 from rfl] at hx199_0)
       (try rw [Addr.add_zero'] at hx199_0)
       (try replace hx199_0 := (HB.out.cell (World.block_lt_of_cell? w _ hx199_0)).trans hx199_0)
       replace p199 := eq_true p199
       replace q199 := eq_true q199
       go_wp2
       go_ret
       exact ⟨by first | rfl | (simp [errW_none, errW_some] <;> rfl) | (simp [*, errW_none, errW_some] <;> rfl), bl_ HB.out⟩
   · rw [if_neg c4] at H
     exact absurd H (by simp)
end Go.Proofs.YtjjajcldmkmgkaaDoor.PA
end
section
namespace Go.Proofs.YtjjajcldmkmgkaaDoor.PA
open Go.RowKit Go.Proofs.YtjjajcldmkmgkaaDoorW.PrintWords Go.Proofs.YtjjajcldmkmgkaaDoorW.PrintLast Go.Proofs.YtjjajcldmkmgkaaDoorW.PrintMore
attribute [local go_sem] max2_int min2_int max_two min_two max_three min_three max_four min_four
set_option linter.unusedVariables false
set_option linter.unusedSimpArgs false
def spec_IsSemigroup.f (k : Nat) (l0_0 : List Int) : Option (Bool) := (spec_l3Gens.f k l0_0).bind fun t202 => (if t202 = true then (if (l0_0.length : Int) ≤ 12 then ((spec_IsAscending.f k l0_0).bind fun t203 => (if t203 = true then ((spec_GcdOfList.f k l0_0).bind fun t204 => (if t204 = 1 then ((spec_l3Minimal.f k l0_0).bind fun t205 => ((spec_l2Same.f k t205 l0_0).bind fun t208 => (if t208 = true then ((spec_l3Ends.f k l0_0).bind fun t209 => (some t209)) else (some false)))) else (some false))) else (some false))) else (some false)) else (some false))
def spec_IsSemigroup.T1 : Bool × List (List Nat × List Nat) := (true, [([], []), ([0], [0]), ([1], [1]), ([2, 2], [2]), ([3], [3]), ([4, 3], [3, 4]), ([5, 3], [3, 5]), ([6, 3], [3, 6]), ([3, 7], [3, 7]), ([8, 3], [8]), ([9], [9]), ([10, 9], [9, 10]), ([11, 9, 9], [9, 11]), ([9, 12], [9, 12]), ([13, 12], [13]), ([14], [14]), ([15, 14], [14, 15]), ([16, 14, 14], [14, 16]), ([17, 14], [14, 17]), ([14, 18], [14, 18]), ([19, 17], [19]), ([20], [20]), ([21, 20], [20, 21]), ([22, 20, 20], [20, 22]), ([20], [20]), ([24, 20], [20, 24]), ([23, 25, 23, 20], [20, 23, 25]), ([20, 26], [20, 26]), ([27, 26], [27]), ([28], [28]), ([29, 28], [28, 29]), ([30, 28, 28], [28, 30]), ([28, 31], [28, 31]), ([32, 31, 0, 1, 2, 3, 4, 5, 6, 7, 8, 9, 10, 11, 12, 13, 14, 15, 16, 17, 18, 19, 20, 21, 22, 23, 24, 25, 26, 27, 28, 29, 30, 31, 32], [32])])
def spec_IsSemigroup.B1 : List Nat := [0, 1, 3, 7, 15, 31, 63, 127, 255, 511, 1023, 2047, 4095, 8191, 16383, 32767, 65535, 131071, 262143, 524287, 1048575, 2097151, 4194303, 8388607, 2097151, 18874367, 67108863, 134217727, 268435455, 536870911, 1073741823, 2147483647, 4294967295, 8589934591]
theorem spec_IsSemigroup.tab1 : rtab .any (opsOf Tryd.f10 1) = spec_IsSemigroup.T1 := by kernel_rfl
theorem spec_IsSemigroup.bits1 : waitsOk spec_IsSemigroup.T1.2 spec_IsSemigroup.B1 = true := by kernel_rfl
set_option maxHeartbeats 8000000 in
set_option maxRecDepth 100000 in
theorem spec_IsSemigroup.calls (k : Nat) (A0_0 : Option Addr) (c0_0 : Nat) (l0_0 : List Int) (r : Bool) (w : World) (hr0_0 : Kd.C (Kd.int .i64) w A0_0 l0_0.length l0_0) (hc0_0 : l0_0.length ≤ c0_0) (h : spec_IsSemigroup.f k l0_0 = some r) :
 Calls Tryd.prog 10 #[.agg #[.slice A0_0 l0_0.length c0_0]] w fun e w' => e = .returned (.bool r) ∧ Below w.heap.size w w' := by
 have hu27 := Tryd.underlying27
 have HR0_0 := Aside0.mk hr0_0
 have HC0_0 := Aside0.mk hc0_0
 clear hr0_0 hc0_0
 have HB := Aside0.mk (Below.refl w.heap.size w)
 have H : ((spec_l3Gens.f k l0_0).bind fun t202 => (if t202 = true then (if (l0_0.length : Int) ≤ 12 then ((spec_IsAscending.f k l0_0).bind fun t203 => (if t203 = true then ((spec_GcdOfList.f k l0_0).bind fun t204 => (if t204 = 1 then ((spec_l3Minimal.f k l0_0).bind fun t205 => ((spec_l2Same.f k t205 l0_0).bind fun t208 => (if t208 = true then ((spec_l3Ends.f k l0_0).bind fun t209 => (some t209)) else (some false)))) else (some false))) else (some false))) else (some false)) else (some false))) = some r := h
 clear h
 replace H := Option.bind_eq_some_iff.mp H
 obtain ⟨t202, A20, H⟩ := H
 have A2 := Aside0.mk A20
 clear A20
 by_cases c3 : t202 = true
 · subst c3
   rw [if_pos rfl] at H
   by_cases c4 : (l0_0.length : Int) ≤ 12
   · rw [if_pos c4] at H
     have c4b0 : decide ((l0_0.length : Int) ≤ 12) = true := decide_eq_true c4
     have c4b1 : decide (l0_0.length ≤ 12) = true := decide_eq_true (by omega)
     clear c4
     replace H := Option.bind_eq_some_iff.mp H
     obtain ⟨t203, A50, H⟩ := H
     have A5 := Aside0.mk A50
     clear A50
     by_cases c6 : t203 = true
     · subst c6
       rw [if_pos rfl] at H
       replace H := Option.bind_eq_some_iff.mp H
       obtain ⟨t204, A70, H⟩ := H
       have A7 := Aside0.mk A70
       clear A70
       by_cases c8 : t204 = 1
       · rw [if_pos c8] at H
         have c8b0 : (t204 == 1) = true := beq_iff_eq.mpr c8
         have c8b1 : (t204 != 1) = false := bne_eq_false_iff_eq.mpr c8
         clear c8
         replace H := Option.bind_eq_some_iff.mp H
         obtain ⟨t205, A90, H⟩ := H
         have A9 := Aside0.mk A90
         clear A90
         replace H := Option.bind_eq_some_iff.mp H
         obtain ⟨t208, A100, H⟩ := H
         have A10 := Aside0.mk A100
         clear A100
         by_cases c11 : t208 = true
         · subst c11
           rw [if_pos rfl] at H
           replace H := Option.bind_eq_some_iff.mp H
           obtain ⟨t209, A120, H⟩ := H
           have A12 := Aside0.mk A120
           clear A120
           obtain rfl := Option.some.inj H
           go_enter Tryd.func10, Tryd.ntmps10
           try go_wp2_with (first | ((with_reducible refine gate_dst (N := 1) rfl ?_); (try (refine gate_guard (by rfl) ?_; dsimp only)); refine box_event ?hg (N := 1) ?hd (cs := #[.slice A0_0 l0_0.length c0_0]) (t := 27) ?hr ?_; (case hd => rfl); (case hg => rfl); (case hr => first | (go_simp; done) | (go_simp; rfl)); intro gb201 hg w13 hbox hb; have BK201 := Aside0.mk (hbox); have GW201 := Aside0.mk ((by rw [hg]; exact (below_size (bl_ HB.out)) : w.heap.size ≤ gb201)); have GE201 := Aside0.mk ((by rw [hg]; exact (below_size (bl_ HB.out)) : w.heap.size ≤ gb201)); replace HB := Aside0.mk (below_step (bl_ HB.out) hb); clear hb hbox hg))
           replace BK201 := Aside0.mk (blk_drew BK201.out)
           replace HB := Aside0.mk (below_drew1 HB.out)
           refine start_ (n := 34) (S := fun w' => w'.cell? ⟨gb201, 0, none⟩ = some (.slice A0_0 l0_0.length c0_0)) (ds := []) (B_ 0 34) (by kernel_rfl) rfl rfl ((blk_cell BK201.out 0).trans rfl) (fun hHeld => ?_); refine with_tabW spec_IsSemigroup.tab1 spec_IsSemigroup.bits1 (fun HT_ HW_ => ?_)
           generalize w13.drew = w14 at BK201 HB hHeld ⊢
           refine pu_ HT_ 0 3 (B_ 1 34) ?_
           refine tk1_ HT_ HW_ hHeld 1 4 (B_ 3 34) ?_
           refine one_ (i := 2) (N := some 5) (B_ 7 34) rfl rfl (one_of HT_.out (by kernel_rfl)) (by decide) (fun K hK => ?_)
           refine goes_ Tryd.func34 (by kernel_rfl) rfl #[.slice A0_0 l0_0.length c0_0] (by rfl) rfl rfl (by (try simp only [List.map_toArray, List.map_cons, List.map_nil]); first | done | rfl | (simp only [List.length_drop, List.length_take]; rfl)) ?_
           with_reducible refine (spec_l3Gens.calls k _ _ l0_0 true _ ?side1 ?side2 A2.out).mono ?_
           (case side1 => exact ce_ ((Kd.C_below HR0_0.out HB.out)))
           (case side2 => exact HC0_0.out)
           rintro e w' ⟨rfl, ⟨nd, rfl⟩⟩
           refine ⟨_, rfl, ?_⟩
           refine hK.out _ _ ((blk_cell BK201.out 0).trans rfl) (fun hHeld => ?_)
           clear hK K
           refine norm_ (a' := ?_) ?_ ?_
           rotate_left
           · show Act.put _ (some 5) _ = _
             simp only [Act.put, z1_, z2_, z3_, i64_w, i32_w]
             rfl
           refine pu_ HT_ 3 6 (B_ 15 34) ?_
           refine pu_ HT_ 4 7 (B_ 31 34) ?_
           refine tk1_ HT_ HW_ hHeld 5 8 (B_ 63 34) ?_
           refine pu_ HT_ 6 9 (B_ 127 34) ?_
           refine pu_ HT_ 7 10 (B_ 255 34) ?_
           refine pu_ HT_ 8 11 (B_ 511 34) ?_
           refine pu_ HT_ 9 12 (B_ 1023 34) ?_
           refine pu_ HT_ 10 13 (B_ 2047 34) ?_
           refine tk1_ HT_ HW_ hHeld 11 14 (B_ 4095 34) ?_
           refine one_ (i := 12) (N := some 15) (B_ 8191 34) rfl rfl (one_of HT_.out (by kernel_rfl)) (by decide) (fun K hK => ?_)
           refine goes_ Tryd.func35 (by kernel_rfl) rfl #[.slice A0_0 l0_0.length c0_0] (by rfl) rfl rfl (by (try simp only [List.map_toArray, List.map_cons, List.map_nil]); first | done | rfl | (simp only [List.length_drop, List.length_take]; rfl)) ?_
           with_reducible refine (spec_IsAscending.calls k _ _ l0_0 true _ ?side1 ?side2 A5.out).mono ?_
           (case side1 => repeat (first | exact (Kd.C_below HR0_0.out (by repeat (first | (with_reducible first | exact HB.out | apply below_alloc | apply pw_below_drewN | apply below_drew1 | refine below_set ?_ GE201.out) | exact HB.out))) | (with_reducible refine Kd.C_alloc ?_ _) | (with_reducible refine Kd.C_drewN ?_ _) | (with_reducible refine Kd.C_drew ?_)))
           (case side2 => exact HC0_0.out)
           rintro e w' ⟨rfl, ⟨nd, rfl⟩⟩
           refine ⟨_, rfl, ?_⟩
           refine hK.out _ _ ((blk_cell BK201.out 0).trans rfl) (fun hHeld => ?_)
           clear hK K
           refine norm_ (a' := ?_) ?_ ?_
           rotate_left
           · show Act.put _ (some 15) _ = _
             simp only [Act.put, z1_, z2_, z3_, i64_w, i32_w]
             rfl
           refine pu_ HT_ 13 16 (B_ 16383 34) ?_
           refine pu_ HT_ 14 17 (B_ 32767 34) ?_
           refine pu_ HT_ 15 18 (B_ 65535 34) ?_
           refine tk1_ HT_ HW_ hHeld 16 19 (B_ 131071 34) ?_
           refine one_ (i := 17) (N := some 20) (B_ 262143 34) rfl rfl (one_of HT_.out (by kernel_rfl)) (by decide) (fun K hK => ?_)
           refine goes_ Tryd.func36 (by kernel_rfl) rfl #[.slice A0_0 l0_0.length c0_0] (by rfl) rfl rfl (by (try simp only [List.map_toArray, List.map_cons, List.map_nil]); first | done | rfl | (simp only [List.length_drop, List.length_take]; rfl)) ?_
           with_reducible refine (spec_GcdOfList.calls k _ _ l0_0 t204 _ ?side1 ?side2 A7.out).mono ?_
           (case side1 => repeat (first | exact (Kd.C_below HR0_0.out (by repeat (first | (with_reducible first | exact HB.out | apply below_alloc | apply pw_below_drewN | apply below_drew1 | refine below_set ?_ GE201.out) | exact HB.out))) | (with_reducible refine Kd.C_alloc ?_ _) | (with_reducible refine Kd.C_drewN ?_ _) | (with_reducible refine Kd.C_drew ?_)))
           (case side2 => exact HC0_0.out)
           rintro e w' ⟨rfl, ⟨nd, rfl⟩⟩
           refine ⟨_, rfl, ?_⟩
           refine hK.out _ _ ((blk_cell BK201.out 0).trans rfl) (fun hHeld => ?_)
           clear hK K
           refine norm_ (a' := ?_) ?_ ?_
           rotate_left
           · show Act.put _ (some 20) _ = _
             simp only [Act.put, z1_, z2_, z3_, i64_w, i32_w]
             rfl
           refine pu_ HT_ 18 21 (B_ 524287 34) ?_
           refine pu_ HT_ 19 22 (B_ 1048575 34) ?_
           refine pu_ HT_ 20 23 (B_ 2097151 34) ?_
           refine pu_ HT_ 21 24 (B_ 4194303 34) ?_
           refine pu_ HT_ 24 27 (B_ 20971519 34) ?_
           refine tk1_ HT_ HW_ hHeld 22 25 (B_ 25165823 34) ?_
           refine tk1_ HT_ HW_ hHeld 25 28 (B_ 58720255 34) ?_
           refine one_ (i := 23) (N := some 26) (B_ 67108863 34) rfl rfl (one_of HT_.out (by kernel_rfl)) (by decide) (fun K hK => ?_)
           refine goes_ Tryd.func38 (by kernel_rfl) rfl #[.slice A0_0 l0_0.length c0_0] (by rfl) rfl rfl (by (try simp only [List.map_toArray, List.map_cons, List.map_nil]); first | done | rfl | (simp only [List.length_drop, List.length_take]; rfl)) ?_
           with_reducible refine (spec_l3Minimal.calls k _ _ l0_0 t205 _ ?side1 ?side2 A9.out).mono ?_
           (case side1 => repeat (first | exact (Kd.C_below HR0_0.out (by repeat (first | (with_reducible first | exact HB.out | apply below_alloc | apply pw_below_drewN | apply below_drew1 | refine below_set ?_ GE201.out) | exact HB.out))) | (with_reducible refine Kd.C_alloc ?_ _) | (with_reducible refine Kd.C_drewN ?_ _) | (with_reducible refine Kd.C_drew ?_)))
           (case side2 => exact HC0_0.out)
           rintro e w15 ⟨v206, rfl, ho0, hb⟩
           refine ⟨_, rfl, ?_⟩
           have HO207 := Aside0.mk (Kd.R_lower ho0 (below_size (by repeat (first | (with_reducible first | exact HB.out | apply below_alloc | apply pw_below_drewN | apply below_drew1 | refine below_set ?_ GE201.out) | exact HB.out))))
           replace BK201 := Aside0.mk (blk_below (be_ BK201.out) hb)
           replace HB := Aside0.mk (below_step (by repeat (first | (with_reducible first | exact HB.out | apply below_alloc | apply pw_below_drewN | apply below_drew1 | refine below_set ?_ GE201.out) | exact HB.out)) hb)
           (try clear hb)
           (try clear hb2)
           (try clear hk)
           (try clear hi)
           (try clear ho0)
           obtain ⟨Ao16, co16, eo16⟩ := Kd.R_slice HO207.out
           (first | subst eo16 | (injection eo16 with f1_ f2_ f3_; have f4_ := f1_.symm; have f5_ := f3_.symm; clear f1_ f2_ f3_; subst f4_; subst f5_))
           refine hK.out _ _ ((blk_cell BK201.out 0).trans rfl) (fun hHeld => ?_)
           clear hK K
           refine norm_ (a' := ?_) ?_ ?_
           rotate_left
           · show Act.put _ (some 26) _ = _
             simp only [Act.put, z1_, z2_, z3_, i64_w, i32_w]
             rfl
           refine one_ (i := 26) (N := some 29) (B_ 134217727 34) rfl rfl (one_of HT_.out (by kernel_rfl)) (by decide) (fun K hK => ?_)
           refine goes_ Tryd.func37 (by kernel_rfl) rfl #[.slice Ao16 t205.length co16, .slice A0_0 l0_0.length c0_0] (by rfl) rfl rfl (by (try simp only [List.map_toArray, List.map_cons, List.map_nil]); first | done | rfl | (simp only [List.length_drop, List.length_take]; rfl)) ?_
           with_reducible refine (spec_l2Same.calls k _ _ t205 _ _ l0_0 true _ ?side1 ?side2 ?side3 ?side4 A10.out).mono ?_
           (case side1 => exact ce_ ((Kd.R_reads' HO207.out).2.2))
           (case side2 => exact (Kd.R_reads' HO207.out).2.1)
           (case side3 => exact ce_ ((Kd.C_below HR0_0.out HB.out)))
           (case side4 => exact HC0_0.out)
           rintro e w' ⟨rfl, ⟨nd, rfl⟩⟩
           refine ⟨_, rfl, ?_⟩
           refine hK.out _ _ ((blk_cell BK201.out 0).trans rfl) (fun hHeld => ?_)
           clear hK K
           refine norm_ (a' := ?_) ?_ ?_
           rotate_left
           · show Act.put _ (some 29) _ = _
             simp only [Act.put, z1_, z2_, z3_, i64_w, i32_w]
             rfl
           refine pu_ HT_ 27 30 (B_ 268435455 34) ?_
           refine pu_ HT_ 28 31 (B_ 536870911 34) ?_
           refine pu_ HT_ 29 32 (B_ 1073741823 34) ?_
           refine tk1_ HT_ HW_ hHeld 30 33 (B_ 2147483647 34) ?_
           refine one_ (i := 31) (N := some 34) (B_ 4294967295 34) rfl rfl (one_of HT_.out (by kernel_rfl)) (by decide) (fun K hK => ?_)
           refine goes_ Tryd.func39 (by kernel_rfl) rfl #[.slice A0_0 l0_0.length c0_0] (by rfl) rfl rfl (by (try simp only [List.map_toArray, List.map_cons, List.map_nil]); first | done | rfl | (simp only [List.length_drop, List.length_take]; rfl)) ?_
           with_reducible refine (spec_l3Ends.calls k _ _ l0_0 t209 _ ?side1 ?side2 A12.out).mono ?_
           (case side1 => repeat (first | exact (Kd.C_below HR0_0.out (by repeat (first | (with_reducible first | exact HB.out | apply below_alloc | apply pw_below_drewN | apply below_drew1 | refine below_set ?_ GE201.out) | exact HB.out))) | (with_reducible refine Kd.C_alloc ?_ _) | (with_reducible refine Kd.C_drewN ?_ _) | (with_reducible refine Kd.C_drew ?_)))
           (case side2 => exact HC0_0.out)
           rintro e w17 ⟨rfl, hb⟩
           refine ⟨_, rfl, ?_⟩
           replace HO207 := Aside0.mk (Kd.R_below (re_ HO207.out) hb)
           replace BK201 := Aside0.mk (blk_below (be_ BK201.out) hb)
           replace HB := Aside0.mk (below_step (by repeat (first | (with_reducible first | exact HB.out | apply below_alloc | apply pw_below_drewN | apply below_drew1 | refine below_set ?_ GE201.out) | exact HB.out)) hb)
           (try clear hb)
           (try clear hb2)
           (try clear hk)
           (try clear hi)
           refine hK.out _ _ ((blk_cell BK201.out 0).trans rfl) (fun hHeld => ?_)
           clear hK K
           refine norm_ (a' := ?_) ?_ ?_
           rotate_left
           · show Act.put _ (some 34) _ = _
             simp only [Act.put, z1_, z2_, z3_, i64_w, i32_w]
             rfl
           refine pu_ HT_ 32 35 (B_ 8589934591 34) ?_
           refine pu_ HT_ 33 2 (B_ 17179869183 34) ?_
           refine done_ (done_of HT_.out (by kernel_rfl)) ?_
           try go_wp2
           go_ret
           exact ⟨by first | rfl | (simp [errW_none, errW_some] <;> rfl) | (simp [*, errW_none, errW_some] <;> rfl), by repeat (first | (with_reducible first | exact HB.out | apply below_alloc | apply pw_below_drewN | apply below_drew1 | refine below_set ?_ GE201.out) | exact HB.out)⟩
         · replace c11 := Bool.eq_false_iff.mpr c11
           subst c11
           rw [if_neg (show ¬ (false = true) by decide)] at H
           obtain rfl := Option.some.inj H
           go_enter Tryd.func10, Tryd.ntmps10
           try go_wp2_with (first | ((with_reducible refine gate_dst (N := 1) rfl ?_); (try (refine gate_guard (by rfl) ?_; dsimp only)); refine box_event ?hg (N := 1) ?hd (cs := #[.slice A0_0 l0_0.length c0_0]) (t := 27) ?hr ?_; (case hd => rfl); (case hg => rfl); (case hr => first | (go_simp; done) | (go_simp; rfl)); intro gb201 hg w18 hbox hb; have BK201 := Aside0.mk (hbox); have GW201 := Aside0.mk ((by rw [hg]; exact (below_size (bl_ HB.out)) : w.heap.size ≤ gb201)); have GE201 := Aside0.mk ((by rw [hg]; exact (below_size (bl_ HB.out)) : w.heap.size ≤ gb201)); replace HB := Aside0.mk (below_step (bl_ HB.out) hb); clear hb hbox hg))
           replace BK201 := Aside0.mk (blk_drew BK201.out)
           replace HB := Aside0.mk (below_drew1 HB.out)
           refine start_ (n := 34) (S := fun w' => w'.cell? ⟨gb201, 0, none⟩ = some (.slice A0_0 l0_0.length c0_0)) (ds := []) (B_ 0 34) (by kernel_rfl) rfl rfl ((blk_cell BK201.out 0).trans rfl) (fun hHeld => ?_); refine with_tabW spec_IsSemigroup.tab1 spec_IsSemigroup.bits1 (fun HT_ HW_ => ?_)
           generalize w18.drew = w19 at BK201 HB hHeld ⊢
           refine pu_ HT_ 0 3 (B_ 1 34) ?_
           refine tk1_ HT_ HW_ hHeld 1 4 (B_ 3 34) ?_
           refine one_ (i := 2) (N := some 5) (B_ 7 34) rfl rfl (one_of HT_.out (by kernel_rfl)) (by decide) (fun K hK => ?_)
           refine goes_ Tryd.func34 (by kernel_rfl) rfl #[.slice A0_0 l0_0.length c0_0] (by rfl) rfl rfl (by (try simp only [List.map_toArray, List.map_cons, List.map_nil]); first | done | rfl | (simp only [List.length_drop, List.length_take]; rfl)) ?_
           with_reducible refine (spec_l3Gens.calls k _ _ l0_0 true _ ?side1 ?side2 A2.out).mono ?_
           (case side1 => exact ce_ ((Kd.C_below HR0_0.out HB.out)))
           (case side2 => exact HC0_0.out)
           rintro e w' ⟨rfl, ⟨nd, rfl⟩⟩
           refine ⟨_, rfl, ?_⟩
           refine hK.out _ _ ((blk_cell BK201.out 0).trans rfl) (fun hHeld => ?_)
           clear hK K
           refine norm_ (a' := ?_) ?_ ?_
           rotate_left
           · show Act.put _ (some 5) _ = _
             simp only [Act.put, z1_, z2_, z3_, i64_w, i32_w]
             rfl
           refine pu_ HT_ 3 6 (B_ 15 34) ?_
           refine pu_ HT_ 4 7 (B_ 31 34) ?_
           refine tk1_ HT_ HW_ hHeld 5 8 (B_ 63 34) ?_
           refine pu_ HT_ 6 9 (B_ 127 34) ?_
           refine pu_ HT_ 7 10 (B_ 255 34) ?_
           refine pu_ HT_ 8 11 (B_ 511 34) ?_
           refine pu_ HT_ 9 12 (B_ 1023 34) ?_
           refine pu_ HT_ 10 13 (B_ 2047 34) ?_
           refine tk1_ HT_ HW_ hHeld 11 14 (B_ 4095 34) ?_
           refine one_ (i := 12) (N := some 15) (B_ 8191 34) rfl rfl (one_of HT_.out (by kernel_rfl)) (by decide) (fun K hK => ?_)
           refine goes_ Tryd.func35 (by kernel_rfl) rfl #[.slice A0_0 l0_0.length c0_0] (by rfl) rfl rfl (by (try simp only [List.map_toArray, List.map_cons, List.map_nil]); first | done | rfl | (simp only [List.length_drop, List.length_take]; rfl)) ?_
           with_reducible refine (spec_IsAscending.calls k _ _ l0_0 true _ ?side1 ?side2 A5.out).mono ?_
           (case side1 => repeat (first | exact (Kd.C_below HR0_0.out (by repeat (first | (with_reducible first | exact HB.out | apply below_alloc | apply pw_below_drewN | apply below_drew1 | refine below_set ?_ GE201.out) | exact HB.out))) | (with_reducible refine Kd.C_alloc ?_ _) | (with_reducible refine Kd.C_drewN ?_ _) | (with_reducible refine Kd.C_drew ?_)))
           (case side2 => exact HC0_0.out)
           rintro e w' ⟨rfl, ⟨nd, rfl⟩⟩
           refine ⟨_, rfl, ?_⟩
           refine hK.out _ _ ((blk_cell BK201.out 0).trans rfl) (fun hHeld => ?_)
           clear hK K
           refine norm_ (a' := ?_) ?_ ?_
           rotate_left
           · show Act.put _ (some 15) _ = _
             simp only [Act.put, z1_, z2_, z3_, i64_w, i32_w]
             rfl
           refine pu_ HT_ 13 16 (B_ 16383 34) ?_
           refine pu_ HT_ 14 17 (B_ 32767 34) ?_
           refine pu_ HT_ 15 18 (B_ 65535 34) ?_
           refine tk1_ HT_ HW_ hHeld 16 19 (B_ 131071 34) ?_
           refine one_ (i := 17) (N := some 20) (B_ 262143 34) rfl rfl (one_of HT_.out (by kernel_rfl)) (by decide) (fun K hK => ?_)
           refine goes_ Tryd.func36 (by kernel_rfl) rfl #[.slice A0_0 l0_0.length c0_0] (by rfl) rfl rfl (by (try simp only [List.map_toArray, List.map_cons, List.map_nil]); first | done | rfl | (simp only [List.length_drop, List.length_take]; rfl)) ?_
           with_reducible refine (spec_GcdOfList.calls k _ _ l0_0 t204 _ ?side1 ?side2 A7.out).mono ?_
           (case side1 => repeat (first | exact (Kd.C_below HR0_0.out (by repeat (first | (with_reducible first | exact HB.out | apply below_alloc | apply pw_below_drewN | apply below_drew1 | refine below_set ?_ GE201.out) | exact HB.out))) | (with_reducible refine Kd.C_alloc ?_ _) | (with_reducible refine Kd.C_drewN ?_ _) | (with_reducible refine Kd.C_drew ?_)))
           (case side2 => exact HC0_0.out)
           rintro e w' ⟨rfl, ⟨nd, rfl⟩⟩
           refine ⟨_, rfl, ?_⟩
           refine hK.out _ _ ((blk_cell BK201.out 0).trans rfl) (fun hHeld => ?_)
           clear hK K
           refine norm_ (a' := ?_) ?_ ?_
           rotate_left
           · show Act.put _ (some 20) _ = _
             simp only [Act.put, z1_, z2_, z3_, i64_w, i32_w]
             rfl
           refine pu_ HT_ 18 21 (B_ 524287 34) ?_
           refine pu_ HT_ 19 22 (B_ 1048575 34) ?_
           refine pu_ HT_ 20 23 (B_ 2097151 34) ?_
           refine pu_ HT_ 21 24 (B_ 4194303 34) ?_
           refine pu_ HT_ 24 27 (B_ 20971519 34) ?_
           refine tk1_ HT_ HW_ hHeld 22 25 (B_ 25165823 34) ?_
           refine tk1_ HT_ HW_ hHeld 25 28 (B_ 58720255 34) ?_
           refine one_ (i := 23) (N := some 26) (B_ 67108863 34) rfl rfl (one_of HT_.out (by kernel_rfl)) (by decide) (fun K hK => ?_)
           refine goes_ Tryd.func38 (by kernel_rfl) rfl #[.slice A0_0 l0_0.length c0_0] (by rfl) rfl rfl (by (try simp only [List.map_toArray, List.map_cons, List.map_nil]); first | done | rfl | (simp only [List.length_drop, List.length_take]; rfl)) ?_
           with_reducible refine (spec_l3Minimal.calls k _ _ l0_0 t205 _ ?side1 ?side2 A9.out).mono ?_
           (case side1 => repeat (first | exact (Kd.C_below HR0_0.out (by repeat (first | (with_reducible first | exact HB.out | apply below_alloc | apply pw_below_drewN | apply below_drew1 | refine below_set ?_ GE201.out) | exact HB.out))) | (with_reducible refine Kd.C_alloc ?_ _) | (with_reducible refine Kd.C_drewN ?_ _) | (with_reducible refine Kd.C_drew ?_)))
           (case side2 => exact HC0_0.out)
           rintro e w20 ⟨v206, rfl, ho0, hb⟩
           refine ⟨_, rfl, ?_⟩
           have HO207 := Aside0.mk (Kd.R_lower ho0 (below_size (by repeat (first | (with_reducible first | exact HB.out | apply below_alloc | apply pw_below_drewN | apply below_drew1 | refine below_set ?_ GE201.out) | exact HB.out))))
           replace BK201 := Aside0.mk (blk_below (be_ BK201.out) hb)
           replace HB := Aside0.mk (below_step (by repeat (first | (with_reducible first | exact HB.out | apply below_alloc | apply pw_below_drewN | apply below_drew1 | refine below_set ?_ GE201.out) | exact HB.out)) hb)
           (try clear hb)
           (try clear hb2)
           (try clear hk)
           (try clear hi)
           (try clear ho0)
           obtain ⟨Ao21, co21, eo21⟩ := Kd.R_slice HO207.out
           (first | subst eo21 | (injection eo21 with f1_ f2_ f3_; have f4_ := f1_.symm; have f5_ := f3_.symm; clear f1_ f2_ f3_; subst f4_; subst f5_))
           refine hK.out _ _ ((blk_cell BK201.out 0).trans rfl) (fun hHeld => ?_)
           clear hK K
           refine norm_ (a' := ?_) ?_ ?_
           rotate_left
           · show Act.put _ (some 26) _ = _
             simp only [Act.put, z1_, z2_, z3_, i64_w, i32_w]
             rfl
           refine one_ (i := 26) (N := some 29) (B_ 134217727 34) rfl rfl (one_of HT_.out (by kernel_rfl)) (by decide) (fun K hK => ?_)
           refine goes_ Tryd.func37 (by kernel_rfl) rfl #[.slice Ao21 t205.length co21, .slice A0_0 l0_0.length c0_0] (by rfl) rfl rfl (by (try simp only [List.map_toArray, List.map_cons, List.map_nil]); first | done | rfl | (simp only [List.length_drop, List.length_take]; rfl)) ?_
           with_reducible refine (spec_l2Same.calls k _ _ t205 _ _ l0_0 false _ ?side1 ?side2 ?side3 ?side4 A10.out).mono ?_
           (case side1 => exact ce_ ((Kd.R_reads' HO207.out).2.2))
           (case side2 => exact (Kd.R_reads' HO207.out).2.1)
           (case side3 => exact ce_ ((Kd.C_below HR0_0.out HB.out)))
           (case side4 => exact HC0_0.out)
           rintro e w' ⟨rfl, ⟨nd, rfl⟩⟩
           refine ⟨_, rfl, ?_⟩
           refine hK.out _ _ ((blk_cell BK201.out 0).trans rfl) (fun hHeld => ?_)
           clear hK K
           refine norm_ (a' := ?_) ?_ ?_
           rotate_left
           · show Act.put _ (some 29) _ = _
             simp only [Act.put, z1_, z2_, z3_, i64_w, i32_w]
             rfl
           refine pu_ HT_ 27 30 (B_ 268435455 34) ?_
           refine pu_ HT_ 28 31 (B_ 536870911 34) ?_
           refine pn_ HT_ 29 32 (B_ 1073741823 34) ?_
           refine pn_ HT_ 30 33 (B_ 2147483647 34) ?_
           refine pn_ HT_ 31 34 (B_ 4294967295 34) ?_
           refine pu_ HT_ 32 35 (B_ 8589934591 34) ?_
           refine pu_ HT_ 33 2 (B_ 17179869183 34) ?_
           refine done_ (done_of HT_.out (by kernel_rfl)) ?_
           try go_wp2
           go_ret
           exact ⟨by first | rfl | (simp [errW_none, errW_some] <;> rfl) | (simp [*, errW_none, errW_some] <;> rfl), by repeat (first | (with_reducible first | exact HB.out | apply below_alloc | apply pw_below_drewN | apply below_drew1 | refine below_set ?_ GE201.out) | exact HB.out)⟩
       · rw [if_neg c8] at H
         have c8b0 : (t204 == 1) = false := beq_eq_false_iff_ne.mpr c8
         have c8b1 : (t204 != 1) = true := bne_iff_ne.mpr c8
         obtain rfl := Option.some.inj H
         go_enter Tryd.func10, Tryd.ntmps10
         try go_wp2_with (first | ((with_reducible refine gate_dst (N := 1) rfl ?_); (try (refine gate_guard (by rfl) ?_; dsimp only)); refine box_event ?hg (N := 1) ?hd (cs := #[.slice A0_0 l0_0.length c0_0]) (t := 27) ?hr ?_; (case hd => rfl); (case hg => rfl); (case hr => first | (go_simp; done) | (go_simp; rfl)); intro gb201 hg w22 hbox hb; have BK201 := Aside0.mk (hbox); have GW201 := Aside0.mk ((by rw [hg]; exact (below_size (bl_ HB.out)) : w.heap.size ≤ gb201)); have GE201 := Aside0.mk ((by rw [hg]; exact (below_size (bl_ HB.out)) : w.heap.size ≤ gb201)); replace HB := Aside0.mk (below_step (bl_ HB.out) hb); clear hb hbox hg))
         replace BK201 := Aside0.mk (blk_drew BK201.out)
         replace HB := Aside0.mk (below_drew1 HB.out)
         refine start_ (n := 34) (S := fun w' => w'.cell? ⟨gb201, 0, none⟩ = some (.slice A0_0 l0_0.length c0_0)) (ds := []) (B_ 0 34) (by kernel_rfl) rfl rfl ((blk_cell BK201.out 0).trans rfl) (fun hHeld => ?_); refine with_tabW spec_IsSemigroup.tab1 spec_IsSemigroup.bits1 (fun HT_ HW_ => ?_)
         generalize w22.drew = w23 at BK201 HB hHeld ⊢
         refine pu_ HT_ 0 3 (B_ 1 34) ?_
         refine tk1_ HT_ HW_ hHeld 1 4 (B_ 3 34) ?_
         refine one_ (i := 2) (N := some 5) (B_ 7 34) rfl rfl (one_of HT_.out (by kernel_rfl)) (by decide) (fun K hK => ?_)
         refine goes_ Tryd.func34 (by kernel_rfl) rfl #[.slice A0_0 l0_0.length c0_0] (by rfl) rfl rfl (by (try simp only [List.map_toArray, List.map_cons, List.map_nil]); first | done | rfl | (simp only [List.length_drop, List.length_take]; rfl)) ?_
         with_reducible refine (spec_l3Gens.calls k _ _ l0_0 true _ ?side1 ?side2 A2.out).mono ?_
         (case side1 => exact ce_ ((Kd.C_below HR0_0.out HB.out)))
         (case side2 => exact HC0_0.out)
         rintro e w' ⟨rfl, ⟨nd, rfl⟩⟩
         refine ⟨_, rfl, ?_⟩
         refine hK.out _ _ ((blk_cell BK201.out 0).trans rfl) (fun hHeld => ?_)
         clear hK K
         refine norm_ (a' := ?_) ?_ ?_
         rotate_left
         · show Act.put _ (some 5) _ = _
           simp only [Act.put, z1_, z2_, z3_, i64_w, i32_w]
           rfl
         refine pu_ HT_ 3 6 (B_ 15 34) ?_
         refine pu_ HT_ 4 7 (B_ 31 34) ?_
         refine tk1_ HT_ HW_ hHeld 5 8 (B_ 63 34) ?_
         refine pu_ HT_ 6 9 (B_ 127 34) ?_
         refine pu_ HT_ 7 10 (B_ 255 34) ?_
         refine pu_ HT_ 8 11 (B_ 511 34) ?_
         refine pu_ HT_ 9 12 (B_ 1023 34) ?_
         refine pu_ HT_ 10 13 (B_ 2047 34) ?_
         refine tk1_ HT_ HW_ hHeld 11 14 (B_ 4095 34) ?_
         refine one_ (i := 12) (N := some 15) (B_ 8191 34) rfl rfl (one_of HT_.out (by kernel_rfl)) (by decide) (fun K hK => ?_)
         refine goes_ Tryd.func35 (by kernel_rfl) rfl #[.slice A0_0 l0_0.length c0_0] (by rfl) rfl rfl (by (try simp only [List.map_toArray, List.map_cons, List.map_nil]); first | done | rfl | (simp only [List.length_drop, List.length_take]; rfl)) ?_
         with_reducible refine (spec_IsAscending.calls k _ _ l0_0 true _ ?side1 ?side2 A5.out).mono ?_
         (case side1 => repeat (first | exact (Kd.C_below HR0_0.out (by repeat (first | (with_reducible first | exact HB.out | apply below_alloc | apply pw_below_drewN | apply below_drew1 | refine below_set ?_ GE201.out) | exact HB.out))) | (with_reducible refine Kd.C_alloc ?_ _) | (with_reducible refine Kd.C_drewN ?_ _) | (with_reducible refine Kd.C_drew ?_)))
         (case side2 => exact HC0_0.out)
         rintro e w' ⟨rfl, ⟨nd, rfl⟩⟩
         refine ⟨_, rfl, ?_⟩
         refine hK.out _ _ ((blk_cell BK201.out 0).trans rfl) (fun hHeld => ?_)
         clear hK K
         refine norm_ (a' := ?_) ?_ ?_
         rotate_left
         · show Act.put _ (some 15) _ = _
           simp only [Act.put, z1_, z2_, z3_, i64_w, i32_w]
           rfl
         refine pu_ HT_ 13 16 (B_ 16383 34) ?_
         refine pu_ HT_ 14 17 (B_ 32767 34) ?_
         refine pu_ HT_ 15 18 (B_ 65535 34) ?_
         refine tk1_ HT_ HW_ hHeld 16 19 (B_ 131071 34) ?_
         refine one_ (i := 17) (N := some 20) (B_ 262143 34) rfl rfl (one_of HT_.out (by kernel_rfl)) (by decide) (fun K hK => ?_)
         refine goes_ Tryd.func36 (by kernel_rfl) rfl #[.slice A0_0 l0_0.length c0_0] (by rfl) rfl rfl (by (try simp only [List.map_toArray, List.map_cons, List.map_nil]); first | done | rfl | (simp only [List.length_drop, List.length_take]; rfl)) ?_
         with_reducible refine (spec_GcdOfList.calls k _ _ l0_0 t204 _ ?side1 ?side2 A7.out).mono ?_
         (case side1 => repeat (first | exact (Kd.C_below HR0_0.out (by repeat (first | (with_reducible first | exact HB.out | apply below_alloc | apply pw_below_drewN | apply below_drew1 | refine below_set ?_ GE201.out) | exact HB.out))) | (with_reducible refine Kd.C_alloc ?_ _) | (with_reducible refine Kd.C_drewN ?_ _) | (with_reducible refine Kd.C_drew ?_)))
         (case side2 => exact HC0_0.out)
         rintro e w' ⟨rfl, ⟨nd, rfl⟩⟩
         refine ⟨_, rfl, ?_⟩
         refine hK.out _ _ ((blk_cell BK201.out 0).trans rfl) (fun hHeld => ?_)
         clear hK K
         refine norm_ (a' := ?_) ?_ ?_
         rotate_left
         · show Act.put _ (some 20) _ = _
           simp only [Act.put, z1_, z2_, z3_, i64_w, i32_w]
           rfl
         refine pu_ HT_ 18 21 (B_ 524287 34) ?_
         refine pu_ HT_ 19 22 (B_ 1048575 34) ?_
         refine pu_ HT_ 20 23 (B_ 2097151 34) ?_
         refine pn_ HT_ 21 24 (B_ 4194303 34) ?_
         refine pn_ HT_ 22 25 (B_ 8388607 34) ?_
         refine pn_ HT_ 23 26 (B_ 16777215 34) ?_
         refine pn_ HT_ 24 27 (B_ 33554431 34) ?_
         refine pn_ HT_ 25 28 (B_ 67108863 34) ?_
         refine pn_ HT_ 26 29 (B_ 134217727 34) ?_
         refine pu_ HT_ 27 30 (B_ 268435455 34) ?_
         refine pu_ HT_ 28 31 (B_ 536870911 34) ?_
         refine pn_ HT_ 29 32 (B_ 1073741823 34) ?_
         refine pn_ HT_ 30 33 (B_ 2147483647 34) ?_
         refine pn_ HT_ 31 34 (B_ 4294967295 34) ?_
         refine pu_ HT_ 32 35 (B_ 8589934591 34) ?_
         refine pu_ HT_ 33 2 (B_ 17179869183 34) ?_
         refine done_ (done_of HT_.out (by kernel_rfl)) ?_
         try go_wp2
         go_ret
         exact ⟨by first | rfl | (simp [errW_none, errW_some] <;> rfl) | (simp [*, errW_none, errW_some] <;> rfl), by repeat (first | (with_reducible first | exact HB.out | apply below_alloc | apply pw_below_drewN | apply below_drew1 | refine below_set ?_ GE201.out) | exact HB.out)⟩
     · replace c6 := Bool.eq_false_iff.mpr c6
       subst c6
       rw [if_neg (show ¬ (false = true) by decide)] at H
       obtain rfl := Option.some.inj H
       go_enter Tryd.func10, Tryd.ntmps10
       try go_wp2_with (first | ((with_reducible refine gate_dst (N := 1) rfl ?_); (try (refine gate_guard (by rfl) ?_; dsimp only)); refine box_event ?hg (N := 1) ?hd (cs := #[.slice A0_0 l0_0.length c0_0]) (t := 27) ?hr ?_; (case hd => rfl); (case hg => rfl); (case hr => first | (go_simp; done) | (go_simp; rfl)); intro gb201 hg w24 hbox hb; have BK201 := Aside0.mk (hbox); have GW201 := Aside0.mk ((by rw [hg]; exact (below_size (bl_ HB.out)) : w.heap.size ≤ gb201)); have GE201 := Aside0.mk ((by rw [hg]; exact (below_size (bl_ HB.out)) : w.heap.size ≤ gb201)); replace HB := Aside0.mk (below_step (bl_ HB.out) hb); clear hb hbox hg))
       replace BK201 := Aside0.mk (blk_drew BK201.out)
       replace HB := Aside0.mk (below_drew1 HB.out)
       refine start_ (n := 34) (S := fun w' => w'.cell? ⟨gb201, 0, none⟩ = some (.slice A0_0 l0_0.length c0_0)) (ds := []) (B_ 0 34) (by kernel_rfl) rfl rfl ((blk_cell BK201.out 0).trans rfl) (fun hHeld => ?_); refine with_tabW spec_IsSemigroup.tab1 spec_IsSemigroup.bits1 (fun HT_ HW_ => ?_)
       generalize w24.drew = w25 at BK201 HB hHeld ⊢
       refine pu_ HT_ 0 3 (B_ 1 34) ?_
       refine tk1_ HT_ HW_ hHeld 1 4 (B_ 3 34) ?_
       refine one_ (i := 2) (N := some 5) (B_ 7 34) rfl rfl (one_of HT_.out (by kernel_rfl)) (by decide) (fun K hK => ?_)
       refine goes_ Tryd.func34 (by kernel_rfl) rfl #[.slice A0_0 l0_0.length c0_0] (by rfl) rfl rfl (by (try simp only [List.map_toArray, List.map_cons, List.map_nil]); first | done | rfl | (simp only [List.length_drop, List.length_take]; rfl)) ?_
       with_reducible refine (spec_l3Gens.calls k _ _ l0_0 true _ ?side1 ?side2 A2.out).mono ?_
       (case side1 => exact ce_ ((Kd.C_below HR0_0.out HB.out)))
       (case side2 => exact HC0_0.out)
       rintro e w' ⟨rfl, ⟨nd, rfl⟩⟩
       refine ⟨_, rfl, ?_⟩
       refine hK.out _ _ ((blk_cell BK201.out 0).trans rfl) (fun hHeld => ?_)
       clear hK K
       refine norm_ (a' := ?_) ?_ ?_
       rotate_left
       · show Act.put _ (some 5) _ = _
         simp only [Act.put, z1_, z2_, z3_, i64_w, i32_w]
         rfl
       refine pu_ HT_ 3 6 (B_ 15 34) ?_
       refine pu_ HT_ 4 7 (B_ 31 34) ?_
       refine tk1_ HT_ HW_ hHeld 5 8 (B_ 63 34) ?_
       refine pu_ HT_ 6 9 (B_ 127 34) ?_
       refine pu_ HT_ 7 10 (B_ 255 34) ?_
       refine pu_ HT_ 8 11 (B_ 511 34) ?_
       refine pu_ HT_ 9 12 (B_ 1023 34) ?_
       refine pu_ HT_ 10 13 (B_ 2047 34) ?_
       refine tk1_ HT_ HW_ hHeld 11 14 (B_ 4095 34) ?_
       refine one_ (i := 12) (N := some 15) (B_ 8191 34) rfl rfl (one_of HT_.out (by kernel_rfl)) (by decide) (fun K hK => ?_)
       refine goes_ Tryd.func35 (by kernel_rfl) rfl #[.slice A0_0 l0_0.length c0_0] (by rfl) rfl rfl (by (try simp only [List.map_toArray, List.map_cons, List.map_nil]); first | done | rfl | (simp only [List.length_drop, List.length_take]; rfl)) ?_
       with_reducible refine (spec_IsAscending.calls k _ _ l0_0 false _ ?side1 ?side2 A5.out).mono ?_
       (case side1 => repeat (first | exact (Kd.C_below HR0_0.out (by repeat (first | (with_reducible first | exact HB.out | apply below_alloc | apply pw_below_drewN | apply below_drew1 | refine below_set ?_ GE201.out) | exact HB.out))) | (with_reducible refine Kd.C_alloc ?_ _) | (with_reducible refine Kd.C_drewN ?_ _) | (with_reducible refine Kd.C_drew ?_)))
       (case side2 => exact HC0_0.out)
       rintro e w' ⟨rfl, ⟨nd, rfl⟩⟩
       refine ⟨_, rfl, ?_⟩
       refine hK.out _ _ ((blk_cell BK201.out 0).trans rfl) (fun hHeld => ?_)
       clear hK K
       refine norm_ (a' := ?_) ?_ ?_
       rotate_left
       · show Act.put _ (some 15) _ = _
         simp only [Act.put, z1_, z2_, z3_, i64_w, i32_w]
         rfl
       refine pu_ HT_ 13 16 (B_ 16383 34) ?_
       refine pu_ HT_ 14 17 (B_ 32767 34) ?_
       refine pn_ HT_ 15 18 (B_ 65535 34) ?_
       refine pn_ HT_ 16 19 (B_ 131071 34) ?_
       refine pn_ HT_ 17 20 (B_ 262143 34) ?_
       refine pn_ HT_ 18 21 (B_ 524287 34) ?_
       refine pu_ HT_ 19 22 (B_ 1048575 34) ?_
       refine pu_ HT_ 20 23 (B_ 2097151 34) ?_
       refine pn_ HT_ 21 24 (B_ 4194303 34) ?_
       refine pn_ HT_ 22 25 (B_ 8388607 34) ?_
       refine pn_ HT_ 23 26 (B_ 16777215 34) ?_
       refine pn_ HT_ 24 27 (B_ 33554431 34) ?_
       refine pn_ HT_ 25 28 (B_ 67108863 34) ?_
       refine pn_ HT_ 26 29 (B_ 134217727 34) ?_
       refine pu_ HT_ 27 30 (B_ 268435455 34) ?_
       refine pu_ HT_ 28 31 (B_ 536870911 34) ?_
       refine pn_ HT_ 29 32 (B_ 1073741823 34) ?_
       refine pn_ HT_ 30 33 (B_ 2147483647 34) ?_
       refine pn_ HT_ 31 34 (B_ 4294967295 34) ?_
       refine pu_ HT_ 32 35 (B_ 8589934591 34) ?_
       refine pu_ HT_ 33 2 (B_ 17179869183 34) ?_
       refine done_ (done_of HT_.out (by kernel_rfl)) ?_
       try go_wp2
       go_ret
       exact ⟨by first | rfl | (simp [errW_none, errW_some] <;> rfl) | (simp [*, errW_none, errW_some] <;> rfl), by repeat (first | (with_reducible first | exact HB.out | apply below_alloc | apply pw_below_drewN | apply below_drew1 | refine below_set ?_ GE201.out) | exact HB.out)⟩
   · rw [if_neg c4] at H
     have c4b0 : decide ((l0_0.length : Int) ≤ 12) = false := decide_eq_false c4
     have c4b1 : decide (l0_0.length ≤ 12) = false := decide_eq_false (by omega)
     clear c4
     obtain rfl := Option.some.inj H
     go_enter Tryd.func10, Tryd.ntmps10
     try go_wp2_with (first | ((with_reducible refine gate_dst (N := 1) rfl ?_); (try (refine gate_guard (by rfl) ?_; dsimp only)); refine box_event ?hg (N := 1) ?hd (cs := #[.slice A0_0 l0_0.length c0_0]) (t := 27) ?hr ?_; (case hd => rfl); (case hg => rfl); (case hr => first | (go_simp; done) | (go_simp; rfl)); intro gb201 hg w26 hbox hb; have BK201 := Aside0.mk (hbox); have GW201 := Aside0.mk ((by rw [hg]; exact (below_size (bl_ HB.out)) : w.heap.size ≤ gb201)); have GE201 := Aside0.mk ((by rw [hg]; exact (below_size (bl_ HB.out)) : w.heap.size ≤ gb201)); replace HB := Aside0.mk (below_step (bl_ HB.out) hb); clear hb hbox hg))
     replace BK201 := Aside0.mk (blk_drew BK201.out)
     replace HB := Aside0.mk (below_drew1 HB.out)
     refine start_ (n := 34) (S := fun w' => w'.cell? ⟨gb201, 0, none⟩ = some (.slice A0_0 l0_0.length c0_0)) (ds := []) (B_ 0 34) (by kernel_rfl) rfl rfl ((blk_cell BK201.out 0).trans rfl) (fun hHeld => ?_); refine with_tabW spec_IsSemigroup.tab1 spec_IsSemigroup.bits1 (fun HT_ HW_ => ?_)
     generalize w26.drew = w27 at BK201 HB hHeld ⊢
     refine pu_ HT_ 0 3 (B_ 1 34) ?_
     refine tk1_ HT_ HW_ hHeld 1 4 (B_ 3 34) ?_
     refine one_ (i := 2) (N := some 5) (B_ 7 34) rfl rfl (one_of HT_.out (by kernel_rfl)) (by decide) (fun K hK => ?_)
     refine goes_ Tryd.func34 (by kernel_rfl) rfl #[.slice A0_0 l0_0.length c0_0] (by rfl) rfl rfl (by (try simp only [List.map_toArray, List.map_cons, List.map_nil]); first | done | rfl | (simp only [List.length_drop, List.length_take]; rfl)) ?_
     with_reducible refine (spec_l3Gens.calls k _ _ l0_0 true _ ?side1 ?side2 A2.out).mono ?_
     (case side1 => exact ce_ ((Kd.C_below HR0_0.out HB.out)))
     (case side2 => exact HC0_0.out)
     rintro e w' ⟨rfl, ⟨nd, rfl⟩⟩
     refine ⟨_, rfl, ?_⟩
     refine hK.out _ _ ((blk_cell BK201.out 0).trans rfl) (fun hHeld => ?_)
     clear hK K
     refine norm_ (a' := ?_) ?_ ?_
     rotate_left
     · show Act.put _ (some 5) _ = _
       simp only [Act.put, z1_, z2_, z3_, i64_w, i32_w]
       rfl
     refine pu_ HT_ 3 6 (B_ 15 34) ?_
     refine pu_ HT_ 4 7 (B_ 31 34) ?_
     refine tk1_ HT_ HW_ hHeld 5 8 (B_ 63 34) ?_
     refine pu_ HT_ 6 9 (B_ 127 34) ?_
     refine pu_ HT_ 7 10 (B_ 255 34) ?_
     refine pu_ HT_ 8 11 (B_ 511 34) ?_
     refine pu_ HT_ 9 12 (B_ 1023 34) ?_
     refine pn_ HT_ 10 13 (B_ 2047 34) ?_
     refine pn_ HT_ 11 14 (B_ 4095 34) ?_
     refine pn_ HT_ 12 15 (B_ 8191 34) ?_
     refine pu_ HT_ 13 16 (B_ 16383 34) ?_
     refine pu_ HT_ 14 17 (B_ 32767 34) ?_
     refine pn_ HT_ 15 18 (B_ 65535 34) ?_
     refine pn_ HT_ 16 19 (B_ 131071 34) ?_
     refine pn_ HT_ 17 20 (B_ 262143 34) ?_
     refine pn_ HT_ 18 21 (B_ 524287 34) ?_
     refine pu_ HT_ 19 22 (B_ 1048575 34) ?_
     refine pu_ HT_ 20 23 (B_ 2097151 34) ?_
     refine pn_ HT_ 21 24 (B_ 4194303 34) ?_
     refine pn_ HT_ 22 25 (B_ 8388607 34) ?_
     refine pn_ HT_ 23 26 (B_ 16777215 34) ?_
     refine pn_ HT_ 24 27 (B_ 33554431 34) ?_
     refine pn_ HT_ 25 28 (B_ 67108863 34) ?_
     refine pn_ HT_ 26 29 (B_ 134217727 34) ?_
     refine pu_ HT_ 27 30 (B_ 268435455 34) ?_
     refine pu_ HT_ 28 31 (B_ 536870911 34) ?_
     refine pn_ HT_ 29 32 (B_ 1073741823 34) ?_
     refine pn_ HT_ 30 33 (B_ 2147483647 34) ?_
     refine pn_ HT_ 31 34 (B_ 4294967295 34) ?_
     refine pu_ HT_ 32 35 (B_ 8589934591 34) ?_
     refine pu_ HT_ 33 2 (B_ 17179869183 34) ?_
     refine done_ (done_of HT_.out (by kernel_rfl)) ?_
     try go_wp2
     go_ret
     exact ⟨by first | rfl | (simp [errW_none, errW_some] <;> rfl) | (simp [*, errW_none, errW_some] <;> rfl), by repeat (first | (with_reducible first | exact HB.out | apply below_alloc | apply pw_below_drewN | apply below_drew1 | refine below_set ?_ GE201.out) | exact HB.out)⟩
 · replace c3 := Bool.eq_false_iff.mpr c3
   subst c3
   rw [if_neg (show ¬ (false = true) by decide)] at H
   obtain rfl := Option.some.inj H
   go_enter Tryd.func10, Tryd.ntmps10
   try go_wp2_with (first | ((with_reducible refine gate_dst (N := 1) rfl ?_); (try (refine gate_guard (by rfl) ?_; dsimp only)); refine box_event ?hg (N := 1) ?hd (cs := #[.slice A0_0 l0_0.length c0_0]) (t := 27) ?hr ?_; (case hd => rfl); (case hg => rfl); (case hr => first | (go_simp; done) | (go_simp; rfl)); intro gb201 hg w28 hbox hb; have BK201 := Aside0.mk (hbox); have GW201 := Aside0.mk ((by rw [hg]; exact (below_size (bl_ HB.out)) : w.heap.size ≤ gb201)); have GE201 := Aside0.mk ((by rw [hg]; exact (below_size (bl_ HB.out)) : w.heap.size ≤ gb201)); replace HB := Aside0.mk (below_step (bl_ HB.out) hb); clear hb hbox hg))
   replace BK201 := Aside0.mk (blk_drew BK201.out)
   replace HB := Aside0.mk (below_drew1 HB.out)
   refine start_ (n := 34) (S := fun w' => w'.cell? ⟨gb201, 0, none⟩ = some (.slice A0_0 l0_0.length c0_0)) (ds := []) (B_ 0 34) (by kernel_rfl) rfl rfl ((blk_cell BK201.out 0).trans rfl) (fun hHeld => ?_); refine with_tabW spec_IsSemigroup.tab1 spec_IsSemigroup.bits1 (fun HT_ HW_ => ?_)
   generalize w28.drew = w29 at BK201 HB hHeld ⊢
   refine pu_ HT_ 0 3 (B_ 1 34) ?_
   refine tk1_ HT_ HW_ hHeld 1 4 (B_ 3 34) ?_
   refine one_ (i := 2) (N := some 5) (B_ 7 34) rfl rfl (one_of HT_.out (by kernel_rfl)) (by decide) (fun K hK => ?_)
   refine goes_ Tryd.func34 (by kernel_rfl) rfl #[.slice A0_0 l0_0.length c0_0] (by rfl) rfl rfl (by (try simp only [List.map_toArray, List.map_cons, List.map_nil]); first | done | rfl | (simp only [List.length_drop, List.length_take]; rfl)) ?_
   with_reducible refine (spec_l3Gens.calls k _ _ l0_0 false _ ?side1 ?side2 A2.out).mono ?_
   (case side1 => exact ce_ ((Kd.C_below HR0_0.out HB.out)))
   (case side2 => exact HC0_0.out)
   rintro e w' ⟨rfl, ⟨nd, rfl⟩⟩
   refine ⟨_, rfl, ?_⟩
   refine hK.out _ _ ((blk_cell BK201.out 0).trans rfl) (fun hHeld => ?_)
   clear hK K
   refine norm_ (a' := ?_) ?_ ?_
   rotate_left
   · show Act.put _ (some 5) _ = _
     simp only [Act.put, z1_, z2_, z3_, i64_w, i32_w]
     rfl
   refine pu_ HT_ 3 6 (B_ 15 34) ?_
   refine pn_ HT_ 4 7 (B_ 31 34) ?_
   refine pn_ HT_ 5 8 (B_ 63 34) ?_
   refine pn_ HT_ 6 9 (B_ 127 34) ?_
   refine pn_ HT_ 7 10 (B_ 255 34) ?_
   refine pu_ HT_ 8 11 (B_ 511 34) ?_
   refine pu_ HT_ 9 12 (B_ 1023 34) ?_
   refine pn_ HT_ 10 13 (B_ 2047 34) ?_
   refine pn_ HT_ 11 14 (B_ 4095 34) ?_
   refine pn_ HT_ 12 15 (B_ 8191 34) ?_
   refine pu_ HT_ 13 16 (B_ 16383 34) ?_
   refine pu_ HT_ 14 17 (B_ 32767 34) ?_
   refine pn_ HT_ 15 18 (B_ 65535 34) ?_
   refine pn_ HT_ 16 19 (B_ 131071 34) ?_
   refine pn_ HT_ 17 20 (B_ 262143 34) ?_
   refine pn_ HT_ 18 21 (B_ 524287 34) ?_
   refine pu_ HT_ 19 22 (B_ 1048575 34) ?_
   refine pu_ HT_ 20 23 (B_ 2097151 34) ?_
   refine pn_ HT_ 21 24 (B_ 4194303 34) ?_
   refine pn_ HT_ 22 25 (B_ 8388607 34) ?_
   refine pn_ HT_ 23 26 (B_ 16777215 34) ?_
   refine pn_ HT_ 24 27 (B_ 33554431 34) ?_
   refine pn_ HT_ 25 28 (B_ 67108863 34) ?_
   refine pn_ HT_ 26 29 (B_ 134217727 34) ?_
   refine pu_ HT_ 27 30 (B_ 268435455 34) ?_
   refine pu_ HT_ 28 31 (B_ 536870911 34) ?_
   refine pn_ HT_ 29 32 (B_ 1073741823 34) ?_
   refine pn_ HT_ 30 33 (B_ 2147483647 34) ?_
   refine pn_ HT_ 31 34 (B_ 4294967295 34) ?_
   refine pu_ HT_ 32 35 (B_ 8589934591 34) ?_
   refine pu_ HT_ 33 2 (B_ 17179869183 34) ?_
   refine done_ (done_of HT_.out (by kernel_rfl)) ?_
   try go_wp2
   go_ret
   exact ⟨by first | rfl | (simp [errW_none, errW_some] <;> rfl) | (simp [*, errW_none, errW_some] <;> rfl), by repeat (first | (with_reducible first | exact HB.out | apply below_alloc | apply pw_below_drewN | apply below_drew1 | refine below_set ?_ GE201.out) | exact HB.out)⟩
end Go.Proofs.YtjjajcldmkmgkaaDoor.PA
end
