-- Bundled by shake.py from this session's printed and written texts; Lean checks it.
import Derived.Test.YtapdhljbhekcdaaZFnExactBlowUpx1
import Derived.Test.YtapdhljbhekcdaaZFnExactBlowUpx2
import Derived.Test.YtapdhljbhekcdaaZFnExactBlowUpx3
section
namespace Go.Proofs.Ytapdhljbhekcdaa.PC
open Go.RowKit Go.Proofs.YtapdhljbhekcdaaW.PrintWords Go.Proofs.YtapdhljbhekcdaaW.PrintLast Go.Proofs.YtapdhljbhekcdaaW.PrintMore
set_option linter.unusedVariables false
set_option linter.unusedSimpArgs false
def spec_l3Ends.l0 : Nat → List Int → List Bool → Int → Option (Bool)
 | 0, _, _, _ => none
 | k + 1, x0, x3, x4 => if 0 < (x0.length : Int) then (if x4 < (wrap64 (200 + (rd x0 0))) then (if 0 ≤ x4 then (if x4 < (x3.length : Int) then (if rdOf false x3 x4 = true then (spec_l3Ends.l0 k x0 x3 (wrap64 (x4 + 1))) else (some false)) else (none)) else (none)) else (some true)) else (none)
def spec_l3Ends.f (k : Nat) (l0 : List Int) : Option (Bool) := (spec_l3Table.f k l0 260).bind fun t219 => (spec_l3Ends.l0 k l0 t219 200)
set_option maxHeartbeats 8000000 in
set_option maxRecDepth 100000 in
theorem spec_l3Ends.calls (k : Nat) (A0 : Option Addr) (c0 : Nat) (l0 : List Int) (r : Bool) (w : World) (hr0 : Kd.C (Kd.int .i64) w A0 l0.length l0) (hc0 : l0.length ≤ c0) (h : spec_l3Ends.f k l0 = some r) :
 Calls Try.prog 83 #[.slice A0 l0.length c0] w fun e w' => e = .returned (.bool r) ∧ Below w.heap.size w w' := by
 have HR0 := Aside0.mk hr0
 have HC0 := Aside0.mk hc0
 clear hr0 hc0
 have HB := Aside0.mk (Below.refl w.heap.size w)
 have H : ((spec_l3Table.f k l0 260).bind fun t219 => (spec_l3Ends.l0 k l0 t219 200)) = some r := h
 clear h
 replace H := Option.bind_eq_some_iff.mp H
 obtain ⟨t219, A20, H⟩ := H
 replace H : (spec_l3Ends.l0 k l0 t219 200) = some r := H
 have A2 := Aside0.mk A20
 clear A20
 have H' := Aside0.mk H
 clear H
 go_enter Try.func83, Try.ntmps83
 go_wp2_with (first | ((with_reducible refine gate_callee (f := 64) rfl ?_); refine goesL_ (some 6) rfl rfl Try.func64 (by kernel_rfl) rfl #[.slice A0 l0.length c0, .int .i64 260] rfl (by (try simp only [List.map_toArray, List.map_cons, List.map_nil]); first | done | rfl | (simp only [List.length_drop, List.length_take]; rfl)) ?_; (with_reducible refine (spec_l3Table.calls k _ _ l0 260 t219 _ ?side1 ?side2 A2.out).mono ?_); (case side1 => exact ce_ (HR0.out)); (case side2 => exact HC0.out); rintro e w3 ⟨v220, rfl, ho0, hb⟩; refine ⟨_, rfl, ?_⟩; have n0_ := Aside0.mk (Kd.R_lower ho0 (below_size (bl_ HB.out))); have n1_ := Aside0.mk (below_step (bl_ HB.out) hb); clear HB; have HO221 := n0_; have HB := n1_; clear n0_ n1_; (try clear hb); (try clear hb2); (try clear hk); (try clear hi); (try clear ho0)))
 go_loopg [4] k (fun kq v4 w' => ∃ (x4_1 : Int), v4 = .int .i64 x4_1 ∧ Aside0 (spec_l3Ends.l0 kq l0 t219 x4_1 = some r) ∧ Aside0 (kq ≤ k) ∧ Aside0 (Kd.R Kd.bool 4 w' w.heap.size (fun _ => True) v220 t219) ∧ Aside0 (Below w.heap.size w w'))
 case atStart => exact ⟨(200), (by first | rfl | (simp; done) | (simp [*]; done)), H', ⟨Nat.le_refl _⟩, ⟨re_ HO221.out⟩, ⟨bl_ HB.out⟩⟩
 case round =>
  clear H'
  try clear p2
  obtain ⟨x4_1, rfl, HA, HK1, HO_3, HB⟩ := hrel
  cases gk with
  | zero => exact absurd HA.out (by simp [spec_l3Ends.l0])
  | succ k1 =>
   have H := HA.out
   clear HA
   simp only [spec_l3Ends.l0] at H
   by_cases c4 : 0 < (l0.length : Int)
   · rw [if_pos c4] at H
     have c4b0 : decide (0 < (l0.length : Int)) = true := decide_eq_true c4
     have c4b1 : decide (0 < l0.length) = true := decide_eq_true (by omega)
     clear c4
     by_cases c5 : x4_1 < (wrap64 (200 + (rd l0 0)))
     · rw [if_pos c5] at H
       have c5b0 : decide (x4_1 < (wrap64 (200 + (rd l0 0)))) = true := decide_eq_true c5
       clear c5
       by_cases c6 : 0 ≤ x4_1
       · rw [if_pos c6] at H
         have c6b0 : decide (0 ≤ x4_1) = true := decide_eq_true c6
         clear c6
         by_cases c7 : x4_1 < (t219.length : Int)
         · rw [if_pos c7] at H
           have c7b0 : decide (x4_1 < (t219.length : Int)) = true := decide_eq_true c7
           clear c7
           obtain ⟨bq8, hbq8⟩ : ∃ b_ : Bool, b_ = (rdOf false t219 x4_1) := ⟨_, rfl⟩
           replace H : (if bq8 = true then (spec_l3Ends.l0 k1 l0 t219 (wrap64 (x4_1 + 1))) else (some false)) = some r := by rw [← hbq8] at H; exact H
           have Nbq8 := Aside0.mk hbq8
           clear hbq8
           by_cases c9 : bq8 = true
           · subst c9
             have H1 : (spec_l3Ends.l0 k1 l0 t219 (wrap64 (x4_1 + 1))) = some r := by rw [if_pos rfl] at H; exact H
             clear H
             have H := H1
             clear H1
             as_aux_lemma =>
              have H' := Aside0.mk H
              clear H
              have p222 : 0 ≤ (0 : Int) := (by omega)
              have q222 : 0 < (l0.length : Int) := of_decide_eq_true (by first | (with_reducible assumption) | assumption)
              obtain ⟨ad222, e222, hx222_0⟩ := Kd.at_int HR0.out 0 p222 q222
              cases e222
              have qi222 : (0 < l0.length) = True := eq_true (by omega)
              (try rw [show ((0 : Int)).toNat = 0 from rfl] at hx222_0)
              (try rw [Addr.add_zero'] at hx222_0)
              (try replace hx222_0 := (HB.out.cell (World.block_lt_of_cell? w _ hx222_0)).trans hx222_0)
              replace p222 := eq_true p222
              replace q222 := eq_true q222
              obtain ⟨Ao10, co10, eo10⟩ := Kd.R_slice HO_3.out
              subst eo10
              have p223 : 0 ≤ (x4_1 : Int) := of_decide_eq_true (by first | (with_reducible assumption) | assumption)
              have q223 : x4_1 < (t219.length : Int) := of_decide_eq_true (by first | (with_reducible assumption) | assumption)
              obtain ⟨ad223, e223, hx223_0⟩ := Kd.at_bool (Kd.R_reads' HO_3.out).2.2 x4_1 p223 q223
              (try rw [← Nbq8.out] at hx223_0)
              cases e223
              replace p223 := eq_true p223
              replace q223 := eq_true q223
              go_wp2
              go_roundg k1
              case measure => have := HK1.out; omega
              case rel => exact ⟨(wrap64 (x4_1 + 1)), (by first | rfl | (simp; done) | (simp [*]; done)), H', ⟨by have := HK1.out; omega⟩, ⟨re_ HO_3.out⟩, ⟨bl_ HB.out⟩⟩
           · replace c9 := Bool.eq_false_iff.mpr c9
             subst c9
             have H1 : (some false) = some r := by rw [if_neg (show ¬ (false = true) by decide)] at H; exact H
             clear H
             have H := H1
             clear H1
             as_aux_lemma =>
              obtain rfl := Option.some.inj H
              have p222 : 0 ≤ (0 : Int) := (by omega)
              have q222 : 0 < (l0.length : Int) := of_decide_eq_true (by first | (with_reducible assumption) | assumption)
              obtain ⟨ad222, e222, hx222_0⟩ := Kd.at_int HR0.out 0 p222 q222
              cases e222
              have qi222 : (0 < l0.length) = True := eq_true (by omega)
              (try rw [show ((0 : Int)).toNat = 0 from rfl] at hx222_0)
              (try rw [Addr.add_zero'] at hx222_0)
              (try replace hx222_0 := (HB.out.cell (World.block_lt_of_cell? w _ hx222_0)).trans hx222_0)
              replace p222 := eq_true p222
              replace q222 := eq_true q222
              obtain ⟨Ao11, co11, eo11⟩ := Kd.R_slice HO_3.out
              subst eo11
              have p223 : 0 ≤ (x4_1 : Int) := of_decide_eq_true (by first | (with_reducible assumption) | assumption)
              have q223 : x4_1 < (t219.length : Int) := of_decide_eq_true (by first | (with_reducible assumption) | assumption)
              obtain ⟨ad223, e223, hx223_0⟩ := Kd.at_bool (Kd.R_reads' HO_3.out).2.2 x4_1 p223 q223
              (try rw [← Nbq8.out] at hx223_0)
              cases e223
              replace p223 := eq_true p223
              replace q223 := eq_true q223
              go_wp2
              go_ret
              exact ⟨by first | rfl | (simp [errW_none, errW_some] <;> rfl) | (simp [*, errW_none, errW_some] <;> rfl), bl_ HB.out⟩
         · rw [if_neg c7] at H
           exact absurd H (by simp)
       · rw [if_neg c6] at H
         exact absurd H (by simp)
     · rw [if_neg c5] at H
       have c5b0 : decide (x4_1 < (wrap64 (200 + (rd l0 0)))) = false := decide_eq_false c5
       clear c5
       as_aux_lemma =>
        obtain rfl := Option.some.inj H
        have p222 : 0 ≤ (0 : Int) := (by omega)
        have q222 : 0 < (l0.length : Int) := of_decide_eq_true (by first | (with_reducible assumption) | assumption)
        obtain ⟨ad222, e222, hx222_0⟩ := Kd.at_int HR0.out 0 p222 q222
        cases e222
        have qi222 : (0 < l0.length) = True := eq_true (by omega)
        (try rw [show ((0 : Int)).toNat = 0 from rfl] at hx222_0)
        (try rw [Addr.add_zero'] at hx222_0)
        (try replace hx222_0 := (HB.out.cell (World.block_lt_of_cell? w _ hx222_0)).trans hx222_0)
        replace p222 := eq_true p222
        replace q222 := eq_true q222
        go_wp2
        go_ret
        exact ⟨by first | rfl | (simp [errW_none, errW_some] <;> rfl) | (simp [*, errW_none, errW_some] <;> rfl), bl_ HB.out⟩
   · rw [if_neg c4] at H
     exact absurd H (by simp)
end Go.Proofs.Ytapdhljbhekcdaa.PC
end
section
namespace Go.Proofs.Ytapdhljbhekcdaa.PC
open Go.RowKit Go.Proofs.YtapdhljbhekcdaaW.PrintWords Go.Proofs.YtapdhljbhekcdaaW.PrintLast Go.Proofs.YtapdhljbhekcdaaW.PrintMore
set_option linter.unusedVariables false
set_option linter.unusedSimpArgs false
def spec_IsSemigroup.f (k : Nat) (l0_0 : List Int) : Option (Bool) := (spec_l3Gens.f k l0_0).bind fun t225 => (if t225 = true then (if (l0_0.length : Int) ≤ 12 then ((spec_IsAscending.f k l0_0).bind fun t226 => (if t226 = true then ((spec_GcdOfList.f k l0_0).bind fun t227 => (if t227 = 1 then ((spec_l3Minimal.f k l0_0).bind fun t228 => ((spec_l2Same.f k t228 l0_0).bind fun t231 => (if t231 = true then ((spec_l3Ends.f k l0_0).bind fun t232 => (some t232)) else (some false)))) else (some false))) else (some false))) else (some false)) else (some false))
def spec_IsSemigroup.T1 : Bool × List (List Nat × List Nat) := (true, [([], []), ([0], [0]), ([1], [1]), ([2, 2], [2]), ([3], [3]), ([4, 3], [3, 4]), ([5, 3], [3, 5]), ([6, 3], [3, 6]), ([3, 7], [3, 7]), ([8, 3], [8]), ([9], [9]), ([10, 9], [9, 10]), ([11, 9, 9], [9, 11]), ([9, 12], [9, 12]), ([13, 12], [13]), ([14], [14]), ([15, 14], [14, 15]), ([16, 14, 14], [14, 16]), ([17, 14], [14, 17]), ([14, 18], [14, 18]), ([19, 17], [19]), ([20], [20]), ([21, 20], [20, 21]), ([22, 20, 20], [20, 22]), ([20], [20]), ([24, 20], [20, 24]), ([23, 25, 23, 20], [20, 23, 25]), ([20, 26], [20, 26]), ([27, 26], [27]), ([28], [28]), ([29, 28], [28, 29]), ([30, 28, 28], [28, 30]), ([28, 31], [28, 31]), ([32, 31, 0, 1, 2, 3, 4, 5, 6, 7, 8, 9, 10, 11, 12, 13, 14, 15, 16, 17, 18, 19, 20, 21, 22, 23, 24, 25, 26, 27, 28, 29, 30, 31, 32], [32])])
def spec_IsSemigroup.B1 : List Nat := [0, 1, 3, 7, 15, 31, 63, 127, 255, 511, 1023, 2047, 4095, 8191, 16383, 32767, 65535, 131071, 262143, 524287, 1048575, 2097151, 4194303, 8388607, 2097151, 18874367, 67108863, 134217727, 268435455, 536870911, 1073741823, 2147483647, 4294967295, 8589934591]
theorem spec_IsSemigroup.tab1 : rtab .any (opsOf Try.f42 1) = spec_IsSemigroup.T1 := by kernel_rfl
theorem spec_IsSemigroup.bits1 : waitsOk spec_IsSemigroup.T1.2 spec_IsSemigroup.B1 = true := by kernel_rfl
set_option maxHeartbeats 8000000 in
set_option maxRecDepth 100000 in
theorem spec_IsSemigroup.calls (k : Nat) (A0_0 : Option Addr) (c0_0 : Nat) (l0_0 : List Int) (r : Bool) (w : World) (hr0_0 : Kd.C (Kd.int .i64) w A0_0 l0_0.length l0_0) (hc0_0 : l0_0.length ≤ c0_0) (h : spec_IsSemigroup.f k l0_0 = some r) :
 Calls Try.prog 42 #[.agg #[.slice A0_0 l0_0.length c0_0]] w fun e w' => e = .returned (.bool r) ∧ Below w.heap.size w w' := by
 have hu27 := Try.underlying27
 have HR0_0 := Aside0.mk hr0_0
 have HC0_0 := Aside0.mk hc0_0
 clear hr0_0 hc0_0
 have HB := Aside0.mk (Below.refl w.heap.size w)
 have H : ((spec_l3Gens.f k l0_0).bind fun t225 => (if t225 = true then (if (l0_0.length : Int) ≤ 12 then ((spec_IsAscending.f k l0_0).bind fun t226 => (if t226 = true then ((spec_GcdOfList.f k l0_0).bind fun t227 => (if t227 = 1 then ((spec_l3Minimal.f k l0_0).bind fun t228 => ((spec_l2Same.f k t228 l0_0).bind fun t231 => (if t231 = true then ((spec_l3Ends.f k l0_0).bind fun t232 => (some t232)) else (some false)))) else (some false))) else (some false))) else (some false)) else (some false))) = some r := h
 clear h
 replace H := Option.bind_eq_some_iff.mp H
 obtain ⟨t225, A20, H⟩ := H
 replace H : (if t225 = true then (if (l0_0.length : Int) ≤ 12 then ((spec_IsAscending.f k l0_0).bind fun t226 => (if t226 = true then ((spec_GcdOfList.f k l0_0).bind fun t227 => (if t227 = 1 then ((spec_l3Minimal.f k l0_0).bind fun t228 => ((spec_l2Same.f k t228 l0_0).bind fun t231 => (if t231 = true then ((spec_l3Ends.f k l0_0).bind fun t232 => (some t232)) else (some false)))) else (some false))) else (some false))) else (some false)) else (some false)) = some r := H
 have A2 := Aside0.mk A20
 clear A20
 by_cases c3 : t225 = true
 · subst c3
   have H1 : (if (l0_0.length : Int) ≤ 12 then ((spec_IsAscending.f k l0_0).bind fun t226 => (if t226 = true then ((spec_GcdOfList.f k l0_0).bind fun t227 => (if t227 = 1 then ((spec_l3Minimal.f k l0_0).bind fun t228 => ((spec_l2Same.f k t228 l0_0).bind fun t231 => (if t231 = true then ((spec_l3Ends.f k l0_0).bind fun t232 => (some t232)) else (some false)))) else (some false))) else (some false))) else (some false)) = some r := by rw [if_pos rfl] at H; exact H
   clear H
   have H := H1
   clear H1
   by_cases c4 : (l0_0.length : Int) ≤ 12
   · rw [if_pos c4] at H
     have c4b0 : decide ((l0_0.length : Int) ≤ 12) = true := decide_eq_true c4
     have c4b1 : decide (l0_0.length ≤ 12) = true := decide_eq_true (by omega)
     clear c4
     replace H := Option.bind_eq_some_iff.mp H
     obtain ⟨t226, A50, H⟩ := H
     replace H : (if t226 = true then ((spec_GcdOfList.f k l0_0).bind fun t227 => (if t227 = 1 then ((spec_l3Minimal.f k l0_0).bind fun t228 => ((spec_l2Same.f k t228 l0_0).bind fun t231 => (if t231 = true then ((spec_l3Ends.f k l0_0).bind fun t232 => (some t232)) else (some false)))) else (some false))) else (some false)) = some r := H
     have A5 := Aside0.mk A50
     clear A50
     by_cases c6 : t226 = true
     · subst c6
       have H1 : ((spec_GcdOfList.f k l0_0).bind fun t227 => (if t227 = 1 then ((spec_l3Minimal.f k l0_0).bind fun t228 => ((spec_l2Same.f k t228 l0_0).bind fun t231 => (if t231 = true then ((spec_l3Ends.f k l0_0).bind fun t232 => (some t232)) else (some false)))) else (some false))) = some r := by rw [if_pos rfl] at H; exact H
       clear H
       have H := H1
       clear H1
       replace H := Option.bind_eq_some_iff.mp H
       obtain ⟨t227, A70, H⟩ := H
       replace H : (if t227 = 1 then ((spec_l3Minimal.f k l0_0).bind fun t228 => ((spec_l2Same.f k t228 l0_0).bind fun t231 => (if t231 = true then ((spec_l3Ends.f k l0_0).bind fun t232 => (some t232)) else (some false)))) else (some false)) = some r := H
       have A7 := Aside0.mk A70
       clear A70
       by_cases c8 : t227 = 1
       · rw [if_pos c8] at H
         have c8b0 : (t227 == 1) = true := beq_iff_eq.mpr c8
         have c8b1 : (t227 != 1) = false := bne_eq_false_iff_eq.mpr c8
         clear c8
         replace H := Option.bind_eq_some_iff.mp H
         obtain ⟨t228, A90, H⟩ := H
         replace H : ((spec_l2Same.f k t228 l0_0).bind fun t231 => (if t231 = true then ((spec_l3Ends.f k l0_0).bind fun t232 => (some t232)) else (some false))) = some r := H
         have A9 := Aside0.mk A90
         clear A90
         replace H := Option.bind_eq_some_iff.mp H
         obtain ⟨t231, A100, H⟩ := H
         replace H : (if t231 = true then ((spec_l3Ends.f k l0_0).bind fun t232 => (some t232)) else (some false)) = some r := H
         have A10 := Aside0.mk A100
         clear A100
         by_cases c11 : t231 = true
         · subst c11
           have H1 : ((spec_l3Ends.f k l0_0).bind fun t232 => (some t232)) = some r := by rw [if_pos rfl] at H; exact H
           clear H
           have H := H1
           clear H1
           replace H := Option.bind_eq_some_iff.mp H
           obtain ⟨t232, A120, H⟩ := H
           replace H : (some t232) = some r := H
           have A12 := Aside0.mk A120
           clear A120
           as_aux_lemma =>
            obtain rfl := Option.some.inj H
            go_enter Try.func42, Try.ntmps42
            try go_wp2_with (first | ((with_reducible refine gate_dst (N := 1) rfl ?_); (try (refine gate_guard (by rfl) ?_; dsimp only)); refine box_event ?hg (N := 1) ?hd (cs := #[.slice A0_0 l0_0.length c0_0]) (t := 27) ?hr ?_; (case hd => rfl); (case hg => rfl); (case hr => first | (go_simp; done) | (go_simp; rfl)); intro gb224 hg w13 hbox hb; have n0_ := Aside0.mk (below_step (bl_ HB.out) hb); have n1_ := Aside0.mk (hbox); have n2_ := Aside0.mk ((by rw [hg]; exact (below_size (bl_ HB.out)) : w.heap.size ≤ gb224)); have n3_ := Aside0.mk ((by rw [hg]; exact (below_size (bl_ HB.out)) : w.heap.size ≤ gb224)); clear HB; have HB := n0_; have BK224 := n1_; have GW224 := n2_; have GE224 := n3_; clear n0_ n1_ n2_ n3_; clear hb hbox hg))
            have n0_ := Aside0.mk (blk_drew BK224.out)
            have n1_ := Aside0.mk (below_drew1 HB.out)
            clear BK224
            clear HB
            have BK224 := n0_
            have HB := n1_
            clear n0_ n1_
            refine start_ (n := 34) (S := fun w' => w'.cell? ⟨gb224, 0, none⟩ = some (.slice A0_0 l0_0.length c0_0)) (ds := []) (B_ 0 34) (by kernel_rfl) rfl rfl ((blk_cell BK224.out 0).trans rfl) (fun hHeld => ?_); refine with_tabW spec_IsSemigroup.tab1 spec_IsSemigroup.bits1 (fun HT_ HW_ => ?_)
            generalize w13.drew = w14 at BK224 HB hHeld ⊢
            refine pu_ HT_ 0 3 (B_ 1 34) ?_
            refine tk1_ HT_ HW_ hHeld 1 4 (B_ 3 34) ?_
            refine one_ (i := 2) (N := some 5) (B_ 7 34) rfl rfl (one_of HT_.out (by kernel_rfl)) (by decide) (fun K hK => ?_)
            refine goes_ Try.func78 (by kernel_rfl) rfl #[.slice A0_0 l0_0.length c0_0] (by rfl) rfl rfl (by (try simp only [List.map_toArray, List.map_cons, List.map_nil]); first | done | rfl | (simp only [List.length_drop, List.length_take]; rfl)) ?_
            with_reducible refine (spec_l3Gens.calls k _ _ l0_0 true _ ?side1 ?side2 A2.out).mono ?_
            (case side1 => exact ce_ ((Kd.C_below HR0_0.out HB.out)))
            (case side2 => exact HC0_0.out)
            rintro e w' ⟨rfl, ⟨nd, rfl⟩⟩
            refine ⟨_, rfl, ?_⟩
            refine hK.out _ _ ((blk_cell BK224.out 0).trans rfl) (fun hHeld => ?_)
            clear hK K
            refine norm_ (a' := ?_) ?_ ?_
            rotate_left
            · show Act.put _ (some 5) _ = _
              simp only [Act.put, z1_, z2_, z3_, i64_w, i32_w]
              rfl
            refine pu_ HT_ 3 6 (B_ 15 34) ?_
            refine pu_ HT_ 4 7 (B_ 31 34) ?_
            refine tk1_ HT_ HW_ hHeld 5 8 (B_ 63 34) ?_
            refine pu_ HT_ 6 9 (B_ 127 34) ?_
            refine pu_ HT_ 7 10 (B_ 255 34) ?_
            refine pu_ HT_ 8 11 (B_ 511 34) ?_
            refine pu_ HT_ 9 12 (B_ 1023 34) ?_
            refine pu_ HT_ 10 13 (B_ 2047 34) ?_
            refine tk1_ HT_ HW_ hHeld 11 14 (B_ 4095 34) ?_
            refine one_ (i := 12) (N := some 15) (B_ 8191 34) rfl rfl (one_of HT_.out (by kernel_rfl)) (by decide) (fun K hK => ?_)
            refine goes_ Try.func79 (by kernel_rfl) rfl #[.slice A0_0 l0_0.length c0_0] (by rfl) rfl rfl (by (try simp only [List.map_toArray, List.map_cons, List.map_nil]); first | done | rfl | (simp only [List.length_drop, List.length_take]; rfl)) ?_
            with_reducible refine (spec_IsAscending.calls k _ _ l0_0 true _ ?side1 ?side2 A5.out).mono ?_
            (case side1 => repeat (first | exact (Kd.C_below HR0_0.out (by repeat (first | (with_reducible first | exact HB.out | apply below_alloc | apply pw_below_drewN | apply below_drew1 | refine below_set ?_ GE224.out) | exact HB.out))) | (with_reducible refine Kd.C_alloc ?_ _) | (with_reducible refine Kd.C_drewN ?_ _) | (with_reducible refine Kd.C_drew ?_)))
            (case side2 => exact HC0_0.out)
            rintro e w' ⟨rfl, ⟨nd, rfl⟩⟩
            refine ⟨_, rfl, ?_⟩
            refine hK.out _ _ ((blk_cell BK224.out 0).trans rfl) (fun hHeld => ?_)
            clear hK K
            refine norm_ (a' := ?_) ?_ ?_
            rotate_left
            · show Act.put _ (some 15) _ = _
              simp only [Act.put, z1_, z2_, z3_, i64_w, i32_w]
              rfl
            refine pu_ HT_ 13 16 (B_ 16383 34) ?_
            refine pu_ HT_ 14 17 (B_ 32767 34) ?_
            refine pu_ HT_ 15 18 (B_ 65535 34) ?_
            refine tk1_ HT_ HW_ hHeld 16 19 (B_ 131071 34) ?_
            refine one_ (i := 17) (N := some 20) (B_ 262143 34) rfl rfl (one_of HT_.out (by kernel_rfl)) (by decide) (fun K hK => ?_)
            refine goes_ Try.func80 (by kernel_rfl) rfl #[.slice A0_0 l0_0.length c0_0] (by rfl) rfl rfl (by (try simp only [List.map_toArray, List.map_cons, List.map_nil]); first | done | rfl | (simp only [List.length_drop, List.length_take]; rfl)) ?_
            with_reducible refine (spec_GcdOfList.calls k _ _ l0_0 t227 _ ?side1 ?side2 A7.out).mono ?_
            (case side1 => repeat (first | exact (Kd.C_below HR0_0.out (by repeat (first | (with_reducible first | exact HB.out | apply below_alloc | apply pw_below_drewN | apply below_drew1 | refine below_set ?_ GE224.out) | exact HB.out))) | (with_reducible refine Kd.C_alloc ?_ _) | (with_reducible refine Kd.C_drewN ?_ _) | (with_reducible refine Kd.C_drew ?_)))
            (case side2 => exact HC0_0.out)
            rintro e w' ⟨rfl, ⟨nd, rfl⟩⟩
            refine ⟨_, rfl, ?_⟩
            refine hK.out _ _ ((blk_cell BK224.out 0).trans rfl) (fun hHeld => ?_)
            clear hK K
            refine norm_ (a' := ?_) ?_ ?_
            rotate_left
            · show Act.put _ (some 20) _ = _
              simp only [Act.put, z1_, z2_, z3_, i64_w, i32_w]
              rfl
            refine pu_ HT_ 18 21 (B_ 524287 34) ?_
            refine pu_ HT_ 19 22 (B_ 1048575 34) ?_
            refine pu_ HT_ 20 23 (B_ 2097151 34) ?_
            refine pu_ HT_ 21 24 (B_ 4194303 34) ?_
            refine pu_ HT_ 24 27 (B_ 20971519 34) ?_
            refine tk1_ HT_ HW_ hHeld 22 25 (B_ 25165823 34) ?_
            refine tk1_ HT_ HW_ hHeld 25 28 (B_ 58720255 34) ?_
            refine one_ (i := 23) (N := some 26) (B_ 67108863 34) rfl rfl (one_of HT_.out (by kernel_rfl)) (by decide) (fun K hK => ?_)
            refine goes_ Try.func82 (by kernel_rfl) rfl #[.slice A0_0 l0_0.length c0_0] (by rfl) rfl rfl (by (try simp only [List.map_toArray, List.map_cons, List.map_nil]); first | done | rfl | (simp only [List.length_drop, List.length_take]; rfl)) ?_
            with_reducible refine (spec_l3Minimal.calls k _ _ l0_0 t228 _ ?side1 ?side2 A9.out).mono ?_
            (case side1 => repeat (first | exact (Kd.C_below HR0_0.out (by repeat (first | (with_reducible first | exact HB.out | apply below_alloc | apply pw_below_drewN | apply below_drew1 | refine below_set ?_ GE224.out) | exact HB.out))) | (with_reducible refine Kd.C_alloc ?_ _) | (with_reducible refine Kd.C_drewN ?_ _) | (with_reducible refine Kd.C_drew ?_)))
            (case side2 => exact HC0_0.out)
            rintro e w15 ⟨v229, rfl, ho0, hb⟩
            refine ⟨_, rfl, ?_⟩
            have n0_ := Aside0.mk (Kd.R_lower ho0 (below_size (by repeat (first | (with_reducible first | exact HB.out | apply below_alloc | apply pw_below_drewN | apply below_drew1 | refine below_set ?_ GE224.out) | exact HB.out))))
            have n1_ := Aside0.mk (blk_below (g := gb224) (o := .cells #[.slice A0_0 l0_0.length c0_0] 27 (0, 0)) (be_ BK224.out) hb)
            have n2_ := Aside0.mk (below_step (by repeat (first | (with_reducible first | exact HB.out | apply below_alloc | apply pw_below_drewN | apply below_drew1 | refine below_set ?_ GE224.out) | exact HB.out)) hb)
            clear BK224
            clear HB
            have HO230 := n0_
            have BK224 := n1_
            have HB := n2_
            clear n0_ n1_ n2_
            (try clear hb)
            (try clear hb2)
            (try clear hk)
            (try clear hi)
            (try clear ho0)
            obtain ⟨Ao16, co16, eo16⟩ := Kd.R_slice HO230.out
            (first | subst eo16 | (injection eo16 with f1_ f2_ f3_; have f4_ := f1_.symm; have f5_ := f3_.symm; clear f1_ f2_ f3_; subst f4_; subst f5_))
            refine hK.out _ _ ((blk_cell BK224.out 0).trans rfl) (fun hHeld => ?_)
            clear hK K
            refine norm_ (a' := ?_) ?_ ?_
            rotate_left
            · show Act.put _ (some 26) _ = _
              simp only [Act.put, z1_, z2_, z3_, i64_w, i32_w]
              rfl
            refine one_ (i := 26) (N := some 29) (B_ 134217727 34) rfl rfl (one_of HT_.out (by kernel_rfl)) (by decide) (fun K hK => ?_)
            refine goes_ Try.func81 (by kernel_rfl) rfl #[.slice Ao16 t228.length co16, .slice A0_0 l0_0.length c0_0] (by rfl) rfl rfl (by (try simp only [List.map_toArray, List.map_cons, List.map_nil]); first | done | rfl | (simp only [List.length_drop, List.length_take]; rfl)) ?_
            with_reducible refine (spec_l2Same.calls k _ _ t228 _ _ l0_0 true _ ?side1 ?side2 ?side3 ?side4 A10.out).mono ?_
            (case side1 => exact ce_ ((Kd.R_reads' HO230.out).2.2))
            (case side2 => exact (Kd.R_reads' HO230.out).2.1)
            (case side3 => exact ce_ ((Kd.C_below HR0_0.out HB.out)))
            (case side4 => exact HC0_0.out)
            rintro e w' ⟨rfl, ⟨nd, rfl⟩⟩
            refine ⟨_, rfl, ?_⟩
            refine hK.out _ _ ((blk_cell BK224.out 0).trans rfl) (fun hHeld => ?_)
            clear hK K
            refine norm_ (a' := ?_) ?_ ?_
            rotate_left
            · show Act.put _ (some 29) _ = _
              simp only [Act.put, z1_, z2_, z3_, i64_w, i32_w]
              rfl
            refine pu_ HT_ 27 30 (B_ 268435455 34) ?_
            refine pu_ HT_ 28 31 (B_ 536870911 34) ?_
            refine pu_ HT_ 29 32 (B_ 1073741823 34) ?_
            refine tk1_ HT_ HW_ hHeld 30 33 (B_ 2147483647 34) ?_
            refine one_ (i := 31) (N := some 34) (B_ 4294967295 34) rfl rfl (one_of HT_.out (by kernel_rfl)) (by decide) (fun K hK => ?_)
            refine goes_ Try.func83 (by kernel_rfl) rfl #[.slice A0_0 l0_0.length c0_0] (by rfl) rfl rfl (by (try simp only [List.map_toArray, List.map_cons, List.map_nil]); first | done | rfl | (simp only [List.length_drop, List.length_take]; rfl)) ?_
            with_reducible refine (spec_l3Ends.calls k _ _ l0_0 t232 _ ?side1 ?side2 A12.out).mono ?_
            (case side1 => repeat (first | exact (Kd.C_below HR0_0.out (by repeat (first | (with_reducible first | exact HB.out | apply below_alloc | apply pw_below_drewN | apply below_drew1 | refine below_set ?_ GE224.out) | exact HB.out))) | (with_reducible refine Kd.C_alloc ?_ _) | (with_reducible refine Kd.C_drewN ?_ _) | (with_reducible refine Kd.C_drew ?_)))
            (case side2 => exact HC0_0.out)
            rintro e w17 ⟨rfl, hb⟩
            refine ⟨_, rfl, ?_⟩
            have n0_ := Aside0.mk (Kd.R_below (re_ HO230.out) hb)
            have n1_ := Aside0.mk (blk_below (g := gb224) (o := .cells #[.slice A0_0 l0_0.length c0_0] 27 (0, 0)) (be_ BK224.out) hb)
            have n2_ := Aside0.mk (below_step (by repeat (first | (with_reducible first | exact HB.out | apply below_alloc | apply pw_below_drewN | apply below_drew1 | refine below_set ?_ GE224.out) | exact HB.out)) hb)
            clear HO230
            clear BK224
            clear HB
            have HO230 := n0_
            have BK224 := n1_
            have HB := n2_
            clear n0_ n1_ n2_
            (try clear hb)
            (try clear hb2)
            (try clear hk)
            (try clear hi)
            refine hK.out _ _ ((blk_cell BK224.out 0).trans rfl) (fun hHeld => ?_)
            clear hK K
            refine norm_ (a' := ?_) ?_ ?_
            rotate_left
            · show Act.put _ (some 34) _ = _
              simp only [Act.put, z1_, z2_, z3_, i64_w, i32_w]
              rfl
            refine pu_ HT_ 32 35 (B_ 8589934591 34) ?_
            refine pu_ HT_ 33 2 (B_ 17179869183 34) ?_
            refine done_ (done_of HT_.out (by kernel_rfl)) ?_
            try go_wp2
            go_ret
            exact ⟨by first | rfl | (simp [errW_none, errW_some] <;> rfl) | (simp [*, errW_none, errW_some] <;> rfl), by repeat (first | (with_reducible first | exact HB.out | apply below_alloc | apply pw_below_drewN | apply below_drew1 | refine below_set ?_ GE224.out) | exact HB.out)⟩
         · replace c11 := Bool.eq_false_iff.mpr c11
           subst c11
           have H1 : (some false) = some r := by rw [if_neg (show ¬ (false = true) by decide)] at H; exact H
           clear H
           have H := H1
           clear H1
           as_aux_lemma =>
            obtain rfl := Option.some.inj H
            go_enter Try.func42, Try.ntmps42
            try go_wp2_with (first | ((with_reducible refine gate_dst (N := 1) rfl ?_); (try (refine gate_guard (by rfl) ?_; dsimp only)); refine box_event ?hg (N := 1) ?hd (cs := #[.slice A0_0 l0_0.length c0_0]) (t := 27) ?hr ?_; (case hd => rfl); (case hg => rfl); (case hr => first | (go_simp; done) | (go_simp; rfl)); intro gb224 hg w18 hbox hb; have n0_ := Aside0.mk (below_step (bl_ HB.out) hb); have n1_ := Aside0.mk (hbox); have n2_ := Aside0.mk ((by rw [hg]; exact (below_size (bl_ HB.out)) : w.heap.size ≤ gb224)); have n3_ := Aside0.mk ((by rw [hg]; exact (below_size (bl_ HB.out)) : w.heap.size ≤ gb224)); clear HB; have HB := n0_; have BK224 := n1_; have GW224 := n2_; have GE224 := n3_; clear n0_ n1_ n2_ n3_; clear hb hbox hg))
            have n0_ := Aside0.mk (blk_drew BK224.out)
            have n1_ := Aside0.mk (below_drew1 HB.out)
            clear BK224
            clear HB
            have BK224 := n0_
            have HB := n1_
            clear n0_ n1_
            refine start_ (n := 34) (S := fun w' => w'.cell? ⟨gb224, 0, none⟩ = some (.slice A0_0 l0_0.length c0_0)) (ds := []) (B_ 0 34) (by kernel_rfl) rfl rfl ((blk_cell BK224.out 0).trans rfl) (fun hHeld => ?_); refine with_tabW spec_IsSemigroup.tab1 spec_IsSemigroup.bits1 (fun HT_ HW_ => ?_)
            generalize w18.drew = w19 at BK224 HB hHeld ⊢
            refine pu_ HT_ 0 3 (B_ 1 34) ?_
            refine tk1_ HT_ HW_ hHeld 1 4 (B_ 3 34) ?_
            refine one_ (i := 2) (N := some 5) (B_ 7 34) rfl rfl (one_of HT_.out (by kernel_rfl)) (by decide) (fun K hK => ?_)
            refine goes_ Try.func78 (by kernel_rfl) rfl #[.slice A0_0 l0_0.length c0_0] (by rfl) rfl rfl (by (try simp only [List.map_toArray, List.map_cons, List.map_nil]); first | done | rfl | (simp only [List.length_drop, List.length_take]; rfl)) ?_
            with_reducible refine (spec_l3Gens.calls k _ _ l0_0 true _ ?side1 ?side2 A2.out).mono ?_
            (case side1 => exact ce_ ((Kd.C_below HR0_0.out HB.out)))
            (case side2 => exact HC0_0.out)
            rintro e w' ⟨rfl, ⟨nd, rfl⟩⟩
            refine ⟨_, rfl, ?_⟩
            refine hK.out _ _ ((blk_cell BK224.out 0).trans rfl) (fun hHeld => ?_)
            clear hK K
            refine norm_ (a' := ?_) ?_ ?_
            rotate_left
            · show Act.put _ (some 5) _ = _
              simp only [Act.put, z1_, z2_, z3_, i64_w, i32_w]
              rfl
            refine pu_ HT_ 3 6 (B_ 15 34) ?_
            refine pu_ HT_ 4 7 (B_ 31 34) ?_
            refine tk1_ HT_ HW_ hHeld 5 8 (B_ 63 34) ?_
            refine pu_ HT_ 6 9 (B_ 127 34) ?_
            refine pu_ HT_ 7 10 (B_ 255 34) ?_
            refine pu_ HT_ 8 11 (B_ 511 34) ?_
            refine pu_ HT_ 9 12 (B_ 1023 34) ?_
            refine pu_ HT_ 10 13 (B_ 2047 34) ?_
            refine tk1_ HT_ HW_ hHeld 11 14 (B_ 4095 34) ?_
            refine one_ (i := 12) (N := some 15) (B_ 8191 34) rfl rfl (one_of HT_.out (by kernel_rfl)) (by decide) (fun K hK => ?_)
            refine goes_ Try.func79 (by kernel_rfl) rfl #[.slice A0_0 l0_0.length c0_0] (by rfl) rfl rfl (by (try simp only [List.map_toArray, List.map_cons, List.map_nil]); first | done | rfl | (simp only [List.length_drop, List.length_take]; rfl)) ?_
            with_reducible refine (spec_IsAscending.calls k _ _ l0_0 true _ ?side1 ?side2 A5.out).mono ?_
            (case side1 => repeat (first | exact (Kd.C_below HR0_0.out (by repeat (first | (with_reducible first | exact HB.out | apply below_alloc | apply pw_below_drewN | apply below_drew1 | refine below_set ?_ GE224.out) | exact HB.out))) | (with_reducible refine Kd.C_alloc ?_ _) | (with_reducible refine Kd.C_drewN ?_ _) | (with_reducible refine Kd.C_drew ?_)))
            (case side2 => exact HC0_0.out)
            rintro e w' ⟨rfl, ⟨nd, rfl⟩⟩
            refine ⟨_, rfl, ?_⟩
            refine hK.out _ _ ((blk_cell BK224.out 0).trans rfl) (fun hHeld => ?_)
            clear hK K
            refine norm_ (a' := ?_) ?_ ?_
            rotate_left
            · show Act.put _ (some 15) _ = _
              simp only [Act.put, z1_, z2_, z3_, i64_w, i32_w]
              rfl
            refine pu_ HT_ 13 16 (B_ 16383 34) ?_
            refine pu_ HT_ 14 17 (B_ 32767 34) ?_
            refine pu_ HT_ 15 18 (B_ 65535 34) ?_
            refine tk1_ HT_ HW_ hHeld 16 19 (B_ 131071 34) ?_
            refine one_ (i := 17) (N := some 20) (B_ 262143 34) rfl rfl (one_of HT_.out (by kernel_rfl)) (by decide) (fun K hK => ?_)
            refine goes_ Try.func80 (by kernel_rfl) rfl #[.slice A0_0 l0_0.length c0_0] (by rfl) rfl rfl (by (try simp only [List.map_toArray, List.map_cons, List.map_nil]); first | done | rfl | (simp only [List.length_drop, List.length_take]; rfl)) ?_
            with_reducible refine (spec_GcdOfList.calls k _ _ l0_0 t227 _ ?side1 ?side2 A7.out).mono ?_
            (case side1 => repeat (first | exact (Kd.C_below HR0_0.out (by repeat (first | (with_reducible first | exact HB.out | apply below_alloc | apply pw_below_drewN | apply below_drew1 | refine below_set ?_ GE224.out) | exact HB.out))) | (with_reducible refine Kd.C_alloc ?_ _) | (with_reducible refine Kd.C_drewN ?_ _) | (with_reducible refine Kd.C_drew ?_)))
            (case side2 => exact HC0_0.out)
            rintro e w' ⟨rfl, ⟨nd, rfl⟩⟩
            refine ⟨_, rfl, ?_⟩
            refine hK.out _ _ ((blk_cell BK224.out 0).trans rfl) (fun hHeld => ?_)
            clear hK K
            refine norm_ (a' := ?_) ?_ ?_
            rotate_left
            · show Act.put _ (some 20) _ = _
              simp only [Act.put, z1_, z2_, z3_, i64_w, i32_w]
              rfl
            refine pu_ HT_ 18 21 (B_ 524287 34) ?_
            refine pu_ HT_ 19 22 (B_ 1048575 34) ?_
            refine pu_ HT_ 20 23 (B_ 2097151 34) ?_
            refine pu_ HT_ 21 24 (B_ 4194303 34) ?_
            refine pu_ HT_ 24 27 (B_ 20971519 34) ?_
            refine tk1_ HT_ HW_ hHeld 22 25 (B_ 25165823 34) ?_
            refine tk1_ HT_ HW_ hHeld 25 28 (B_ 58720255 34) ?_
            refine one_ (i := 23) (N := some 26) (B_ 67108863 34) rfl rfl (one_of HT_.out (by kernel_rfl)) (by decide) (fun K hK => ?_)
            refine goes_ Try.func82 (by kernel_rfl) rfl #[.slice A0_0 l0_0.length c0_0] (by rfl) rfl rfl (by (try simp only [List.map_toArray, List.map_cons, List.map_nil]); first | done | rfl | (simp only [List.length_drop, List.length_take]; rfl)) ?_
            with_reducible refine (spec_l3Minimal.calls k _ _ l0_0 t228 _ ?side1 ?side2 A9.out).mono ?_
            (case side1 => repeat (first | exact (Kd.C_below HR0_0.out (by repeat (first | (with_reducible first | exact HB.out | apply below_alloc | apply pw_below_drewN | apply below_drew1 | refine below_set ?_ GE224.out) | exact HB.out))) | (with_reducible refine Kd.C_alloc ?_ _) | (with_reducible refine Kd.C_drewN ?_ _) | (with_reducible refine Kd.C_drew ?_)))
            (case side2 => exact HC0_0.out)
            rintro e w20 ⟨v229, rfl, ho0, hb⟩
            refine ⟨_, rfl, ?_⟩
            have n0_ := Aside0.mk (Kd.R_lower ho0 (below_size (by repeat (first | (with_reducible first | exact HB.out | apply below_alloc | apply pw_below_drewN | apply below_drew1 | refine below_set ?_ GE224.out) | exact HB.out))))
            have n1_ := Aside0.mk (blk_below (g := gb224) (o := .cells #[.slice A0_0 l0_0.length c0_0] 27 (0, 0)) (be_ BK224.out) hb)
            have n2_ := Aside0.mk (below_step (by repeat (first | (with_reducible first | exact HB.out | apply below_alloc | apply pw_below_drewN | apply below_drew1 | refine below_set ?_ GE224.out) | exact HB.out)) hb)
            clear BK224
            clear HB
            have HO230 := n0_
            have BK224 := n1_
            have HB := n2_
            clear n0_ n1_ n2_
            (try clear hb)
            (try clear hb2)
            (try clear hk)
            (try clear hi)
            (try clear ho0)
            obtain ⟨Ao21, co21, eo21⟩ := Kd.R_slice HO230.out
            (first | subst eo21 | (injection eo21 with f1_ f2_ f3_; have f4_ := f1_.symm; have f5_ := f3_.symm; clear f1_ f2_ f3_; subst f4_; subst f5_))
            refine hK.out _ _ ((blk_cell BK224.out 0).trans rfl) (fun hHeld => ?_)
            clear hK K
            refine norm_ (a' := ?_) ?_ ?_
            rotate_left
            · show Act.put _ (some 26) _ = _
              simp only [Act.put, z1_, z2_, z3_, i64_w, i32_w]
              rfl
            refine one_ (i := 26) (N := some 29) (B_ 134217727 34) rfl rfl (one_of HT_.out (by kernel_rfl)) (by decide) (fun K hK => ?_)
            refine goes_ Try.func81 (by kernel_rfl) rfl #[.slice Ao21 t228.length co21, .slice A0_0 l0_0.length c0_0] (by rfl) rfl rfl (by (try simp only [List.map_toArray, List.map_cons, List.map_nil]); first | done | rfl | (simp only [List.length_drop, List.length_take]; rfl)) ?_
            with_reducible refine (spec_l2Same.calls k _ _ t228 _ _ l0_0 false _ ?side1 ?side2 ?side3 ?side4 A10.out).mono ?_
            (case side1 => exact ce_ ((Kd.R_reads' HO230.out).2.2))
            (case side2 => exact (Kd.R_reads' HO230.out).2.1)
            (case side3 => exact ce_ ((Kd.C_below HR0_0.out HB.out)))
            (case side4 => exact HC0_0.out)
            rintro e w' ⟨rfl, ⟨nd, rfl⟩⟩
            refine ⟨_, rfl, ?_⟩
            refine hK.out _ _ ((blk_cell BK224.out 0).trans rfl) (fun hHeld => ?_)
            clear hK K
            refine norm_ (a' := ?_) ?_ ?_
            rotate_left
            · show Act.put _ (some 29) _ = _
              simp only [Act.put, z1_, z2_, z3_, i64_w, i32_w]
              rfl
            refine pu_ HT_ 27 30 (B_ 268435455 34) ?_
            refine pu_ HT_ 28 31 (B_ 536870911 34) ?_
            refine pn_ HT_ 29 32 (B_ 1073741823 34) ?_
            refine pn_ HT_ 30 33 (B_ 2147483647 34) ?_
            refine pn_ HT_ 31 34 (B_ 4294967295 34) ?_
            refine pu_ HT_ 32 35 (B_ 8589934591 34) ?_
            refine pu_ HT_ 33 2 (B_ 17179869183 34) ?_
            refine done_ (done_of HT_.out (by kernel_rfl)) ?_
            try go_wp2
            go_ret
            exact ⟨by first | rfl | (simp [errW_none, errW_some] <;> rfl) | (simp [*, errW_none, errW_some] <;> rfl), by repeat (first | (with_reducible first | exact HB.out | apply below_alloc | apply pw_below_drewN | apply below_drew1 | refine below_set ?_ GE224.out) | exact HB.out)⟩
       · rw [if_neg c8] at H
         have c8b0 : (t227 == 1) = false := beq_eq_false_iff_ne.mpr c8
         have c8b1 : (t227 != 1) = true := bne_iff_ne.mpr c8
         as_aux_lemma =>
          obtain rfl := Option.some.inj H
          go_enter Try.func42, Try.ntmps42
          try go_wp2_with (first | ((with_reducible refine gate_dst (N := 1) rfl ?_); (try (refine gate_guard (by rfl) ?_; dsimp only)); refine box_event ?hg (N := 1) ?hd (cs := #[.slice A0_0 l0_0.length c0_0]) (t := 27) ?hr ?_; (case hd => rfl); (case hg => rfl); (case hr => first | (go_simp; done) | (go_simp; rfl)); intro gb224 hg w22 hbox hb; have n0_ := Aside0.mk (below_step (bl_ HB.out) hb); have n1_ := Aside0.mk (hbox); have n2_ := Aside0.mk ((by rw [hg]; exact (below_size (bl_ HB.out)) : w.heap.size ≤ gb224)); have n3_ := Aside0.mk ((by rw [hg]; exact (below_size (bl_ HB.out)) : w.heap.size ≤ gb224)); clear HB; have HB := n0_; have BK224 := n1_; have GW224 := n2_; have GE224 := n3_; clear n0_ n1_ n2_ n3_; clear hb hbox hg))
          have n0_ := Aside0.mk (blk_drew BK224.out)
          have n1_ := Aside0.mk (below_drew1 HB.out)
          clear BK224
          clear HB
          have BK224 := n0_
          have HB := n1_
          clear n0_ n1_
          refine start_ (n := 34) (S := fun w' => w'.cell? ⟨gb224, 0, none⟩ = some (.slice A0_0 l0_0.length c0_0)) (ds := []) (B_ 0 34) (by kernel_rfl) rfl rfl ((blk_cell BK224.out 0).trans rfl) (fun hHeld => ?_); refine with_tabW spec_IsSemigroup.tab1 spec_IsSemigroup.bits1 (fun HT_ HW_ => ?_)
          generalize w22.drew = w23 at BK224 HB hHeld ⊢
          refine pu_ HT_ 0 3 (B_ 1 34) ?_
          refine tk1_ HT_ HW_ hHeld 1 4 (B_ 3 34) ?_
          refine one_ (i := 2) (N := some 5) (B_ 7 34) rfl rfl (one_of HT_.out (by kernel_rfl)) (by decide) (fun K hK => ?_)
          refine goes_ Try.func78 (by kernel_rfl) rfl #[.slice A0_0 l0_0.length c0_0] (by rfl) rfl rfl (by (try simp only [List.map_toArray, List.map_cons, List.map_nil]); first | done | rfl | (simp only [List.length_drop, List.length_take]; rfl)) ?_
          with_reducible refine (spec_l3Gens.calls k _ _ l0_0 true _ ?side1 ?side2 A2.out).mono ?_
          (case side1 => exact ce_ ((Kd.C_below HR0_0.out HB.out)))
          (case side2 => exact HC0_0.out)
          rintro e w' ⟨rfl, ⟨nd, rfl⟩⟩
          refine ⟨_, rfl, ?_⟩
          refine hK.out _ _ ((blk_cell BK224.out 0).trans rfl) (fun hHeld => ?_)
          clear hK K
          refine norm_ (a' := ?_) ?_ ?_
          rotate_left
          · show Act.put _ (some 5) _ = _
            simp only [Act.put, z1_, z2_, z3_, i64_w, i32_w]
            rfl
          refine pu_ HT_ 3 6 (B_ 15 34) ?_
          refine pu_ HT_ 4 7 (B_ 31 34) ?_
          refine tk1_ HT_ HW_ hHeld 5 8 (B_ 63 34) ?_
          refine pu_ HT_ 6 9 (B_ 127 34) ?_
          refine pu_ HT_ 7 10 (B_ 255 34) ?_
          refine pu_ HT_ 8 11 (B_ 511 34) ?_
          refine pu_ HT_ 9 12 (B_ 1023 34) ?_
          refine pu_ HT_ 10 13 (B_ 2047 34) ?_
          refine tk1_ HT_ HW_ hHeld 11 14 (B_ 4095 34) ?_
          refine one_ (i := 12) (N := some 15) (B_ 8191 34) rfl rfl (one_of HT_.out (by kernel_rfl)) (by decide) (fun K hK => ?_)
          refine goes_ Try.func79 (by kernel_rfl) rfl #[.slice A0_0 l0_0.length c0_0] (by rfl) rfl rfl (by (try simp only [List.map_toArray, List.map_cons, List.map_nil]); first | done | rfl | (simp only [List.length_drop, List.length_take]; rfl)) ?_
          with_reducible refine (spec_IsAscending.calls k _ _ l0_0 true _ ?side1 ?side2 A5.out).mono ?_
          (case side1 => repeat (first | exact (Kd.C_below HR0_0.out (by repeat (first | (with_reducible first | exact HB.out | apply below_alloc | apply pw_below_drewN | apply below_drew1 | refine below_set ?_ GE224.out) | exact HB.out))) | (with_reducible refine Kd.C_alloc ?_ _) | (with_reducible refine Kd.C_drewN ?_ _) | (with_reducible refine Kd.C_drew ?_)))
          (case side2 => exact HC0_0.out)
          rintro e w' ⟨rfl, ⟨nd, rfl⟩⟩
          refine ⟨_, rfl, ?_⟩
          refine hK.out _ _ ((blk_cell BK224.out 0).trans rfl) (fun hHeld => ?_)
          clear hK K
          refine norm_ (a' := ?_) ?_ ?_
          rotate_left
          · show Act.put _ (some 15) _ = _
            simp only [Act.put, z1_, z2_, z3_, i64_w, i32_w]
            rfl
          refine pu_ HT_ 13 16 (B_ 16383 34) ?_
          refine pu_ HT_ 14 17 (B_ 32767 34) ?_
          refine pu_ HT_ 15 18 (B_ 65535 34) ?_
          refine tk1_ HT_ HW_ hHeld 16 19 (B_ 131071 34) ?_
          refine one_ (i := 17) (N := some 20) (B_ 262143 34) rfl rfl (one_of HT_.out (by kernel_rfl)) (by decide) (fun K hK => ?_)
          refine goes_ Try.func80 (by kernel_rfl) rfl #[.slice A0_0 l0_0.length c0_0] (by rfl) rfl rfl (by (try simp only [List.map_toArray, List.map_cons, List.map_nil]); first | done | rfl | (simp only [List.length_drop, List.length_take]; rfl)) ?_
          with_reducible refine (spec_GcdOfList.calls k _ _ l0_0 t227 _ ?side1 ?side2 A7.out).mono ?_
          (case side1 => repeat (first | exact (Kd.C_below HR0_0.out (by repeat (first | (with_reducible first | exact HB.out | apply below_alloc | apply pw_below_drewN | apply below_drew1 | refine below_set ?_ GE224.out) | exact HB.out))) | (with_reducible refine Kd.C_alloc ?_ _) | (with_reducible refine Kd.C_drewN ?_ _) | (with_reducible refine Kd.C_drew ?_)))
          (case side2 => exact HC0_0.out)
          rintro e w' ⟨rfl, ⟨nd, rfl⟩⟩
          refine ⟨_, rfl, ?_⟩
          refine hK.out _ _ ((blk_cell BK224.out 0).trans rfl) (fun hHeld => ?_)
          clear hK K
          refine norm_ (a' := ?_) ?_ ?_
          rotate_left
          · show Act.put _ (some 20) _ = _
            simp only [Act.put, z1_, z2_, z3_, i64_w, i32_w]
            rfl
          refine pu_ HT_ 18 21 (B_ 524287 34) ?_
          refine pu_ HT_ 19 22 (B_ 1048575 34) ?_
          refine pu_ HT_ 20 23 (B_ 2097151 34) ?_
          refine pn_ HT_ 21 24 (B_ 4194303 34) ?_
          refine pn_ HT_ 22 25 (B_ 8388607 34) ?_
          refine pn_ HT_ 23 26 (B_ 16777215 34) ?_
          refine pn_ HT_ 24 27 (B_ 33554431 34) ?_
          refine pn_ HT_ 25 28 (B_ 67108863 34) ?_
          refine pn_ HT_ 26 29 (B_ 134217727 34) ?_
          refine pu_ HT_ 27 30 (B_ 268435455 34) ?_
          refine pu_ HT_ 28 31 (B_ 536870911 34) ?_
          refine pn_ HT_ 29 32 (B_ 1073741823 34) ?_
          refine pn_ HT_ 30 33 (B_ 2147483647 34) ?_
          refine pn_ HT_ 31 34 (B_ 4294967295 34) ?_
          refine pu_ HT_ 32 35 (B_ 8589934591 34) ?_
          refine pu_ HT_ 33 2 (B_ 17179869183 34) ?_
          refine done_ (done_of HT_.out (by kernel_rfl)) ?_
          try go_wp2
          go_ret
          exact ⟨by first | rfl | (simp [errW_none, errW_some] <;> rfl) | (simp [*, errW_none, errW_some] <;> rfl), by repeat (first | (with_reducible first | exact HB.out | apply below_alloc | apply pw_below_drewN | apply below_drew1 | refine below_set ?_ GE224.out) | exact HB.out)⟩
     · replace c6 := Bool.eq_false_iff.mpr c6
       subst c6
       have H1 : (some false) = some r := by rw [if_neg (show ¬ (false = true) by decide)] at H; exact H
       clear H
       have H := H1
       clear H1
       as_aux_lemma =>
        obtain rfl := Option.some.inj H
        go_enter Try.func42, Try.ntmps42
        try go_wp2_with (first | ((with_reducible refine gate_dst (N := 1) rfl ?_); (try (refine gate_guard (by rfl) ?_; dsimp only)); refine box_event ?hg (N := 1) ?hd (cs := #[.slice A0_0 l0_0.length c0_0]) (t := 27) ?hr ?_; (case hd => rfl); (case hg => rfl); (case hr => first | (go_simp; done) | (go_simp; rfl)); intro gb224 hg w24 hbox hb; have n0_ := Aside0.mk (below_step (bl_ HB.out) hb); have n1_ := Aside0.mk (hbox); have n2_ := Aside0.mk ((by rw [hg]; exact (below_size (bl_ HB.out)) : w.heap.size ≤ gb224)); have n3_ := Aside0.mk ((by rw [hg]; exact (below_size (bl_ HB.out)) : w.heap.size ≤ gb224)); clear HB; have HB := n0_; have BK224 := n1_; have GW224 := n2_; have GE224 := n3_; clear n0_ n1_ n2_ n3_; clear hb hbox hg))
        have n0_ := Aside0.mk (blk_drew BK224.out)
        have n1_ := Aside0.mk (below_drew1 HB.out)
        clear BK224
        clear HB
        have BK224 := n0_
        have HB := n1_
        clear n0_ n1_
        refine start_ (n := 34) (S := fun w' => w'.cell? ⟨gb224, 0, none⟩ = some (.slice A0_0 l0_0.length c0_0)) (ds := []) (B_ 0 34) (by kernel_rfl) rfl rfl ((blk_cell BK224.out 0).trans rfl) (fun hHeld => ?_); refine with_tabW spec_IsSemigroup.tab1 spec_IsSemigroup.bits1 (fun HT_ HW_ => ?_)
        generalize w24.drew = w25 at BK224 HB hHeld ⊢
        refine pu_ HT_ 0 3 (B_ 1 34) ?_
        refine tk1_ HT_ HW_ hHeld 1 4 (B_ 3 34) ?_
        refine one_ (i := 2) (N := some 5) (B_ 7 34) rfl rfl (one_of HT_.out (by kernel_rfl)) (by decide) (fun K hK => ?_)
        refine goes_ Try.func78 (by kernel_rfl) rfl #[.slice A0_0 l0_0.length c0_0] (by rfl) rfl rfl (by (try simp only [List.map_toArray, List.map_cons, List.map_nil]); first | done | rfl | (simp only [List.length_drop, List.length_take]; rfl)) ?_
        with_reducible refine (spec_l3Gens.calls k _ _ l0_0 true _ ?side1 ?side2 A2.out).mono ?_
        (case side1 => exact ce_ ((Kd.C_below HR0_0.out HB.out)))
        (case side2 => exact HC0_0.out)
        rintro e w' ⟨rfl, ⟨nd, rfl⟩⟩
        refine ⟨_, rfl, ?_⟩
        refine hK.out _ _ ((blk_cell BK224.out 0).trans rfl) (fun hHeld => ?_)
        clear hK K
        refine norm_ (a' := ?_) ?_ ?_
        rotate_left
        · show Act.put _ (some 5) _ = _
          simp only [Act.put, z1_, z2_, z3_, i64_w, i32_w]
          rfl
        refine pu_ HT_ 3 6 (B_ 15 34) ?_
        refine pu_ HT_ 4 7 (B_ 31 34) ?_
        refine tk1_ HT_ HW_ hHeld 5 8 (B_ 63 34) ?_
        refine pu_ HT_ 6 9 (B_ 127 34) ?_
        refine pu_ HT_ 7 10 (B_ 255 34) ?_
        refine pu_ HT_ 8 11 (B_ 511 34) ?_
        refine pu_ HT_ 9 12 (B_ 1023 34) ?_
        refine pu_ HT_ 10 13 (B_ 2047 34) ?_
        refine tk1_ HT_ HW_ hHeld 11 14 (B_ 4095 34) ?_
        refine one_ (i := 12) (N := some 15) (B_ 8191 34) rfl rfl (one_of HT_.out (by kernel_rfl)) (by decide) (fun K hK => ?_)
        refine goes_ Try.func79 (by kernel_rfl) rfl #[.slice A0_0 l0_0.length c0_0] (by rfl) rfl rfl (by (try simp only [List.map_toArray, List.map_cons, List.map_nil]); first | done | rfl | (simp only [List.length_drop, List.length_take]; rfl)) ?_
        with_reducible refine (spec_IsAscending.calls k _ _ l0_0 false _ ?side1 ?side2 A5.out).mono ?_
        (case side1 => repeat (first | exact (Kd.C_below HR0_0.out (by repeat (first | (with_reducible first | exact HB.out | apply below_alloc | apply pw_below_drewN | apply below_drew1 | refine below_set ?_ GE224.out) | exact HB.out))) | (with_reducible refine Kd.C_alloc ?_ _) | (with_reducible refine Kd.C_drewN ?_ _) | (with_reducible refine Kd.C_drew ?_)))
        (case side2 => exact HC0_0.out)
        rintro e w' ⟨rfl, ⟨nd, rfl⟩⟩
        refine ⟨_, rfl, ?_⟩
        refine hK.out _ _ ((blk_cell BK224.out 0).trans rfl) (fun hHeld => ?_)
        clear hK K
        refine norm_ (a' := ?_) ?_ ?_
        rotate_left
        · show Act.put _ (some 15) _ = _
          simp only [Act.put, z1_, z2_, z3_, i64_w, i32_w]
          rfl
        refine pu_ HT_ 13 16 (B_ 16383 34) ?_
        refine pu_ HT_ 14 17 (B_ 32767 34) ?_
        refine pn_ HT_ 15 18 (B_ 65535 34) ?_
        refine pn_ HT_ 16 19 (B_ 131071 34) ?_
        refine pn_ HT_ 17 20 (B_ 262143 34) ?_
        refine pn_ HT_ 18 21 (B_ 524287 34) ?_
        refine pu_ HT_ 19 22 (B_ 1048575 34) ?_
        refine pu_ HT_ 20 23 (B_ 2097151 34) ?_
        refine pn_ HT_ 21 24 (B_ 4194303 34) ?_
        refine pn_ HT_ 22 25 (B_ 8388607 34) ?_
        refine pn_ HT_ 23 26 (B_ 16777215 34) ?_
        refine pn_ HT_ 24 27 (B_ 33554431 34) ?_
        refine pn_ HT_ 25 28 (B_ 67108863 34) ?_
        refine pn_ HT_ 26 29 (B_ 134217727 34) ?_
        refine pu_ HT_ 27 30 (B_ 268435455 34) ?_
        refine pu_ HT_ 28 31 (B_ 536870911 34) ?_
        refine pn_ HT_ 29 32 (B_ 1073741823 34) ?_
        refine pn_ HT_ 30 33 (B_ 2147483647 34) ?_
        refine pn_ HT_ 31 34 (B_ 4294967295 34) ?_
        refine pu_ HT_ 32 35 (B_ 8589934591 34) ?_
        refine pu_ HT_ 33 2 (B_ 17179869183 34) ?_
        refine done_ (done_of HT_.out (by kernel_rfl)) ?_
        try go_wp2
        go_ret
        exact ⟨by first | rfl | (simp [errW_none, errW_some] <;> rfl) | (simp [*, errW_none, errW_some] <;> rfl), by repeat (first | (with_reducible first | exact HB.out | apply below_alloc | apply pw_below_drewN | apply below_drew1 | refine below_set ?_ GE224.out) | exact HB.out)⟩
   · rw [if_neg c4] at H
     have c4b0 : decide ((l0_0.length : Int) ≤ 12) = false := decide_eq_false c4
     have c4b1 : decide (l0_0.length ≤ 12) = false := decide_eq_false (by omega)
     clear c4
     as_aux_lemma =>
      obtain rfl := Option.some.inj H
      go_enter Try.func42, Try.ntmps42
      try go_wp2_with (first | ((with_reducible refine gate_dst (N := 1) rfl ?_); (try (refine gate_guard (by rfl) ?_; dsimp only)); refine box_event ?hg (N := 1) ?hd (cs := #[.slice A0_0 l0_0.length c0_0]) (t := 27) ?hr ?_; (case hd => rfl); (case hg => rfl); (case hr => first | (go_simp; done) | (go_simp; rfl)); intro gb224 hg w26 hbox hb; have n0_ := Aside0.mk (below_step (bl_ HB.out) hb); have n1_ := Aside0.mk (hbox); have n2_ := Aside0.mk ((by rw [hg]; exact (below_size (bl_ HB.out)) : w.heap.size ≤ gb224)); have n3_ := Aside0.mk ((by rw [hg]; exact (below_size (bl_ HB.out)) : w.heap.size ≤ gb224)); clear HB; have HB := n0_; have BK224 := n1_; have GW224 := n2_; have GE224 := n3_; clear n0_ n1_ n2_ n3_; clear hb hbox hg))
      have n0_ := Aside0.mk (blk_drew BK224.out)
      have n1_ := Aside0.mk (below_drew1 HB.out)
      clear BK224
      clear HB
      have BK224 := n0_
      have HB := n1_
      clear n0_ n1_
      refine start_ (n := 34) (S := fun w' => w'.cell? ⟨gb224, 0, none⟩ = some (.slice A0_0 l0_0.length c0_0)) (ds := []) (B_ 0 34) (by kernel_rfl) rfl rfl ((blk_cell BK224.out 0).trans rfl) (fun hHeld => ?_); refine with_tabW spec_IsSemigroup.tab1 spec_IsSemigroup.bits1 (fun HT_ HW_ => ?_)
      generalize w26.drew = w27 at BK224 HB hHeld ⊢
      refine pu_ HT_ 0 3 (B_ 1 34) ?_
      refine tk1_ HT_ HW_ hHeld 1 4 (B_ 3 34) ?_
      refine one_ (i := 2) (N := some 5) (B_ 7 34) rfl rfl (one_of HT_.out (by kernel_rfl)) (by decide) (fun K hK => ?_)
      refine goes_ Try.func78 (by kernel_rfl) rfl #[.slice A0_0 l0_0.length c0_0] (by rfl) rfl rfl (by (try simp only [List.map_toArray, List.map_cons, List.map_nil]); first | done | rfl | (simp only [List.length_drop, List.length_take]; rfl)) ?_
      with_reducible refine (spec_l3Gens.calls k _ _ l0_0 true _ ?side1 ?side2 A2.out).mono ?_
      (case side1 => exact ce_ ((Kd.C_below HR0_0.out HB.out)))
      (case side2 => exact HC0_0.out)
      rintro e w' ⟨rfl, ⟨nd, rfl⟩⟩
      refine ⟨_, rfl, ?_⟩
      refine hK.out _ _ ((blk_cell BK224.out 0).trans rfl) (fun hHeld => ?_)
      clear hK K
      refine norm_ (a' := ?_) ?_ ?_
      rotate_left
      · show Act.put _ (some 5) _ = _
        simp only [Act.put, z1_, z2_, z3_, i64_w, i32_w]
        rfl
      refine pu_ HT_ 3 6 (B_ 15 34) ?_
      refine pu_ HT_ 4 7 (B_ 31 34) ?_
      refine tk1_ HT_ HW_ hHeld 5 8 (B_ 63 34) ?_
      refine pu_ HT_ 6 9 (B_ 127 34) ?_
      refine pu_ HT_ 7 10 (B_ 255 34) ?_
      refine pu_ HT_ 8 11 (B_ 511 34) ?_
      refine pu_ HT_ 9 12 (B_ 1023 34) ?_
      refine pn_ HT_ 10 13 (B_ 2047 34) ?_
      refine pn_ HT_ 11 14 (B_ 4095 34) ?_
      refine pn_ HT_ 12 15 (B_ 8191 34) ?_
      refine pu_ HT_ 13 16 (B_ 16383 34) ?_
      refine pu_ HT_ 14 17 (B_ 32767 34) ?_
      refine pn_ HT_ 15 18 (B_ 65535 34) ?_
      refine pn_ HT_ 16 19 (B_ 131071 34) ?_
      refine pn_ HT_ 17 20 (B_ 262143 34) ?_
      refine pn_ HT_ 18 21 (B_ 524287 34) ?_
      refine pu_ HT_ 19 22 (B_ 1048575 34) ?_
      refine pu_ HT_ 20 23 (B_ 2097151 34) ?_
      refine pn_ HT_ 21 24 (B_ 4194303 34) ?_
      refine pn_ HT_ 22 25 (B_ 8388607 34) ?_
      refine pn_ HT_ 23 26 (B_ 16777215 34) ?_
      refine pn_ HT_ 24 27 (B_ 33554431 34) ?_
      refine pn_ HT_ 25 28 (B_ 67108863 34) ?_
      refine pn_ HT_ 26 29 (B_ 134217727 34) ?_
      refine pu_ HT_ 27 30 (B_ 268435455 34) ?_
      refine pu_ HT_ 28 31 (B_ 536870911 34) ?_
      refine pn_ HT_ 29 32 (B_ 1073741823 34) ?_
      refine pn_ HT_ 30 33 (B_ 2147483647 34) ?_
      refine pn_ HT_ 31 34 (B_ 4294967295 34) ?_
      refine pu_ HT_ 32 35 (B_ 8589934591 34) ?_
      refine pu_ HT_ 33 2 (B_ 17179869183 34) ?_
      refine done_ (done_of HT_.out (by kernel_rfl)) ?_
      try go_wp2
      go_ret
      exact ⟨by first | rfl | (simp [errW_none, errW_some] <;> rfl) | (simp [*, errW_none, errW_some] <;> rfl), by repeat (first | (with_reducible first | exact HB.out | apply below_alloc | apply pw_below_drewN | apply below_drew1 | refine below_set ?_ GE224.out) | exact HB.out)⟩
 · replace c3 := Bool.eq_false_iff.mpr c3
   subst c3
   have H1 : (some false) = some r := by rw [if_neg (show ¬ (false = true) by decide)] at H; exact H
   clear H
   have H := H1
   clear H1
   as_aux_lemma =>
    obtain rfl := Option.some.inj H
    go_enter Try.func42, Try.ntmps42
    try go_wp2_with (first | ((with_reducible refine gate_dst (N := 1) rfl ?_); (try (refine gate_guard (by rfl) ?_; dsimp only)); refine box_event ?hg (N := 1) ?hd (cs := #[.slice A0_0 l0_0.length c0_0]) (t := 27) ?hr ?_; (case hd => rfl); (case hg => rfl); (case hr => first | (go_simp; done) | (go_simp; rfl)); intro gb224 hg w28 hbox hb; have n0_ := Aside0.mk (below_step (bl_ HB.out) hb); have n1_ := Aside0.mk (hbox); have n2_ := Aside0.mk ((by rw [hg]; exact (below_size (bl_ HB.out)) : w.heap.size ≤ gb224)); have n3_ := Aside0.mk ((by rw [hg]; exact (below_size (bl_ HB.out)) : w.heap.size ≤ gb224)); clear HB; have HB := n0_; have BK224 := n1_; have GW224 := n2_; have GE224 := n3_; clear n0_ n1_ n2_ n3_; clear hb hbox hg))
    have n0_ := Aside0.mk (blk_drew BK224.out)
    have n1_ := Aside0.mk (below_drew1 HB.out)
    clear BK224
    clear HB
    have BK224 := n0_
    have HB := n1_
    clear n0_ n1_
    refine start_ (n := 34) (S := fun w' => w'.cell? ⟨gb224, 0, none⟩ = some (.slice A0_0 l0_0.length c0_0)) (ds := []) (B_ 0 34) (by kernel_rfl) rfl rfl ((blk_cell BK224.out 0).trans rfl) (fun hHeld => ?_); refine with_tabW spec_IsSemigroup.tab1 spec_IsSemigroup.bits1 (fun HT_ HW_ => ?_)
    generalize w28.drew = w29 at BK224 HB hHeld ⊢
    refine pu_ HT_ 0 3 (B_ 1 34) ?_
    refine tk1_ HT_ HW_ hHeld 1 4 (B_ 3 34) ?_
    refine one_ (i := 2) (N := some 5) (B_ 7 34) rfl rfl (one_of HT_.out (by kernel_rfl)) (by decide) (fun K hK => ?_)
    refine goes_ Try.func78 (by kernel_rfl) rfl #[.slice A0_0 l0_0.length c0_0] (by rfl) rfl rfl (by (try simp only [List.map_toArray, List.map_cons, List.map_nil]); first | done | rfl | (simp only [List.length_drop, List.length_take]; rfl)) ?_
    with_reducible refine (spec_l3Gens.calls k _ _ l0_0 false _ ?side1 ?side2 A2.out).mono ?_
    (case side1 => exact ce_ ((Kd.C_below HR0_0.out HB.out)))
    (case side2 => exact HC0_0.out)
    rintro e w' ⟨rfl, ⟨nd, rfl⟩⟩
    refine ⟨_, rfl, ?_⟩
    refine hK.out _ _ ((blk_cell BK224.out 0).trans rfl) (fun hHeld => ?_)
    clear hK K
    refine norm_ (a' := ?_) ?_ ?_
    rotate_left
    · show Act.put _ (some 5) _ = _
      simp only [Act.put, z1_, z2_, z3_, i64_w, i32_w]
      rfl
    refine pu_ HT_ 3 6 (B_ 15 34) ?_
    refine pn_ HT_ 4 7 (B_ 31 34) ?_
    refine pn_ HT_ 5 8 (B_ 63 34) ?_
    refine pn_ HT_ 6 9 (B_ 127 34) ?_
    refine pn_ HT_ 7 10 (B_ 255 34) ?_
    refine pu_ HT_ 8 11 (B_ 511 34) ?_
    refine pu_ HT_ 9 12 (B_ 1023 34) ?_
    refine pn_ HT_ 10 13 (B_ 2047 34) ?_
    refine pn_ HT_ 11 14 (B_ 4095 34) ?_
    refine pn_ HT_ 12 15 (B_ 8191 34) ?_
    refine pu_ HT_ 13 16 (B_ 16383 34) ?_
    refine pu_ HT_ 14 17 (B_ 32767 34) ?_
    refine pn_ HT_ 15 18 (B_ 65535 34) ?_
    refine pn_ HT_ 16 19 (B_ 131071 34) ?_
    refine pn_ HT_ 17 20 (B_ 262143 34) ?_
    refine pn_ HT_ 18 21 (B_ 524287 34) ?_
    refine pu_ HT_ 19 22 (B_ 1048575 34) ?_
    refine pu_ HT_ 20 23 (B_ 2097151 34) ?_
    refine pn_ HT_ 21 24 (B_ 4194303 34) ?_
    refine pn_ HT_ 22 25 (B_ 8388607 34) ?_
    refine pn_ HT_ 23 26 (B_ 16777215 34) ?_
    refine pn_ HT_ 24 27 (B_ 33554431 34) ?_
    refine pn_ HT_ 25 28 (B_ 67108863 34) ?_
    refine pn_ HT_ 26 29 (B_ 134217727 34) ?_
    refine pu_ HT_ 27 30 (B_ 268435455 34) ?_
    refine pu_ HT_ 28 31 (B_ 536870911 34) ?_
    refine pn_ HT_ 29 32 (B_ 1073741823 34) ?_
    refine pn_ HT_ 30 33 (B_ 2147483647 34) ?_
    refine pn_ HT_ 31 34 (B_ 4294967295 34) ?_
    refine pu_ HT_ 32 35 (B_ 8589934591 34) ?_
    refine pu_ HT_ 33 2 (B_ 17179869183 34) ?_
    refine done_ (done_of HT_.out (by kernel_rfl)) ?_
    try go_wp2
    go_ret
    exact ⟨by first | rfl | (simp [errW_none, errW_some] <;> rfl) | (simp [*, errW_none, errW_some] <;> rfl), by repeat (first | (with_reducible first | exact HB.out | apply below_alloc | apply pw_below_drewN | apply below_drew1 | refine below_set ?_ GE224.out) | exact HB.out)⟩
end Go.Proofs.Ytapdhljbhekcdaa.PC
end
