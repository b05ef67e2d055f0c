-- Bundled by shake.py from this session's printed and written texts; Lean checks it.
import Derived.Test.YtonknpgfbkgbjaaZFnExactAllOfGenusx1
import Derived.Test.YtonknpgfbkgbjaaZFnExactAllOfGenusx2
import Derived.Test.YtonknpgfbkgbjaaZFnExactAllOfGenusx3
import Derived.Test.YtonknpgfbkgbjaaZFnExactAllOfGenusx5
import Derived.Test.YtonknpgfbkgbjaaZFnExactAllOfGenusx6
section
namespace Go.Proofs.Ytonknpgfbkgbjaa.PC
open Go.RowKit Go.Proofs.YtonknpgfbkgbjaaW.PrintWords Go.Proofs.YtonknpgfbkgbjaaW.PrintLast Go.Proofs.YtonknpgfbkgbjaaW.PrintMore
attribute [local go_sem] max2_int min2_int max_two min_two max_three min_three max_four min_four
set_option linter.unusedVariables false
set_option linter.unusedSimpArgs false
set_option maxHeartbeats 8000000
set_option maxRecDepth 100000
def spec_l19Before.l0 : Nat → List Int → List Int → Int → Option (Bool)
 | 0, _, _, _ => none
 | k + 1, x0, x1, x5 => if x5 < (x0.length : Int) then (if 0 ≤ x5 then (if x5 < (x1.length : Int) then (if (rd x0 x5) = (rd x1 x5) then (spec_l19Before.l0 k x0 x1 (wrap64 (x5 + 1))) else (some (decide ((rd x0 x5) < (rd x1 x5))))) else (none)) else (none)) else (some false)
def spec_l19Before.f (k : Nat) (l0 : List Int) (l1 : List Int) : Option (Bool) := if (l0.length : Int) = (l1.length : Int) then (spec_l19Before.l0 k l0 l1 0) else (some (decide ((l0.length : Int) < (l1.length : Int))))
theorem spec_l19Before.calls (k : Nat) (A0 : Option Addr) (c0 : Nat) (l0 : List Int) (A1 : Option Addr) (c1 : Nat) (l1 : List Int) (r : Bool) (w : World) (hr0 : Kd.C (Kd.int .i64) w A0 l0.length l0) (hc0 : l0.length ≤ c0) (hr1 : Kd.C (Kd.int .i64) w A1 l1.length l1) (hc1 : l1.length ≤ c1) (h : spec_l19Before.f k l0 l1 = some r) :
 Calls Try.prog 73 #[.slice A0 l0.length c0, .slice A1 l1.length c1] w fun e w' => e = .returned (.bool r) ∧ Drawn0 w w' := by
 have HR0 := Aside0.mk hr0
 have HC0 := Aside0.mk hc0
 clear hr0 hc0
 have HR1 := Aside0.mk hr1
 have HC1 := Aside0.mk hc1
 clear hr1 hc1
 have H := h
 clear h
 unfold spec_l19Before.f at H
 by_cases c3 : (l0.length : Int) = (l1.length : Int)
 rotate_left
 · rw [if_neg c3] at H
   have c3b0 : ((l0.length : Int) == (l1.length : Int)) = false := beq_eq_false_iff_ne.mpr c3
   have c3b1 : ((l0.length : Int) != (l1.length : Int)) = true := bne_iff_ne.mpr c3
   have c3b2 : (l0.length == l1.length) = false := by first | simpa using c3 | (simp at c3 ⊢; omega)
   obtain rfl := Option.some.inj H
   go_enter Try.func73, Try.ntmps73
   go_wp2
   repeat (go_quiet (fail); try go_wp2)
   go_ret
   exact ⟨by first | rfl | (simp; done) | (simp [*]; done), by repeat (first | exact Drawn0.refl _ | apply Drawn0.step)⟩
 rw [if_pos c3] at H
 have c3b0 : ((l0.length : Int) == (l1.length : Int)) = true := beq_iff_eq.mpr c3
 have c3b1 : ((l0.length : Int) != (l1.length : Int)) = false := bne_eq_false_iff_eq.mpr c3
 have c3b2 : (l0.length == l1.length) = true := by first | simpa using c3 | (simp at c3 ⊢; omega)
 clear c3
 have H' := Aside0.mk H
 clear H
 go_enter Try.func73, Try.ntmps73
 go_wp2
 repeat (go_quiet (fail); try go_wp2)
 go_loopg [5] k (fun kq v5 w' => ∃ (x5_1 : Int), v5 = .int .i64 x5_1 ∧ Aside0 (spec_l19Before.l0 kq l0 l1 x5_1 = some r) ∧ Aside0 (kq ≤ k) ∧ Drawn0 w w')
 case atStart => exact ⟨(0), rs_, H', ⟨Nat.le_refl _⟩, by repeat (first | exact Drawn0.refl _ | apply Drawn0.step)⟩
 case round =>
  clear H'
  try clear c1
  try clear c3b0
  try clear c3b1
  try clear c3b2
  obtain ⟨x5_1, rfl, HA, HK1, ⟨m1, rfl⟩⟩ := hrel
  cases gk with
  | zero => exact absurd HA.out (by simp [spec_l19Before.l0])
  | succ k1 =>
   have H := HA.out
   clear HA
   simp only [spec_l19Before.l0] at H
   by_cases c4 : x5_1 < (l0.length : Int)
   rotate_left
   · rw [if_neg c4] at H
     have c4b0 : decide (x5_1 < (l0.length : Int)) = false := decide_eq_false c4
     clear c4
     obtain rfl := Option.some.inj H
     go_wp2
     repeat (go_quiet (fail); try go_wp2)
     go_ret
     exact ⟨by first | rfl | (simp; done) | (simp [*]; done), by repeat (first | exact Drawn0.refl _ | apply Drawn0.step)⟩
   rw [if_pos c4] at H
   have c4b0 : decide (x5_1 < (l0.length : Int)) = true := decide_eq_true c4
   clear c4
   obtain ⟨c5b0, H⟩ := ipd_ H
   obtain ⟨c6b0, H⟩ := ipd_ H
   by_cases c7 : (rd l0 x5_1) = (rd l1 x5_1)
   · rw [if_pos c7] at H
     have c7b0 : ((rd l0 x5_1) == (rd l1 x5_1)) = true := beq_iff_eq.mpr c7
     have c7b1 : ((rd l0 x5_1) != (rd l1 x5_1)) = false := bne_eq_false_iff_eq.mpr c7
     clear c7
     have H' := Aside0.mk H
     clear H
     have p427 : 0 ≤ (x5_1 : Int) := od_
     have q427 : x5_1 < (l0.length : Int) := od_
     obtain ⟨ad427, e427, hx427_0⟩ := Kd.at_int HR0.out x5_1 p427 q427
     cases e427
     replace p427 := eq_true p427
     replace q427 := eq_true q427
     have p428 : 0 ≤ (x5_1 : Int) := od_
     have q428 : x5_1 < (l1.length : Int) := od_
     obtain ⟨ad428, e428, hx428_0⟩ := Kd.at_int HR1.out x5_1 p428 q428
     cases e428
     replace p428 := eq_true p428
     replace q428 := eq_true q428
     go_wp2
     repeat (go_quiet (fail); try go_wp2)
     go_roundg k1
     case measure => have := HK1.out; omega
     case rel => exact ⟨(wrap64 (x5_1 + 1)), rs_, H', ⟨by have := HK1.out; omega⟩, by repeat (first | exact Drawn0.refl _ | apply Drawn0.step)⟩
   rw [if_neg c7] at H
   have c7b0 : ((rd l0 x5_1) == (rd l1 x5_1)) = false := beq_eq_false_iff_ne.mpr c7
   have c7b1 : ((rd l0 x5_1) != (rd l1 x5_1)) = true := bne_iff_ne.mpr c7
   obtain rfl := Option.some.inj H
   have p427 : 0 ≤ (x5_1 : Int) := od_
   have q427 : x5_1 < (l0.length : Int) := od_
   obtain ⟨ad427, e427, hx427_0⟩ := Kd.at_int HR0.out x5_1 p427 q427
   cases e427
   replace p427 := eq_true p427
   replace q427 := eq_true q427
   have p428 : 0 ≤ (x5_1 : Int) := od_
   have q428 : x5_1 < (l1.length : Int) := od_
   obtain ⟨ad428, e428, hx428_0⟩ := Kd.at_int HR1.out x5_1 p428 q428
   cases e428
   replace p428 := eq_true p428
   replace q428 := eq_true q428
   have p429 : 0 ≤ (x5_1 : Int) := od_
   have q429 : x5_1 < (l0.length : Int) := od_
   obtain ⟨ad429, e429, hx429_0⟩ := Kd.at_int HR0.out x5_1 p429 q429
   obtain rfl : ad427 = ad429 := (by injection e429)
   replace p429 := eq_true p429
   replace q429 := eq_true q429
   have p430 : 0 ≤ (x5_1 : Int) := od_
   have q430 : x5_1 < (l1.length : Int) := od_
   obtain ⟨ad430, e430, hx430_0⟩ := Kd.at_int HR1.out x5_1 p430 q430
   obtain rfl : ad428 = ad430 := (by injection e430)
   replace p430 := eq_true p430
   replace q430 := eq_true q430
   go_wp2
   repeat (go_quiet (fail); try go_wp2)
   go_ret
   exact ⟨by first | rfl | (simp; done) | (simp [*]; done), by repeat (first | exact Drawn0.refl _ | apply Drawn0.step)⟩
def spec_l19Put.l0 : Nat → List (S26) → List Int → Int → Option (Int)
 | 0, _, _, _ => none
 | k + 1, x0, x5, x6 => if x6 < (x0.length : Int) then (if 0 ≤ x6 then ((spec_l4Gaps.f k ((rd_T26 x0 x6).f0)).bind fun t439 => ((spec_l19Before.f k t439 x5).bind fun t442 => (if t442 = true then (spec_l19Put.l0 k x0 x5 (wrap64 (x6 + 1))) else (if x6 ≤ (x0.length : Int) then (if (([] : List (S26))).length + (x0.drop (x6 : Int).toNat).length < 5864062014805 then (some x6) else (none)) else (none))))) else (none)) else (if 0 ≤ x6 then (if x6 ≤ (x0.length : Int) then (if (([] : List (S26))).length + (x0.drop (x6 : Int).toNat).length < 5864062014805 then (some x6) else (none)) else (none)) else (none))
def spec_l19Put.f (k : Nat) (l0 : List (S26)) (l1_0 : List Int) : Option (Int) := (spec_l4Gaps.f k l1_0).bind fun t435 => (spec_l19Put.l0 k l0 t435 0)
theorem f_none_ {α : Type} (d : Kd α) (W : World) (ok : Nat → Prop) (A : Option Addr) : Kd.F d W ok A ([] : List α).length [] := fun _ _ => ⟨rfl, Nat.zero_le _, fun h => absurd h (Nat.lt_irrefl _)⟩
theorem put_ne_ {W : World} {g : Nat} {u v : Value} (h : v.ownBlock = u.ownBlock ∨ ∃ b, v.ownBlock = some b ∧ W.heap.size ≤ b) (hu : some g ≠ u.ownBlock) (hg : g < W.heap.size) : some g ≠ v.ownBlock := by
 rcases h with h | ⟨b, hb, hle⟩
 · rw [h]; exact hu
 · rw [hb]; intro e; injection e with e; omega
theorem put_end_ {w W7 w40 w41 w42 : World} {u v41 v42 : Value} (h1 : Below w.heap.size w W7) (h2 : Below W7.heap.size W7 w40) (h3 : w40.grownBy w41 u.ownBlock) (h4 : v41.ownBlock = u.ownBlock ∨ ∃ b, v41.ownBlock = some b ∧ w40.heap.size ≤ b) (h5 : w41.grownBy w42 v41.ownBlock) (h6 : v42.ownBlock = v41.ownBlock ∨ ∃ b, v42.ownBlock = some b ∧ w41.heap.size ≤ b) : w.grownBy w42 u.ownBlock ∧ (v42.ownBlock = u.ownBlock ∨ ∃ b, v42.ownBlock = some b ∧ w.heap.size ≤ b) := by
 have s1 := h1.size
 have s2 := h2.size
 have s3 := h3.size
 have s4 := h5.size
 refine ⟨⟨h5.os.trans (h3.os.trans (h2.os.trans h1.os)), h5.tape.trans (h3.tape.trans (h2.tape.trans h1.tape)), h5.output.trans (h3.output.trans (h2.output.trans h1.output)), by omega, fun k hk hne => ?_⟩, ?_⟩
 · have n41 : some k ≠ v41.ownBlock := put_ne_ h4 hne (by omega)
   exact (h5.block k (by omega) n41).trans ((h3.block k (by omega) hne).trans ((h2.block k (by omega)).trans (h1.block k hk)))
 · rcases h6 with h6 | ⟨b, hb, hle⟩
   · rcases h4 with h4 | ⟨b, hb, hle⟩
     · exact .inl (h6.trans h4)
     · exact .inr ⟨b, h6.trans hb, by omega⟩
   · exact .inr ⟨b, hb, by omega⟩
theorem spec_l19Put.calls (k : Nat) (base : Nat) (P0_ : Nat → Prop) (u : Value) (l0 : List (S26)) (A1_0 : Option Addr) (c1_0 : Nat) (l1_0 t_ : List Int) (r : Int) (wb w : World) (hBb : Below base wb w) (hbase : base ≤ w.heap.size) (hfresh : ∀ k, w.heap.size ≤ k → P0_ k) (hN : Kd.N k26 26 w base P0_ u l0) (hr1_0 : Kd.C (Kd.int .i64) w A1_0 l1_0.length l1_0) (hc1_0 : l1_0.length ≤ c1_0) (hlen : l0.length < 5864062014805) (hcp : spec_l3Copy.f l1_0 = some t_) (h : spec_l19Put.f k l0 l1_0 = some r) (hr_ : r = (l0.length : Int)) :
 Calls Try.prog 43 #[u, .agg #[.slice A1_0 l1_0.length c1_0]] w fun e w' => ∃ v1 : Value, e = .returned v1 ∧ Kd.N k26 26 w' base P0_ v1 (l0 ++ [(⟨t_⟩ : S26)]) ∧ Below base wb w' ∧ w.grownBy w' u.ownBlock ∧ (v1.ownBlock = u.ownBlock ∨ ∃ b, v1.ownBlock = some b ∧ w.heap.size ≤ b) := by
 obtain ⟨A0, c0, eu_⟩ := Kd.N_slice hN
 subst eu_
 have hs0 : Kd.V k26 26 w w.heap.size (fun k_ => P0_ k_) (.slice A0 l0.length c0) l0 := Kd.V_mk (Kd.N_reads' hN).2.1 (Kd.N_F hN)
 have HN_ := Aside0.mk hN
 have HF_ := Aside0.mk hfresh
 have HBb_ := Aside0.mk hBb
 have HBs_ := Aside0.mk hbase
 have HL_ := Aside0.mk hlen
 have HCP_ := Aside0.mk hcp
 have HR_ := Aside0.mk hr_
 clear hN hfresh hBb hbase hlen hcp hr_
 have hu26 := Try.underlying26
 have HO0 := Aside0.mk (show Kd.V k26 26 w w.heap.size (fun k_ => (P0_ k_ ∨ w.heap.size ≤ k_)) (.slice A0 l0.length c0) l0 from Kd.V_mono hs0 (fun k_ hk => .inl hk))
 have HR1_0 := Aside0.mk hr1_0
 have HC1_0 := Aside0.mk hc1_0
 clear hr1_0 hc1_0
 have HB := Aside0.mk (Below.refl w.heap.size w)
 have H := h
 clear h
 unfold spec_l19Put.f at H
 obtain ⟨t435, A3, H⟩ := ob_ H
 have H' := Aside0.mk H
 clear H
 go_enter Try.func43, Try.ntmps43
 go_wp2_with (first | ((with_reducible refine gate_dst (N := 3) rfl ?_); refine bx_ 3 #[.slice A1_0 l1_0.length c1_0] 26 ?_; intro gb434 hg w4 hbox hb; replace HO0 := Aside0.mk (Kd.V_below (Kd.V_elderB (by (with_reducible repeat (first | apply Kd.V_alloc | apply Kd.V_drewN | apply Kd.V_drew)); exact HO0.out) gb434 (Nat.le_of_eq hg.symm)) hb); have BK434 := Aside0.mk (hbox); have GW434 := gw_ hg HB; have GE434 := gw_ hg HB; replace HB := bo_ HB hb; clear hb hbox hg; have hcz5_0 := cz_ BK434; have hfz5_0 := blk_frozen BK434.out 0) | ((with_reducible refine gate_callee (f := 54) rfl ?_); refine gL_ (some 9) Try.func54 #[.agg #[.slice A1_0 l1_0.length c1_0]] ?_; (with_reducible refine (spec_l4Gaps.calls k _ _ l1_0 t435 _ ?side1 ?side2 A3.out).mono ?_); (case side1 => exact ch_ HR1_0 HB); (case side2 => exact HC1_0.out); rintro e w6 ⟨v436, rfl, ho0, hb⟩; refine ⟨_, rfl, ?_⟩; replace HO0 := Aside0.mk (Kd.V_elder' (by (with_reducible repeat (first | apply Kd.V_alloc | apply Kd.V_drewN | apply Kd.V_drew)); exact HO0.out) (Kd.R_base ho0) hb); have HO437 := Aside0.mk (Kd.R_lower (Kd.R_newM (M := fun k_ => (w.heap.size ≤ k_)) ho0 (below_size (bq_ HB)) (fun k_ h_ => h_)) (below_size (bq_ HB))); replace BK434 := bk_ BK434 hb; replace HB := bp_ HB hb; (try clear hb); (try clear ho0)))
 go_loopg [6] k (fun kq v6 w' => ∃ (x6_1 : Int), v6 = .int .i64 x6_1 ∧ Aside0 (spec_l19Put.l0 kq l0 t435 x6_1 = some r) ∧ Aside0 (kq ≤ k) ∧ Aside0 (Kd.V k26 26 w' w.heap.size (fun k_ => (P0_ k_ ∨ w.heap.size ≤ k_) ∧ some k_ ≠ (v436 : Value).ownBlock ∧ k_ ≠ gb434) (.slice A0 l0.length c0) l0) ∧ Aside0 (Kd.R (Kd.int .i64) 3 w' w.heap.size (fun k_ => (w.heap.size ≤ k_)) v436 t435) ∧ Aside0 (w'.heap[gb434]? = some (.cells #[(.slice A1_0 l1_0.length c1_0)] 26 (0, 0))) ∧ Aside0 (Below w.heap.size w w'))
 case atStart => exact ⟨(0), rs_, H', ⟨Nat.le_refl _⟩, ⟨by (with_reducible repeat (first | apply Kd.V_alloc | apply Kd.V_drewN | apply Kd.V_drew)); exact Kd.V_mono HO0.out (fun _ hk => ⟨hk.1.1, ⟨hk.2, hk.1.2⟩⟩)⟩, ⟨by (with_reducible repeat (first | apply Kd.R_alloc | apply Kd.R_drewN | apply Kd.R_drew)); exact Kd.R_mono HO437.out (fun _ hk => hk.1)⟩, ⟨be_ BK434.out⟩, ⟨bq_ HB⟩⟩
 case round =>
  clear H'
  try clear hcz5_0
  try clear hfz5_0
  obtain ⟨x6_1, rfl, HA, HK1, HO_0, HO_5, BK434, HB⟩ := hrel
  cases gk with
  | zero => exact absurd HA.out (by simp [spec_l19Put.l0])
  | succ k1 =>
   have H := HA.out
   clear HA
   simp only [spec_l19Put.l0] at H
   by_cases c7 : x6_1 < (l0.length : Int)
   · rw [if_pos c7] at H
     have c7b0 : decide (x6_1 < (l0.length : Int)) = true := decide_eq_true c7
     clear c7
     obtain ⟨c8b0, H⟩ := ipd_ H
     obtain ⟨t439, A9, H⟩ := ob_ H
     obtain ⟨t442, A10, H⟩ := ob_ H
     by_cases c11 : t442 = true
     rotate_left
     · exfalso
       rw [if_neg c11] at H
       have c7c : x6_1 < (l0.length : Int) := of_decide_eq_true c7b0
       have hr2 := HR_.out
       repeat' split at H
       all_goals first | (injection H with H; omega) | cases H
     subst c11
     rw [if_pos rfl] at H
     have H' := Aside0.mk H
     clear H
     have p438 : 0 ≤ (x6_1 : Int) := od_
     have q438 : x6_1 < (l0.length : Int) := od_
     obtain ⟨ad438, A438_0, c438_0, e438, hx438_0, hl438_0, hi438_0⟩ := at_T26 (Kd.V_reads' HO_0.out).2.2 x6_1 p438 q438
     cases e438
     obtain ⟨ce438, hce438, hMe438, hcc438⟩ := Kd.V_get HO_0.out z26 x6_1 p438 (by first | exact q438 | exact od_ | (have e_ := (Kd.V_reads' HO_0.out).1; omega))
     obtain ⟨ua438_0, uc438_0, rfl, ul438_0, ge438_0⟩ := k26_openF hMe438
     have hv438_0 := hcc438 0 _ rfl
     rw [Nat.add_zero, show (k26).sz = 1 from rfl, Nat.mul_one] at hv438_0
     replace hv438_0 := Option.some.inj (hv438_0.symm.trans hx438_0)
     injection hv438_0 with hva_ hvn_ hvc_
     rw [hva_] at ge438_0
     rw [hvc_] at ul438_0
     have HL438_0 := Aside0.mk (show Kd.V (Kd.int .i64) 3 _ w.heap.size _ _ ((rd_T26 l0 x6_1).f0) from Kd.V_mk ul438_0 ge438_0)
     clear hva_ hvn_ hvc_ ge438_0 ul438_0
     clear hcc438 hce438
     have HR438_0 := Aside0.mk hi438_0
     have HC438_0 := Aside0.mk hl438_0
     clear hi438_0 hl438_0
     replace p438 := eq_true p438
     replace q438 := eq_true q438
     go_wp2_with (first | (go_at_call 54; (with_reducible refine (spec_l4Gaps.calls k1 _ _ ((rd_T26 l0 x6_1).f0) t439 _ ?side1 ?side2 A9.out).mono ?_); (case side1 => repeat (first | exact (by repeat (first | (with_reducible exact HR438_0.out) | (with_reducible refine Kd.C_alloc ?_ _) | (with_reducible refine Kd.C_drewN ?_ _) | (with_reducible refine Kd.C_drew ?_) | exact HR438_0.out)) | (with_reducible refine Kd.C_alloc ?_ _) | (with_reducible refine Kd.C_drewN ?_ _) | (with_reducible refine Kd.C_drew ?_))); (case side2 => exact HC438_0.out); rintro e w12 ⟨v440, rfl, ho0, hb⟩; replace HO_0 := Aside0.mk (Kd.V_elder' (by (with_reducible repeat (first | apply Kd.V_alloc | apply Kd.V_drewN | apply Kd.V_drew)); exact HO_0.out) (Kd.R_base ho0) hb); replace HL438_0 := Aside0.mk (Kd.V_elder' (by (with_reducible repeat (first | apply Kd.V_alloc | apply Kd.V_drewN | apply Kd.V_drew)); exact HL438_0.out) (Kd.R_base ho0) hb); have HO441 := Aside0.mk (Kd.R_lower (Kd.R_new' (Kd.R_newM (M := fun k_ => (w.heap.size ≤ k_)) ho0 (below_size (bq_ HB)) (fun k_ h_ => h_)) (Kd.R_lt (re_ HO_5.out))) (below_size (bq_ HB))); replace HO_5 := Aside0.mk (Kd.R_elder' (re_ HO_5.out) (Kd.R_base ho0) hb); replace BK434 := bk_ BK434 hb; replace HR438_0 := Aside0.mk (Kd.C_below (by repeat (first | (with_reducible exact HR438_0.out) | (with_reducible refine Kd.C_alloc ?_ _) | (with_reducible refine Kd.C_drewN ?_ _) | (with_reducible refine Kd.C_drew ?_) | exact HR438_0.out)) hb); replace HB := bp_ HB hb; (try clear hb); (try clear ho0); obtain ⟨Ao13, co13, eo13⟩ := Kd.R_slice HO441.out; subst eo13; obtain ⟨Ao14, co14, eo14⟩ := Kd.R_slice HO_5.out; subst eo14) | (go_at_call 73; (with_reducible refine (spec_l19Before.calls k1 _ _ t439 _ _ t435 true _ ?side1 ?side2 ?side3 ?side4 A10.out).mono ?_); (case side1 => exact ce_ ((Kd.R_reads' HO441.out).2.2)); (case side2 => exact (Kd.R_reads' HO441.out).2.1); (case side3 => exact ce_ ((Kd.R_reads' HO_5.out).2.2)); (case side4 => exact (Kd.R_reads' HO_5.out).2.1); rintro e w' ⟨rfl, ⟨nd, rfl⟩⟩))
     go_roundg k1
     case measure => have := HK1.out; omega
     case rel => exact ⟨(wrap64 (x6_1 + 1)), rs_, H', ⟨by have := HK1.out; omega⟩, ⟨by (with_reducible repeat (first | apply Kd.V_alloc | apply Kd.V_drewN | apply Kd.V_drew)); exact Kd.V_mono HO_0.out (fun _ hk => ⟨hk.1.1, ⟨hk.1.2.1, hk.1.2.2⟩⟩)⟩, ⟨by (with_reducible repeat (first | apply Kd.R_alloc | apply Kd.R_drewN | apply Kd.R_drew)); exact Kd.R_mono HO_5.out (fun _ hk => hk.1)⟩, ⟨be_ BK434.out⟩, ⟨bq_ HB⟩⟩
   rw [if_neg c7] at H
   have c7b0 : decide (x6_1 < (l0.length : Int)) = false := decide_eq_false c7
   clear c7
   obtain ⟨y454, hy454⟩ : ∃ y_ : List (S26), y_ = (([] : List (S26))) := ⟨_, rfl⟩
   replace H : (if 0 ≤ x6_1 then (if x6_1 ≤ (l0.length : Int) then (if y454.length + (l0.drop (x6_1 : Int).toNat).length < 5864062014805 then (some x6_1) else (none)) else (none)) else (none)) = some r := by subst hy454; exact H
   have Ny454 := Aside0.mk hy454
   clear hy454
   obtain ⟨c25, H⟩ := ip_ H
   have c25b0 := eq_true c25
   have c25b1 : decide (0 ≤ x6_1) = true := decide_eq_true c25
   clear c25
   obtain ⟨c26, H⟩ := ip_ H
   have c26b0 := eq_true c26
   have c26b1 : decide (x6_1 ≤ (l0.length : Int)) = true := decide_eq_true c26
   clear c26
   obtain ⟨y457, hy457⟩ : ∃ y_ : List (S26), y_ = (l0.drop (x6_1 : Int).toNat) := ⟨_, rfl⟩
   replace H : (if y454.length + y457.length < 5864062014805 then (some x6_1) else (none)) = some r := by subst hy457; exact H
   have Ny457 := Aside0.mk hy457
   clear hy457
   obtain ⟨c27, H⟩ := ip_ H
   have LMc27 := Aside0.mk c27
   clear c27
   obtain ⟨y462, hy462⟩ : ∃ y_ : List (S26), y_ = (y454 ++ y457) := ⟨_, rfl⟩
   replace H : (some x6_1) = some r := by subst hy462; exact H
   have Ny462 := Aside0.mk hy462
   clear hy462
   obtain rfl := Option.some.inj H
   go_wp2
   go_quiet (fail)
   go_wp2_with (first | ((with_reducible refine gate_dst (N := 38) rfl ?_); refine Kd.N_lit k26 _ 26 ?hg (N' := 38) ?hd (xs := ([] : List (S26))) (inner := []) (ok := (fun k_ => (P0_ k_ ∨ w.heap.size ≤ k_) ∧ some k_ ≠ (v436 : Value).ownBlock ∧ k_ ≠ gb434)) (okp := (fun k_ => (P0_ k_ ∨ w.heap.size ≤ k_) ∧ some k_ ≠ (v436 : Value).ownBlock ∧ k_ ≠ gb434)) ?hr ?hp (fun _ hk => hk) ((show ∀ k_, wr.heap.size ≤ k_ → (fun k_ => (P0_ k_ ∨ w.heap.size ≤ k_) ∧ some k_ ≠ (v436 : Value).ownBlock ∧ k_ ≠ gb434) k_ from fun k_ hk => ⟨(.inr (Nat.le_trans (below_size (bq_ HB)) hk)), Kd.fresh' (Kd.R_lt (re_ HO_5.out)) k_ hk, Kd.freshB (g := gb434) (o := .cells #[.slice A1_0 l1_0.length c1_0] 26 (0, 0)) (be_ BK434.out) k_ hk⟩) _ (Nat.le_refl _)) (Below.refl _ _) (Nat.le_refl _) (by simp) ?_; (case hd => rfl); (case hg => rfl); (case hr => first | (go_simp; done) | (go_simp; rfl)); (case hp => exact (Reps.none _ _)); intro v455 w28 ho29 hb hg_ hnew_; clear hg_ hnew_; (first | rw [← Ny454.out] at ho29 | (simp only [Int.reduceToNat] at ho29; rw [← Ny454.out] at ho29)); replace HO_0 := Aside0.mk (Kd.V_elder' (by (with_reducible repeat (first | apply Kd.V_alloc | apply Kd.V_drewN | apply Kd.V_drew)); exact HO_0.out) (Kd.N_base ho29) hb); replace HO_5 := Aside0.mk (Kd.R_below (re_ HO_5.out) hb); have HO456 := Aside0.mk (Kd.N_lower ho29 (below_size (bq_ HB))); replace BK434 := bk_ BK434 hb; replace HB := bp_ HB hb; clear hb ho29; have q30 : (x6_1 : Int) ≤ ((l0.length : Int) : Int) := od_; obtain ⟨i030, hi030, _, hsz30, _⟩ := info_parts info26; have hroom30 : l0.length ≤ c0 := (Kd.V_reads' HO_0.out).2.1; have hC30 : Kd.F k26 _ _ A0 l0.length l0 := (Kd.V_at (base := w.heap.size) HO_0.out).2.2; have q030 : (0 : Int) ≤ (x6_1 : Int) := od_; have hcut30 := cut_from (P := Try.prog) 29 26 .i64 Try.underlying29 hi030 1 hsz30 A0 l0.length c0 x6_1 q030 q30; have hr30 := Kd.F_cut (m := (x6_1 : Int).toNat) (c := c0) hC30 (by omega) hroom30; obtain ⟨A30, hA30⟩ : ∃ A1, A1 = (if c0 = (x6_1 : Int).toNat then A0 else (A0 : Option Addr).map (·.add ((x6_1 : Int).toNat * 1))) := ⟨_, rfl⟩; obtain ⟨c30, hc30⟩ : ∃ c1, c1 = c0 - (x6_1 : Int).toNat := ⟨_, rfl⟩; have hy30 : y457.length = l0.length - (x6_1 : Int).toNat := (by rw [Ny457.out, List.length_drop] <;> omega); rw [show (l0).drop (x6_1 : Int).toNat = y457 from Ny457.out.symm] at hr30; replace hr30 : Kd.F k26 _ _ A30 y457.length y457 := (by rw [hA30]; exact hr30); rw [← hy30, ← hA30, ← hc30] at hcut30; have HO461 := Aside0.mk (show Kd.V k26 26 _ w.heap.size _ (.slice A30 y457.length c30) y457 from Kd.V_mk (by rw [hy30, hc30]; exact Nat.sub_le_sub_right hroom30 _) hr30); have HC461 := Aside0.mk (show y457.length ≤ c30 from by rw [hy30, hc30]; exact Nat.sub_le_sub_right hroom30 _); clear hr30 hC30 hroom30 hi030 hsz30 hc30; have KY30 := Aside0.mk hy30; have KA30 := Aside0.mk hA30; clear hy30 hA30; replace q30 := eq_true q30) | ((with_reducible refine gate_builtin (b := .append) (xs := #[.tmp 38, .tmp 41]) rfl ?_); at_builtin; refine Kd.N_append_rows k26 (w0 := w) w.heap.size rfl (.tmp 38) (.tmp 41) 29 26 (.agg #[(.slice none 0 0)]) 24 rfl Try.underlying29 info26 rfl (by decide) (by omega) v455 y454 y457 _ _ _ (fun k_ => (P0_ k_ ∨ w.heap.size ≤ k_) ∧ some k_ ≠ (v436 : Value).ownBlock ∧ k_ ≠ gb434) (fun k_ => ((fun k_ => (P0_ k_ ∨ w.heap.size ≤ k_) ∧ some k_ ≠ (v436 : Value).ownBlock ∧ k_ ≠ gb434)) k_ ∧ some k_ ≠ (v455 : Value).ownBlock) rfl rfl ?aO ?aR (fun _ hk => hk) ?aF ?aB ?aS ?aL ?_; (case aR => exact (by skip; exact Kd.V_F (Kd.V_mono (ok' := (fun k_ => ((fun k_ => (P0_ k_ ∨ w.heap.size ≤ k_) ∧ some k_ ≠ (v436 : Value).ownBlock ∧ k_ ≠ gb434)) k_ ∧ some k_ ≠ (v455 : Value).ownBlock)) (HO461.out) (fun k_ hk => ⟨⟨hk.1.1, ⟨hk.1.2.1, hk.1.2.2⟩⟩, hk.2⟩)))); (case aB => exact (bq_ HB)); (case aF => exact (fun k_ hk => ⟨(.inr (Nat.le_trans (below_size (bq_ HB)) hk)), Kd.fresh' (Kd.R_lt (re_ HO_5.out)) k_ hk, Kd.freshB (g := gb434) (o := .cells #[.slice A1_0 l1_0.length c1_0] 26 (0, 0)) (be_ BK434.out) k_ hk⟩)); (case aO => exact (by (with_reducible repeat (first | apply Kd.N_alloc | apply Kd.N_drewN | apply Kd.N_drew)); exact HO456.out)); (case aS => exact (below_size (bq_ HB))); (case aL => have := LMc27.out; omega); intro v463 w31 ho hb hg hat; rw [← Ny462.out] at ho; replace HO_0 := Aside0.mk (Kd.V_afterv (ok := (fun k_ => (P0_ k_ ∨ w.heap.size ≤ k_) ∧ some k_ ≠ (v436 : Value).ownBlock ∧ k_ ≠ gb434)) (by (with_reducible repeat (first | apply Kd.V_alloc | apply Kd.V_drewN | apply Kd.V_drew)); exact HO_0.out) hg hat); replace HO_5 := Aside0.mk (Kd.R_over' (re_ HO_5.out) (Kd.N_typed (by (with_reducible repeat (first | apply Kd.N_alloc | apply Kd.N_drewN | apply Kd.N_drew)); exact HO456.out)) (by decide) hg); replace BK434 := Aside0.mk (blk_grown (be_ BK434.out) hg (Kd.N_away HO456.out (fun _ hk => hk.2.2))); replace HO461 := Aside0.mk (Kd.V_afterv (ok := (fun k_ => (P0_ k_ ∨ w.heap.size ≤ k_) ∧ some k_ ≠ (v436 : Value).ownBlock ∧ k_ ≠ gb434)) (by (with_reducible repeat (first | apply Kd.V_alloc | apply Kd.V_drewN | apply Kd.V_drew)); exact HO461.out) hg hat); replace HB := Aside0.mk (hb); have HO464 := Aside0.mk (ho); clear HO456; clear ho hb hg hat))
   have HON_ := Aside0.mk (Kd.N_below HN_.out HB.out)
   have HBw_ := Aside0.mk ((HBb_.out.trans (HB.out.mono HBs_.out)).drew)
   have HBx_ := Aside0.mk (Nat.le_trans HBs_.out (below_size HB.out))
   have HFx_ := Aside0.mk (show ∀ k, w31.heap.size ≤ k → P0_ k from fun k hk => HF_.out k (Nat.le_trans (below_size HB.out) hk))
   have HU_ := Aside0.mk (show ∀ k, w.heap.size ≤ k → some k ≠ (Value.slice A0 l0.length c0).ownBlock from fun k hk e => absurd (Kd.N_lt HN_.out k e.symm) (Nat.not_lt.2 hk))
   have y0_ : y462 = [] := by
    rw [Ny462.out, Ny457.out, Ny454.out, HR_.out]
    simp
   obtain ⟨A7_, c7_, e7_⟩ := Kd.N_slice HO464.out
   subst e7_
   have hcut8_ : ∀ W : World, (Instr.slice 29 (.slice A0 l0.length c0) none (some (.int .i64 x6_1)) none).run Try.prog W = .ok (.slice A0 l0.length c0) W := by
    have hx6 := HR_.out
    obtain ⟨i8_, hi8_, _, _, _⟩ := info_parts info26
    have h := cut_to (P := Try.prog) 29 26 .i64 Try.underlying29 hi8_ A0 l0.length c0 x6_1 (by omega) (by omega) (Kd.N_reads' HON_.out).2.1
    rwa [show x6_1.toNat = l0.length from by omega] at h
   have hcz8_ := cz_ BK434
   have HRc_ := Aside0.mk (Kd.C_below HR1_0.out HB.out)
   have HY_ := Aside0.mk y0_
   have HE_ := Aside0.mk (HB.out.drew)
   clear y0_
   go_region_held3 (fun w' => w'.cell? ⟨gb434, 0, none⟩ = some (.slice A1_0 l1_0.length c1_0)) (first | go_keep | exact hcz8_ | exact (blk_cell HK42_.out 0).trans rfl | exact (blk_cell HK41_.out 0).trans rfl | exact (blk_cell (blk_alloc HK40_.out _) 0).trans rfl | exact (blk_cell HK40_.out 0).trans rfl) (first | (go_at_call 26; refine (spec_l3Copy.calls _ _ l1_0 t_ _ (by exact ce_ (HRc_.out)) HC1_0.out HCP_.out).mono ?_; rintro e w40 ⟨v40, rfl, ho40, hb40⟩; have HK40_ := Aside0.mk (blk_below (be_ BK434.out) hb40); have HO40_ := Aside0.mk ho40; have HB40_ := Aside0.mk hb40; have HN40_ := Aside0.mk (Kd.N_below (by (with_reducible repeat (first | apply Kd.N_alloc | apply Kd.N_drewN | apply Kd.N_drew)); exact HON_.out) hb40); have HW40_ := Aside0.mk (HBw_.out.trans (hb40.mono HBx_.out)); clear hb40 ho40; obtain ⟨A40_, c40_, e40_⟩ := Kd.R_slice HO40_.out; subst e40_) | (refine Kd.N_append_step k26 (w0 := wb) base (by rfl) (.tmp 45) (.tmp 48) 29 26 (.agg #[(.slice none 0 0)]) 24 rfl Try.underlying29 info26 rfl (by decide) (by omega) (.slice A0 l0.length c0) l0 (⟨t_⟩ : S26) [.slice A40_ t_.length c40_] P0_ (fun k_ => P0_ k_ ∧ some k_ ≠ (Value.slice A0 l0.length c0).ownBlock) rfl rfl (k26_mkF _ _ (⟨t_⟩ : S26) (Kd.R_reads' HO40_.out).2.1 (Kd.R_F (Kd.R_mono (ok' := (fun k_ => P0_ k_ ∧ some k_ ≠ (Value.slice A0 l0.length c0).ownBlock)) (Kd.R_bound HO40_.out) (fun k_ hk => ⟨HFx_.out k_ hk.2.1, HU_.out k_ (Nat.le_trans (below_size HE_.out) hk.2.1)⟩)))) (fun _ hk => hk) (fun k_ hk => HFx_.out k_ (Nat.le_trans HB40_.out.size hk)) HN40_.out HW40_.out (Nat.le_trans HBx_.out HB40_.out.size) (by have := HL_.out; omega) ?_; intro v41 w41 ho41 hb41 hg41 hat41; have HO41_ := Aside0.mk ho41; have HB41_ := Aside0.mk hb41; have HG41_ := Aside0.mk hg41; have HA41_ := Aside0.mk hat41; have HK41_ := Aside0.mk (blk_grown HK40_.out hg41 (HU_.out _ GE434.out)); clear ho41 hb41 hg41 hat41) | (refine Kd.N_append_rows_step k26 (w0 := wb) base (by rfl) (.tmp 49) (.tmp 50) 29 26 (.agg #[(.slice none 0 0)]) 24 rfl Try.underlying29 info26 rfl (by decide) (by omega) v41 (l0 ++ [(⟨t_⟩ : S26)]) y462 _ _ _ P0_ (fun _ => False) rfl rfl HO41_.out (by rw [HY_.out]; exact f_none_ _ _ _ _) (fun _ h => h.elim) (fun k_ hk => HFx_.out k_ (Nat.le_trans (Nat.le_trans HB40_.out.size HG41_.out.size) hk)) HB41_.out (Nat.le_trans HBx_.out (Nat.le_trans HB40_.out.size HG41_.out.size)) (by rw [HY_.out, List.length_append, List.length_singleton, List.length_nil]; have := HL_.out; omega) ?_; intro v42 w42 ho42 hb42 hg42 hat42; have HO42_ := Aside0.mk ho42; have HB42_ := Aside0.mk hb42; have HG42_ := Aside0.mk hg42; have HA42_ := Aside0.mk hat42; have HK42_ := Aside0.mk (blk_grown HK41_.out hg42 (put_ne_ HA41_.out (HU_.out _ GE434.out) (blk_lt HK40_.out))); clear ho42 hb42 hg42 hat42))
   try go_wp2
   go_ret
   have hend := put_end_ HE_.out HB40_.out HG41_.out HA41_.out HG42_.out HA42_.out
   have hO := HO42_.out
   rw [HY_.out, List.append_nil] at hO
   exact ⟨_, rf_, hO, HB42_.out, hend⟩
mutual
def spec_AllOfGenus.l0 : Nat → Int → List (S26) → Int → Option ((List (S26)))
 | 0, _, _, _ => none
 | k + 1, x0, x5, x6 => if x6 < x0 then (spec_AllOfGenus.l1 k x0 x5 x6 (([] : List (S26))) 0) else (some x5)
def spec_AllOfGenus.l1 : Nat → Int → List (S26) → Int → List (S26) → Int → Option ((List (S26)))
 | 0, _, _, _, _, _ => none
 | k + 1, x0, x5, x6, x7, x8 => if x8 < (x5.length : Int) then (if 0 ≤ x8 then ((spec_ChildrenOf.f k ((rd_T26 x5 x8).f0)).bind fun bt484 => (spec_AllOfGenus.l2 k x0 x5 x6 x7 x8 bt484.1 0)) else (none)) else (spec_AllOfGenus.l0 k x0 x7 (wrap64 (x6 + 1)))
def spec_AllOfGenus.l2 : Nat → Int → List (S26) → Int → List (S26) → Int → List (S26) → Int → Option ((List (S26)))
 | 0, _, _, _, _, _, _, _ => none
 | k + 1, x0, x5, x6, x7, x8, x9, x11 => if x11 < (x9.length : Int) then (if 0 ≤ x11 then ((spec_l3Copy.f (rd_T26 x9 x11).f0).bind fun tc => ((spec_l19Put.f k x7 (rd_T26 x9 x11).f0).bind fun ta => (if ta = (x7.length : Int) then (if x7.length < 5864062014805 then (spec_AllOfGenus.l2 k x0 x5 x6 (x7 ++ [(⟨tc⟩ : S26)]) x8 x9 (wrap64 (x11 + 1))) else (none)) else (none)))) else (none)) else (spec_AllOfGenus.l1 k x0 x5 x6 x7 (wrap64 (x8 + 1)))
end
def spec_AllOfGenus.f (k : Nat) (a0 : Int) : Option ((List (S26))) := (spec_l1In.f a0 0 8).bind fun t465 => (if t465 = true then ((spec_FromGens.f k (([1] : List Int))).bind fun bt472 => (spec_AllOfGenus.l0 k a0 (([(⟨bt472.1⟩ : S26)] : List (S26))) 0)) else (some (([] : List (S26)))))
theorem spec_AllOfGenus.calls (k : Nat) (a0 : Int) (r : List (S26)) (w : World) (h : spec_AllOfGenus.f k a0 = some r) :
 Calls Try.prog 23 #[.int .i64 a0] w fun e w' => ∃ v0_ : Value, e = .returned (v0_) ∧ Kd.N k26 26 w' w.heap.size (fun k_ => (w.heap.size ≤ k_)) v0_ r ∧ Below w.heap.size w w' := by
 have hu26 := Try.underlying26
 have HB := Aside0.mk (Below.refl w.heap.size w)
 have H := h
 clear h
 unfold spec_AllOfGenus.f at H
 obtain ⟨t465, A2, H⟩ := ob_ H
 by_cases c3 : t465 = true
 rotate_left
 · replace c3 := Bool.eq_false_iff.mpr c3
   subst c3
   rw [if_neg (show ¬ (false = true) by decide)] at H
   obtain ⟨y466, hy466⟩ : ∃ y_ : List (S26), y_ = (([] : List (S26))) := ⟨_, rfl⟩
   replace H : (some y466) = some r := by subst hy466; exact H
   have Ny466 := Aside0.mk hy466
   clear hy466
   obtain rfl := Option.some.inj H
   go_enter Try.func23, Try.ntmps23
   go_wp2_with (first | ((with_reducible refine gate_callee (f := 39) rfl ?_); refine gL_ (some 13) Try.func39 #[.int .i64 a0, .int .i64 0, .int .i64 8] ?_; (with_reducible refine (spec_l1In.calls a0 0 8 false _ A2.out).mono ?_); rintro e w' ⟨rfl, ⟨nd, rfl⟩⟩; refine ⟨_, rfl, ?_⟩) | ((with_reducible refine gate_dst (N := 15) rfl ?_); refine Kd.N_lit k26 _ 26 ?hg (N' := 15) ?hd (xs := ([] : List (S26))) (inner := []) (ok := (fun k_ => (w.heap.size ≤ k_))) (okp := (fun k_ => (w.heap.size ≤ k_))) ?hr ?hp (fun _ hk => hk) ((show ∀ k_, w.heap.size ≤ k_ → (fun k_ => (w.heap.size ≤ k_)) k_ from fun k_ hk => (Nat.le_trans (below_size (bl_ HB.out)) hk)) _ (Nat.le_refl _)) (Below.refl _ _) (Nat.le_refl _) (by simp) ?_; (case hd => rfl); (case hg => rfl); (case hr => first | (go_simp; done) | (go_simp; rfl)); (case hp => exact (Reps.none _ _)); intro v467 w29 ho30 hb hg_ hnew_; clear hg_ hnew_; (first | rw [← Ny466.out] at ho30 | (simp only [Int.reduceToNat] at ho30; rw [← Ny466.out] at ho30)); have HO468 := Aside0.mk (Kd.N_lower ho30 (below_size (bl_ HB.out))); replace HB := bo_ HB hb; clear hb ho30))
   go_ret
   exact ⟨_, rf_, by (with_reducible repeat (first | apply Kd.N_alloc | apply Kd.N_drewN | apply Kd.N_drew)); exact HO468.out, bl_ HB.out⟩
 subst c3
 rw [if_pos rfl] at H
 obtain ⟨y469, hy469⟩ : ∃ y_ : List Int, y_ = (([1] : List Int)) := ⟨_, rfl⟩
 replace H : ((spec_FromGens.f k y469).bind fun bt472 => (spec_AllOfGenus.l0 k a0 (([(⟨bt472.1⟩ : S26)] : List (S26))) 0)) = some r := by subst hy469; exact H
 have Ny469 := Aside0.mk hy469
 clear hy469
 obtain ⟨⟨t472, t475⟩, A4, H⟩ := ob_ H
 (try dsimp only at H)
 obtain ⟨y477, hy477⟩ : ∃ y_ : List (S26), y_ = (([(⟨t472⟩ : S26)] : List (S26))) := ⟨_, rfl⟩
 replace H : (spec_AllOfGenus.l0 k a0 y477 0) = some r := by subst hy477; exact H
 have Ny477 := Aside0.mk hy477
 clear hy477
 have H' := Aside0.mk H
 clear H
 go_enter Try.func23, Try.ntmps23
 go_wp2_with (first | ((with_reducible refine gate_callee (f := 39) rfl ?_); refine gL_ (some 13) Try.func39 #[.int .i64 a0, .int .i64 0, .int .i64 8] ?_; (with_reducible refine (spec_l1In.calls a0 0 8 true _ A2.out).mono ?_); rintro e w' ⟨rfl, ⟨nd, rfl⟩⟩; refine ⟨_, rfl, ?_⟩) | ((with_reducible refine gate_dst (N := 17) rfl ?_); refine Kd.R_lit (Kd.int .i64) _ 3 ?hg (N := 17) ?hd (xs := ([1] : List Int)) (inner := [.int .i64 1]) (ok := fun _ => True) (okp := fun _ => True) ?hr ?hp (fun _ hk => hk) trivial (Below.refl _ _) (Nat.le_refl _) (by simp) ?_; (case hd => rfl); (case hg => rfl); (case hr => first | (go_simp; done) | (go_simp; rfl)); (case hp => exact (Reps.one (show Kd.M (Kd.int .i64) _ _ _ 1 [.int .i64 1] from rfl) (Reps.none _ _))); intro v470 w5 ho6 hb hg_ hnew_; clear hg_ hnew_; (first | rw [← Ny469.out] at ho6 | (simp only [Int.reduceToNat] at ho6; rw [← Ny469.out] at ho6)); have HO471 := Aside0.mk (Kd.R_lower (Kd.R_newM (M := fun k_ => (w.heap.size ≤ k_)) ho6 (below_size (bl_ HB.out)) (fun k_ h_ => h_)) (below_size (bl_ HB.out))); replace HB := bo_ HB hb; clear hb ho6; obtain ⟨Ao7, co7, eo7⟩ := Kd.R_slice HO471.out; subst eo7) | ((with_reducible refine gate_callee (f := 41) rfl ?_); refine gL_ (some 18) Try.func41 #[.slice Ao7 y469.length co7] ?_; (with_reducible refine (spec_FromGens.calls k _ _ y469 t472 t475 _ ?side1 ?side2 A4.out).mono ?_); (case side1 => exact ce_ ((Kd.R_reads' HO471.out).2.2)); (case side2 => exact (Kd.R_reads' HO471.out).2.1); rintro e w8 ⟨v473, rfl, ho0, hb⟩; refine ⟨_, rfl, ?_⟩; have HO474 := Aside0.mk (Kd.R_lower (Kd.R_new' (Kd.R_newM (M := fun k_ => (w.heap.size ≤ k_)) ho0 (below_size (bl_ HB.out)) (fun k_ h_ => h_)) (Kd.R_lt (re_ HO471.out))) (below_size (bl_ HB.out))); replace HO471 := Aside0.mk (Kd.R_elder' (re_ HO471.out) (Kd.R_base ho0) hb); replace HB := bo_ HB hb; (try clear hb); (try clear ho0); obtain ⟨Ao9, co9, eo9⟩ := Kd.R_slice HO474.out; subst eo9) | ((with_reducible refine gate_dst (N := 3) rfl ?_); refine bx_ 3 #[.slice none 0 0] 26 ?_; intro gb476 hg w10 hbox hb; replace HO471 := Aside0.mk (Kd.R_below (re_ HO471.out) hb); replace HO474 := Aside0.mk (Kd.R_below (re_ HO474.out) hb); have BK476 := Aside0.mk (hbox); have GW476 := gw_ hg HB; have GE476 := gw_ hg HB; replace HB := bo_ HB hb; clear hb hbox hg; have hcz11_0 := cz_ BK476; have hfz11_0 := blk_frozen BK476.out 0) | (refine store_event (t := 26) (p := 3) (v := ?vo_) (w1 := (w10.setCell ⟨gb476, 0, none⟩ (.slice Ao9 t472.length co9))) ?hg ?ho ?hn ?hr ?_; (case ho => rfl); (case hg => rfl); (case hn => rfl); (case hr => first | (go_simp; done) | (go_simp; rfl)); intro ws_ hw_; have n0_ := Aside0.mk (show Kd.R (Kd.int .i64) 3 ws_ w.heap.size _ _ _ from by rw [hw_]; exact Kd.R_mono (Kd.R_far (p := ⟨gb476, 0, none⟩) (Kd.R_types HO471.out BK476.out (by decide)) (fun _ hk => hk.2) (.slice Ao9 t472.length co9)) (fun _ h_ => h_.1)); have n1_ := Aside0.mk (show Kd.R (Kd.int .i64) 3 ws_ w.heap.size _ _ _ from by rw [hw_]; exact Kd.R_mono (Kd.R_far (p := ⟨gb476, 0, none⟩) (Kd.R_types HO474.out BK476.out (by decide)) (fun _ hk => hk.2) (.slice Ao9 t472.length co9)) (fun _ h_ => h_.1)); have nb_ := Aside0.mk (show ws_.heap[gb476]? = some (.cells #[.slice Ao9 t472.length co9] 26 (0, 0)) from by rw [hw_]; exact blk_put BK476.out 0 (.slice Ao9 t472.length co9) rfl); have nB_ := Aside0.mk (show Below w.heap.size w ws_ from by rw [hw_]; exact below_set HB.out GE476.out); clear hw_ HB BK476 hcz11_0 hfz11_0 HO471 HO474; have HO471 := n0_; have HO474 := n1_; have BK476 := nb_; have HB := nB_; clear nb_ nB_ n0_ n1_; generalize ws_ = w10 at HO471 HO474 BK476 HB ⊢; have hcz11_0 := cz_ BK476; have hfz11_0 := blk_frozen BK476.out 0) | ((with_reducible refine gate_dst (N := 22) rfl ?_); refine Kd.N_lit k26 _ 26 ?hg (N' := 22) ?hd (xs := ([(⟨t472⟩ : S26)] : List (S26))) (inner := [.slice Ao9 t472.length co9]) (ok := (fun k_ => (w.heap.size ≤ k_) ∧ some k_ ≠ (.slice Ao7 y469.length co7 : Value).ownBlock ∧ k_ ≠ gb476)) (okp := (fun k_ => (w.heap.size ≤ k_) ∧ some k_ ≠ (.slice Ao7 y469.length co7 : Value).ownBlock ∧ k_ ≠ gb476)) ?hr ?hp (fun _ hk => hk) ((show ∀ k_, w10.heap.size ≤ k_ → (fun k_ => (w.heap.size ≤ k_) ∧ some k_ ≠ (.slice Ao7 y469.length co7 : Value).ownBlock ∧ k_ ≠ gb476) k_ from fun k_ hk => ⟨(Nat.le_trans (below_size (bq_ HB)) hk), Kd.fresh' (Kd.R_lt (re_ HO471.out)) k_ hk, Kd.freshB (g := gb476) (o := .cells #[.slice Ao9 t472.length co9] 26 (0, 0)) (be_ BK476.out) k_ hk⟩) _ (Nat.le_refl _)) (Below.refl _ _) (Nat.le_refl _) (by simp) ?_; (case hd => rfl); (case hg => rfl); (case hr => first | (go_simp; done) | (go_simp; rfl)); (case hp => exact (Reps.one (show Kd.FK k26 _ _ (⟨t472⟩ : S26) [.slice Ao9 t472.length co9] from (k26_mkF _ _ (⟨t472⟩ : S26) (Kd.R_reads' (Kd.R_mono (ok' := (fun k_ => (w.heap.size ≤ k_) ∧ some k_ ≠ (.slice Ao7 y469.length co7 : Value).ownBlock ∧ k_ ≠ gb476)) (Kd.R_types (HO474.out) BK476.out (by decide)) (fun k_ hk => ⟨hk.1.1.1, ⟨hk.1.2, hk.2⟩⟩))).2.1 (Kd.R_F (Kd.R_mono (ok' := (fun k_ => (w.heap.size ≤ k_) ∧ some k_ ≠ (.slice Ao7 y469.length co7 : Value).ownBlock ∧ k_ ≠ gb476)) (Kd.R_types (HO474.out) BK476.out (by decide)) (fun k_ hk => ⟨hk.1.1.1, ⟨hk.1.2, hk.2⟩⟩))))) (Reps.none _ _))); intro v478 w12 ho13 hb hg_ hnew_; clear hg_ hnew_; (first | rw [← Ny477.out] at ho13 | (simp only [Int.reduceToNat] at ho13; rw [← Ny477.out] at ho13)); have nr_ := Aside0.mk (Kd.R_below (re_ HO474.out) hb); have n0_ := Aside0.mk (Kd.R_below (re_ HO471.out) hb); have n1_ := Aside0.mk (Kd.N_lower ho13 (below_size (bq_ HB))); have n2_ := bk_ BK476 hb; have n3_ := bp_ HB hb; clear HO471; clear BK476; clear HB; clear HO474; have HO474 := nr_; clear nr_; have HO471 := n0_; have HO479 := n1_; have BK476 := n2_; have HB := n3_; clear n0_ n1_ n2_ n3_; clear hb ho13))
 go_loopg [5, 6] k (fun kq v5 v6 w' => ∃ (x5_1 : List (S26)) (x6_1 : Int), v6 = .int .i64 x6_1 ∧ Aside0 (spec_AllOfGenus.l0 kq a0 x5_1 x6_1 = some r) ∧ Aside0 (kq ≤ k) ∧ Aside0 (Kd.N k26 26 w' w.heap.size (fun k_ => (w.heap.size ≤ k_) ∧ k_ ≠ gb476) v5 x5_1) ∧ Aside0 (Kd.R (Kd.int .i64) 3 w' w.heap.size (fun k_ => (w.heap.size ≤ k_)) (.slice Ao9 t472.length co9) t472) ∧ Aside0 (w'.heap[gb476]? = some (.cells #[(.slice Ao9 t472.length co9)] 26 (0, 0))) ∧ Aside0 (Below w.heap.size w w'))
 case atStart => exact ⟨(y477), (0), rs_, H', ⟨Nat.le_refl _⟩, ⟨by (with_reducible repeat (first | apply Kd.N_alloc | apply Kd.N_drewN | apply Kd.N_drew)); exact Kd.N_mono HO479.out (fun _ hk => ⟨hk.1, hk.2.2⟩)⟩, ⟨by (with_reducible repeat (first | apply Kd.R_alloc | apply Kd.R_drewN | apply Kd.R_drew)); exact (Kd.R_mono (Kd.R_bound HO474.out) (fun _ hk => hk.2.1))⟩, ⟨be_ BK476.out⟩, ⟨bq_ HB⟩⟩
 case round =>
  clear H'
  try clear hcz11_0
  try clear hfz11_0
  obtain ⟨x5_1, x6_1, rfl, HA, HK1, HO_5, HO_477000, BK476, HB⟩ := hrel
  cases gk with
  | zero => exact absurd HA.out (by simp [spec_AllOfGenus.l0])
  | succ k1 =>
   have H := HA.out
   clear HA
   simp only [spec_AllOfGenus.l0] at H
   by_cases c14 : x6_1 < a0
   rotate_left
   · rw [if_neg c14] at H
     have c14b0 : decide (x6_1 < a0) = false := decide_eq_false c14
     clear c14
     obtain rfl := Option.some.inj H
     go_wp2
     go_ret
     exact ⟨_, rf_, by (with_reducible repeat (first | apply Kd.N_alloc | apply Kd.N_drewN | apply Kd.N_drew)); exact Kd.N_mono HO_5.out (fun _ hk => hk.1), bq_ HB⟩
   rw [if_pos c14] at H
   have c14b0 : decide (x6_1 < a0) = true := decide_eq_true c14
   clear c14
   obtain ⟨y480, hy480⟩ : ∃ y_ : List (S26), y_ = (([] : List (S26))) := ⟨_, rfl⟩
   replace H : (spec_AllOfGenus.l1 k1 a0 x5_1 x6_1 y480 0) = some r := by subst hy480; exact H
   have Ny480 := Aside0.mk hy480
   clear hy480
   have H' := Aside0.mk H
   clear H
   go_wp2_with (first | ((with_reducible refine gate_dst (N := 28) rfl ?_); refine Kd.N_lit k26 _ 26 ?hg (N' := 28) ?hd (xs := ([] : List (S26))) (inner := []) (ok := (fun k_ => (w.heap.size ≤ k_) ∧ some k_ ≠ (u5 : Value).ownBlock ∧ some k_ ≠ (.slice Ao9 t472.length co9 : Value).ownBlock ∧ k_ ≠ gb476)) (okp := (fun k_ => (w.heap.size ≤ k_) ∧ some k_ ≠ (u5 : Value).ownBlock ∧ some k_ ≠ (.slice Ao9 t472.length co9 : Value).ownBlock ∧ k_ ≠ gb476)) ?hr ?hp (fun _ hk => hk) ((show ∀ k_, wr.heap.size ≤ k_ → (fun k_ => (w.heap.size ≤ k_) ∧ some k_ ≠ (u5 : Value).ownBlock ∧ some k_ ≠ (.slice Ao9 t472.length co9 : Value).ownBlock ∧ k_ ≠ gb476) k_ from fun k_ hk => ⟨(Nat.le_trans (below_size (bq_ HB)) hk), Kd.fresh' (Kd.N_lt (by (with_reducible repeat (first | apply Kd.N_alloc | apply Kd.N_drewN | apply Kd.N_drew)); exact HO_5.out)) k_ hk, Kd.fresh' (Kd.R_lt (re_ HO_477000.out)) k_ hk, Kd.freshB (g := gb476) (o := .cells #[.slice Ao9 t472.length co9] 26 (0, 0)) (be_ BK476.out) k_ hk⟩) _ (Nat.le_refl _)) (Below.refl _ _) (Nat.le_refl _) (by simp) ?_; (case hd => rfl); (case hg => rfl); (case hr => first | (go_simp; done) | (go_simp; rfl)); (case hp => exact (Reps.none _ _)); intro v481 w15 ho16 hb hg_ hnew_; clear hg_ hnew_; (first | rw [← Ny480.out] at ho16 | (simp only [Int.reduceToNat] at ho16; rw [← Ny480.out] at ho16)); replace HO_5 := Aside0.mk (Kd.N_elder' (by (with_reducible repeat (first | apply Kd.N_alloc | apply Kd.N_drewN | apply Kd.N_drew)); exact HO_5.out) (Kd.N_base ho16) hb); replace HO_477000 := Aside0.mk (Kd.R_below (re_ HO_477000.out) hb); have HO482 := Aside0.mk (Kd.N_lower ho16 (below_size (bq_ HB))); replace BK476 := bk_ BK476 hb; replace HB := bp_ HB hb; clear hb ho16))
   go_loopg [7, 8] k1 (fun kq v7 v8 w' => ∃ (x7_2 : List (S26)) (x8_2 : Int), v8 = .int .i64 x8_2 ∧ Aside0 (spec_AllOfGenus.l1 kq a0 x5_1 x6_1 x7_2 x8_2 = some r) ∧ Aside0 (kq ≤ k1) ∧ Aside0 (Kd.N k26 26 w' w.heap.size (fun k_ => (w.heap.size ≤ k_) ∧ some k_ ≠ (v7 : Value).ownBlock ∧ k_ ≠ gb476) u5 x5_1) ∧ Aside0 (Kd.N k26 26 w' w.heap.size (fun k_ => (w.heap.size ≤ k_) ∧ some k_ ≠ (u5 : Value).ownBlock ∧ some k_ ≠ ((.slice Ao9 t472.length co9) : Value).ownBlock ∧ k_ ≠ gb476) v7 x7_2) ∧ Aside0 (Kd.R (Kd.int .i64) 3 w' w.heap.size (fun k_ => (w.heap.size ≤ k_)) (.slice Ao9 t472.length co9) t472) ∧ Aside0 (w'.heap[gb476]? = some (.cells #[(.slice Ao9 t472.length co9)] 26 (0, 0))) ∧ Aside0 (Below w.heap.size w w'))
   case atStart => exact ⟨(y480), (0), rs_, H', ⟨Nat.le_refl _⟩, ⟨by (with_reducible repeat (first | apply Kd.N_alloc | apply Kd.N_drewN | apply Kd.N_drew)); exact Kd.N_mono HO_5.out (fun _ hk => ⟨hk.1.1, ⟨hk.2, hk.1.2⟩⟩)⟩, ⟨by (with_reducible repeat (first | apply Kd.N_alloc | apply Kd.N_drewN | apply Kd.N_drew)); exact HO482.out⟩, ⟨re_ HO_477000.out⟩, ⟨be_ BK476.out⟩, ⟨bq_ HB⟩⟩
   case round =>
    clear H'
    try clear c14b0
    obtain ⟨x7_2, x8_2, rfl, HA, HK2, HO_5, HO_7, HO_477000, BK476, HB⟩ := hrel
    cases gk with
    | zero => exact absurd HA.out (by simp [spec_AllOfGenus.l1])
    | succ k2 =>
     have H := HA.out
     clear HA
     simp only [spec_AllOfGenus.l1] at H
     by_cases c17 : x8_2 < (x5_1.length : Int)
     rotate_left
     · rw [if_neg c17] at H
       have c17b0 : decide (x8_2 < (x5_1.length : Int)) = false := decide_eq_false c17
       clear c17
       have H' := Aside0.mk H
       clear H
       obtain ⟨Ao28, co28, eo28⟩ := Kd.N_slice HO_5.out
       subst eo28
       go_wp2
       go_roundg k2
       case measure => have := HK1.out; have := HK2.out; omega
       case rel => exact ⟨(x7_2), (wrap64 (x6_1 + 1)), rs_, H', ⟨by have := HK1.out; have := HK2.out; omega⟩, ⟨by (with_reducible repeat (first | apply Kd.N_alloc | apply Kd.N_drewN | apply Kd.N_drew)); exact Kd.N_mono HO_7.out (fun _ hk => ⟨hk.1, hk.2.2.2⟩)⟩, ⟨re_ HO_477000.out⟩, ⟨be_ BK476.out⟩, ⟨bq_ HB⟩⟩
     rw [if_pos c17] at H
     have c17b0 : decide (x8_2 < (x5_1.length : Int)) = true := decide_eq_true c17
     clear c17
     obtain ⟨c18b0, H⟩ := ipd_ H
     obtain ⟨⟨t484, t487⟩, A19, H⟩ := ob_ H
     (try dsimp only at H)
     have H' := Aside0.mk H
     clear H
     obtain ⟨Ao20, co20, eo20⟩ := Kd.N_slice HO_5.out
     subst eo20
     have p483 : 0 ≤ (x8_2 : Int) := od_
     have q483 : x8_2 < (x5_1.length : Int) := od_
     obtain ⟨ad483, A483_0, c483_0, e483, hx483_0, hl483_0, hi483_0⟩ := at_T26 (Kd.N_reads' HO_5.out).2.2 x8_2 p483 q483
     cases e483
     obtain ⟨ce483, hce483, hMe483, hcc483⟩ := Kd.N_get HO_5.out z26 x8_2 p483 (by first | exact q483 | exact od_ | (have e_ := (Kd.N_reads' HO_5.out).1; omega))
     obtain ⟨ua483_0, uc483_0, rfl, ul483_0, ge483_0⟩ := k26_openF hMe483
     have hv483_0 := hcc483 0 _ rfl
     rw [Nat.add_zero, show (k26).sz = 1 from rfl, Nat.mul_one] at hv483_0
     replace hv483_0 := Option.some.inj (hv483_0.symm.trans hx483_0)
     injection hv483_0 with hva_ hvn_ hvc_
     rw [hva_] at ge483_0
     rw [hvc_] at ul483_0
     have HL483_0 := Aside0.mk (show Kd.V (Kd.int .i64) 3 _ w.heap.size _ _ ((rd_T26 x5_1 x8_2).f0) from Kd.V_mk ul483_0 ge483_0)
     clear hva_ hvn_ hvc_ ge483_0 ul483_0
     clear hcc483 hce483
     have HR483_0 := Aside0.mk hi483_0
     have HC483_0 := Aside0.mk hl483_0
     clear hi483_0 hl483_0
     replace p483 := eq_true p483
     replace q483 := eq_true q483
     go_wp2_with (first | ((with_reducible refine gate_callee (f := 42) rfl ?_); refine gL_ (some 40) Try.func42 #[.agg #[.slice A483_0 ((rd_T26 x5_1 x8_2).f0).length c483_0]] ?_; (with_reducible refine (spec_ChildrenOf.calls k2 _ _ ((rd_T26 x5_1 x8_2).f0) t484 t487 _ ?side1 ?side2 A19.out).mono ?_); (case side1 => repeat (first | exact (by repeat (first | (with_reducible exact HR483_0.out) | (with_reducible refine Kd.C_alloc ?_ _) | (with_reducible refine Kd.C_drewN ?_ _) | (with_reducible refine Kd.C_drew ?_) | exact HR483_0.out)) | (with_reducible refine Kd.C_alloc ?_ _) | (with_reducible refine Kd.C_drewN ?_ _) | (with_reducible refine Kd.C_drew ?_))); (case side2 => exact HC483_0.out); rintro e w21 ⟨v485, rfl, ho0, hb⟩; refine ⟨_, rfl, ?_⟩; replace HL483_0 := Aside0.mk (Kd.V_elder' (by (with_reducible repeat (first | apply Kd.V_alloc | apply Kd.V_drewN | apply Kd.V_drew)); exact HL483_0.out) (Kd.N_base (Kd.S_N ho0)) hb); have HO486 := Aside0.mk (Kd.N_lower (Kd.N_mono (ok' := fun k_ => (w.heap.size ≤ k_) ∧ some k_ ≠ (.slice (some ad483) x5_1.length co20 : Value).ownBlock ∧ some k_ ≠ (u7 : Value).ownBlock ∧ some k_ ≠ (.slice Ao9 t472.length co9 : Value).ownBlock ∧ k_ ≠ gb476) (Kd.S_N (Kd.S_bound ho0)) (fun k_ hk_ => ⟨(Nat.le_trans (below_size (bq_ HB)) hk_.2.1), (Kd.fresh' (Kd.N_lt (by (with_reducible repeat (first | apply Kd.N_alloc | apply Kd.N_drewN | apply Kd.N_drew)); exact HO_5.out)) k_ hk_.2.1), (Kd.fresh' (Kd.N_lt (by (with_reducible repeat (first | apply Kd.N_alloc | apply Kd.N_drewN | apply Kd.N_drew)); exact HO_7.out)) k_ hk_.2.1), (Kd.fresh' (Kd.R_lt (re_ HO_477000.out)) k_ hk_.2.1), (Kd.freshB (g := gb476) (o := .cells #[.slice Ao9 t472.length co9] 26 (0, 0)) (be_ BK476.out) k_ hk_.2.1)⟩)) (below_size (bq_ HB))); replace HO_5 := Aside0.mk (Kd.N_elder' (by (with_reducible repeat (first | apply Kd.N_alloc | apply Kd.N_drewN | apply Kd.N_drew)); exact HO_5.out) (Kd.N_base (Kd.S_N ho0)) hb); replace HO_7 := Aside0.mk (Kd.N_elder' (by (with_reducible repeat (first | apply Kd.N_alloc | apply Kd.N_drewN | apply Kd.N_drew)); exact HO_7.out) (Kd.N_base (Kd.S_N ho0)) hb); replace HO_477000 := Aside0.mk (Kd.R_below (re_ HO_477000.out) hb); replace BK476 := bk_ BK476 hb; replace HR483_0 := Aside0.mk (Kd.C_below (by repeat (first | (with_reducible exact HR483_0.out) | (with_reducible refine Kd.C_alloc ?_ _) | (with_reducible refine Kd.C_drewN ?_ _) | (with_reducible refine Kd.C_drew ?_) | exact HR483_0.out)) hb); replace HB := bp_ HB hb; (try clear hb); (try clear ho0)))
     go_loopg [7, 11] k2 (fun kq v7 v11 w' => ∃ (x7_3 : List (S26)) (x11_3 : Int), v11 = .int .i64 x11_3 ∧ Aside0 (spec_AllOfGenus.l2 kq a0 x5_1 x6_1 x7_3 x8_2 t484 x11_3 = some r) ∧ Aside0 (kq ≤ k2) ∧ Aside0 (Kd.N k26 26 w' w.heap.size (fun k_ => (w.heap.size ≤ k_) ∧ some k_ ≠ (v7 : Value).ownBlock ∧ some k_ ≠ (v485 : Value).ownBlock ∧ k_ ≠ gb476) (.slice (some ad483) x5_1.length co20) x5_1) ∧ Aside0 (Kd.N k26 26 w' w.heap.size (fun k_ => (w.heap.size ≤ k_) ∧ some k_ ≠ ((.slice (some ad483) x5_1.length co20) : Value).ownBlock ∧ some k_ ≠ (v485 : Value).ownBlock ∧ some k_ ≠ ((.slice Ao9 t472.length co9) : Value).ownBlock ∧ k_ ≠ gb476) v7 x7_3) ∧ Aside0 (Kd.N k26 26 w' w.heap.size (fun k_ => (w.heap.size ≤ k_) ∧ some k_ ≠ ((.slice (some ad483) x5_1.length co20) : Value).ownBlock ∧ some k_ ≠ (v7 : Value).ownBlock ∧ some k_ ≠ ((.slice Ao9 t472.length co9) : Value).ownBlock ∧ k_ ≠ gb476) v485 t484) ∧ Aside0 (Kd.R (Kd.int .i64) 3 w' w.heap.size (fun k_ => (w.heap.size ≤ k_)) (.slice Ao9 t472.length co9) t472) ∧ Aside0 (w'.heap[gb476]? = some (.cells #[(.slice Ao9 t472.length co9)] 26 (0, 0))) ∧ Aside0 (Below w.heap.size w w'))
     case atStart => exact ⟨(x7_2), (0), rs_, H', ⟨Nat.le_refl _⟩, ⟨by (with_reducible repeat (first | apply Kd.N_alloc | apply Kd.N_drewN | apply Kd.N_drew)); exact Kd.N_mono HO_5.out (fun _ hk => ⟨hk.1.1, ⟨hk.1.2.1, ⟨hk.2, hk.1.2.2⟩⟩⟩)⟩, ⟨by (with_reducible repeat (first | apply Kd.N_alloc | apply Kd.N_drewN | apply Kd.N_drew)); exact Kd.N_mono HO_7.out (fun _ hk => ⟨hk.1.1, ⟨hk.1.2.1, ⟨hk.2, ⟨hk.1.2.2.1, hk.1.2.2.2⟩⟩⟩⟩)⟩, ⟨by (with_reducible repeat (first | apply Kd.N_alloc | apply Kd.N_drewN | apply Kd.N_drew)); exact HO486.out⟩, ⟨re_ HO_477000.out⟩, ⟨be_ BK476.out⟩, ⟨bq_ HB⟩⟩
     case round =>
      clear H'
      try clear c17b0
      try clear c18b0
      try clear hx483_0
      try clear p483
      try clear q483
      obtain ⟨x7_3, x11_3, rfl, HA, HK3, HO_5, HO_7, HO_9, HO_477000, BK476, HB⟩ := hrel
      cases gk with
      | zero => exact absurd HA.out (by simp [spec_AllOfGenus.l2])
      | succ k3 =>
       have H := HA.out
       clear HA
       simp only [spec_AllOfGenus.l2] at H
       by_cases c22 : x11_3 < (t484.length : Int)
       rotate_left
       · rw [if_neg c22] at H
         have c22b0 : decide (x11_3 < (t484.length : Int)) = false := decide_eq_false c22
         clear c22
         have H' := Aside0.mk H
         clear H
         obtain ⟨Ao27, co27, eo27⟩ := Kd.N_slice HO_9.out
         subst eo27
         go_wp2
         go_roundg k3
         case measure => have := HK1.out; have := HK2.out; have := HK3.out; omega
         case rel => exact ⟨(x7_3), (wrap64 (x8_2 + 1)), rs_, H', ⟨by have := HK1.out; have := HK2.out; have := HK3.out; omega⟩, ⟨by (with_reducible repeat (first | apply Kd.N_alloc | apply Kd.N_drewN | apply Kd.N_drew)); exact Kd.N_mono HO_5.out (fun _ hk => ⟨hk.1, ⟨hk.2.1, hk.2.2.2⟩⟩)⟩, ⟨by (with_reducible repeat (first | apply Kd.N_alloc | apply Kd.N_drewN | apply Kd.N_drew)); exact Kd.N_mono HO_7.out (fun _ hk => ⟨hk.1, ⟨hk.2.1, ⟨hk.2.2.2.1, hk.2.2.2.2⟩⟩⟩)⟩, ⟨re_ HO_477000.out⟩, ⟨be_ BK476.out⟩, ⟨bq_ HB⟩⟩
       rw [if_pos c22] at H
       have c22b0 : decide (x11_3 < (t484.length : Int)) = true := decide_eq_true c22
       clear c22
       obtain ⟨c23b0, H⟩ := ipd_ H
       obtain ⟨tc_, AC0, H⟩ := Option.bind_eq_some_iff.mp H
       obtain ⟨ta_, AP0, H⟩ := Option.bind_eq_some_iff.mp H
       have AC_ := Aside0.mk AC0
       have AP_ := Aside0.mk AP0
       clear AC0 AP0
       have cE : ta_ = (x7_3.length : Int) := by (refine Classical.byContradiction fun c => ?_; rw [if_neg c] at H; cases H)
       rw [if_pos cE] at H
       have HE_ := Aside0.mk cE
       clear cE
       obtain ⟨c24, H⟩ := ip_ H
       have LMc24 := Aside0.mk c24
       clear c24
       obtain ⟨y489, hy489⟩ : ∃ y_ : List (S26), y_ = (x7_3 ++ [(⟨tc_⟩ : S26)]) := ⟨_, rfl⟩
       replace H : (spec_AllOfGenus.l2 k3 a0 x5_1 x6_1 y489 x8_2 t484 (wrap64 (x11_3 + 1))) = some r := by subst hy489; exact H
       have Ny489 := Aside0.mk hy489
       clear hy489
       have H' := Aside0.mk H
       clear H
       obtain ⟨Ao25, co25, eo25⟩ := Kd.N_slice HO_9.out
       subst eo25
       have p488 : 0 ≤ (x11_3 : Int) := od_
       have q488 : x11_3 < (t484.length : Int) := od_
       obtain ⟨ad488, A488_0, c488_0, e488, hx488_0, hl488_0, hi488_0⟩ := at_T26 (Kd.N_reads' HO_9.out).2.2 x11_3 p488 q488
       cases e488
       obtain ⟨ce488, hce488, hMe488, hcc488⟩ := Kd.N_get HO_9.out z26 x11_3 p488 (by first | exact q488 | exact od_ | (have e_ := (Kd.N_reads' HO_9.out).1; omega))
       obtain ⟨ua488_0, uc488_0, rfl, ul488_0, ge488_0⟩ := k26_openF hMe488
       have hv488_0 := hcc488 0 _ rfl
       rw [Nat.add_zero, show (k26).sz = 1 from rfl, Nat.mul_one] at hv488_0
       replace hv488_0 := Option.some.inj (hv488_0.symm.trans hx488_0)
       injection hv488_0 with hva_ hvn_ hvc_
       rw [hva_] at ge488_0
       rw [hvc_] at ul488_0
       have HL488_0 := Aside0.mk (show Kd.V (Kd.int .i64) 3 _ w.heap.size _ _ ((rd_T26 t484 x11_3).f0) from Kd.V_mk ul488_0 ge488_0)
       clear hva_ hvn_ hvc_ ge488_0 ul488_0
       clear hcc488 hce488
       have HR488_0 := Aside0.mk hi488_0
       have HC488_0 := Aside0.mk hl488_0
       clear hi488_0 hl488_0
       replace p488 := eq_true p488
       replace q488 := eq_true q488
       go_wp2_with (first | ((with_reducible refine gate_callee (f := 43) rfl ?_); refine gL_ (some 54) Try.func43 #[u7, .agg #[.slice A488_0 ((rd_T26 t484 x11_3).f0).length c488_0]] ?_; (with_reducible refine (spec_l19Put.calls k3 w.heap.size (fun k_ => (w.heap.size ≤ k_) ∧ some k_ ≠ (.slice (some ad483) x5_1.length co20 : Value).ownBlock ∧ some k_ ≠ (.slice (some ad488) t484.length co25 : Value).ownBlock ∧ some k_ ≠ (.slice Ao9 t472.length co9 : Value).ownBlock ∧ k_ ≠ gb476) u7 x7_3 _ _ ((rd_T26 t484 x11_3).f0) tc_ ta_ w _ ?aB ?aS ?aF ?aO ?aR ?aC ?aL AC_.out AP_.out HE_.out).mono ?_); (case aB => exact (bq_ HB)); (case aS => exact (below_size (bq_ HB))); (case aF => exact (fun k_ hk => ⟨(Nat.le_trans (below_size (bq_ HB)) hk), Kd.fresh' (Kd.N_lt (by (with_reducible repeat (first | apply Kd.N_alloc | apply Kd.N_drewN | apply Kd.N_drew)); exact HO_5.out)) k_ hk, Kd.fresh' (Kd.N_lt (by (with_reducible repeat (first | apply Kd.N_alloc | apply Kd.N_drewN | apply Kd.N_drew)); exact HO_9.out)) k_ hk, Kd.fresh' (Kd.R_lt (re_ HO_477000.out)) k_ hk, Kd.freshB (g := gb476) (o := .cells #[.slice Ao9 t472.length co9] 26 (0, 0)) (be_ BK476.out) k_ hk⟩)); (case aO => exact (by (with_reducible repeat (first | apply Kd.N_alloc | apply Kd.N_drewN | apply Kd.N_drew)); exact HO_7.out)); (case aR => exact HR488_0.out); (case aC => exact HC488_0.out); (case aL => exact LMc24.out); rintro e w26 ⟨v490, rfl, ho, hb, hg, hat⟩; refine ⟨_, rfl, ?_⟩; rw [← Ny489.out] at ho; replace HO_5 := Aside0.mk (Kd.N_afterv (ok := (fun k_ => (w.heap.size ≤ k_) ∧ some k_ ≠ (.slice (some ad488) t484.length co25 : Value).ownBlock ∧ k_ ≠ gb476)) (by (with_reducible repeat (first | apply Kd.N_alloc | apply Kd.N_drewN | apply Kd.N_drew)); exact Kd.N_mono HO_5.out (fun _ hk => ⟨⟨hk.1, ⟨hk.2.2.1, hk.2.2.2⟩⟩, hk.2.1⟩)) hg hat); replace HO_9 := Aside0.mk (Kd.N_afterv (ok := (fun k_ => (w.heap.size ≤ k_) ∧ some k_ ≠ (.slice (some ad483) x5_1.length co20 : Value).ownBlock ∧ some k_ ≠ (.slice Ao9 t472.length co9 : Value).ownBlock ∧ k_ ≠ gb476)) (by (with_reducible repeat (first | apply Kd.N_alloc | apply Kd.N_drewN | apply Kd.N_drew)); exact Kd.N_mono HO_9.out (fun _ hk => ⟨⟨hk.1, ⟨hk.2.1, ⟨hk.2.2.2.1, hk.2.2.2.2⟩⟩⟩, hk.2.2.1⟩)) hg hat); replace HO_477000 := Aside0.mk (Kd.R_over' (re_ HO_477000.out) (Kd.N_typed (by (with_reducible repeat (first | apply Kd.N_alloc | apply Kd.N_drewN | apply Kd.N_drew)); exact HO_7.out)) (by decide) hg); replace BK476 := Aside0.mk (blk_grown (be_ BK476.out) hg (Kd.N_away HO_7.out (fun _ hk => hk.2.2.2.2))); replace HL488_0 := Aside0.mk (Kd.V_afterv (ok := (fun k_ => (w.heap.size ≤ k_) ∧ some k_ ≠ (.slice (some ad483) x5_1.length co20 : Value).ownBlock ∧ some k_ ≠ (.slice (some ad488) t484.length co25 : Value).ownBlock ∧ some k_ ≠ (.slice Ao9 t472.length co9 : Value).ownBlock ∧ k_ ≠ gb476)) (by (with_reducible repeat (first | apply Kd.V_alloc | apply Kd.V_drewN | apply Kd.V_drew)); exact Kd.V_mono HL488_0.out (fun _ hk => ⟨⟨hk.1.1, ⟨hk.1.2.1, ⟨hk.2, ⟨hk.1.2.2.2.1, hk.1.2.2.2.2⟩⟩⟩⟩, hk.1.2.2.1⟩)) hg hat); replace HB := Aside0.mk (hb); have HO491 := Aside0.mk (ho); clear HO_7; clear ho hb hg hat))
       go_roundg k3
       case measure => have := HK1.out; have := HK2.out; have := HK3.out; omega
       case rel => exact ⟨(y489), (wrap64 (x11_3 + 1)), rs_, H', ⟨by have := HK1.out; have := HK2.out; have := HK3.out; omega⟩, ⟨by (with_reducible repeat (first | apply Kd.N_alloc | apply Kd.N_drewN | apply Kd.N_drew)); exact Kd.N_mono HO_5.out (fun _ hk => ⟨hk.1.1, ⟨hk.2, ⟨hk.1.2.1, hk.1.2.2⟩⟩⟩)⟩, ⟨by (with_reducible repeat (first | apply Kd.N_alloc | apply Kd.N_drewN | apply Kd.N_drew)); exact HO491.out⟩, ⟨by (with_reducible repeat (first | apply Kd.N_alloc | apply Kd.N_drewN | apply Kd.N_drew)); exact Kd.N_mono HO_9.out (fun _ hk => ⟨hk.1.1, ⟨hk.1.2.1, ⟨hk.2, ⟨hk.1.2.2.1, hk.1.2.2.2⟩⟩⟩⟩)⟩, ⟨re_ HO_477000.out⟩, ⟨be_ BK476.out⟩, ⟨bq_ HB⟩⟩
def impl_FrobeniusOf.f (k : Nat) (l0_0 : List Int) : Option (Int) := (impl_Gaps.f k l0_0).bind fun t493 => (if (t493.length : Int) = 0 then (some (-1)) else (if 0 ≤ (wrap64 ((t493.length : Int) - 1)) then (if (wrap64 ((t493.length : Int) - 1)) < (t493.length : Int) then (some (rd t493 (wrap64 ((t493.length : Int) - 1)))) else (none)) else (none)))
theorem impl_FrobeniusOf.calls (k : Nat) (A0_0 : Option Addr) (c0_0 : Nat) (l0_0 : List Int) (r : Int) (w : World) (hr0_0 : Kd.C (Kd.int .i64) w A0_0 l0_0.length l0_0) (hc0_0 : l0_0.length ≤ c0_0) (h : impl_FrobeniusOf.f k l0_0 = some r) :
 Calls Try.prog 75 #[.agg #[.slice A0_0 l0_0.length c0_0]] w fun e w' => e = .returned (.int .i64 r) ∧ Below w.heap.size w w' := by
 have hu26 := Try.underlying26
 have HR0_0 := Aside0.mk hr0_0
 have HC0_0 := Aside0.mk hc0_0
 clear hr0_0 hc0_0
 have HB := Aside0.mk (Below.refl w.heap.size w)
 have H := h
 clear h
 unfold impl_FrobeniusOf.f at H
 obtain ⟨t493, A2, H⟩ := ob_ H
 by_cases c3 : (t493.length : Int) = 0
 · rw [if_pos c3] at H
   have c3b0 : ((t493.length : Int) == 0) = true := beq_iff_eq.mpr c3
   have c3b1 : ((t493.length : Int) != 0) = false := bne_eq_false_iff_eq.mpr c3
   clear c3
   obtain rfl := Option.some.inj H
   go_enter Try.func75, Try.ntmps75
   go_wp2_with (first | ((with_reducible refine gate_dst (N := 1) rfl ?_); refine bx_ 1 #[.slice A0_0 l0_0.length c0_0] 26 ?_; intro gb492 hg w4 hbox hb; have BK492 := Aside0.mk (hbox); have GW492 := gw_ hg HB; have GE492 := gw_ hg HB; replace HB := bo_ HB hb; clear hb hbox hg; have hcz5_0 := cz_ BK492; have hfz5_0 := blk_frozen BK492.out 0) | ((with_reducible refine gate_callee (f := 62) rfl ?_); refine gL_ (some 5) Try.func62 #[.agg #[.slice A0_0 l0_0.length c0_0]] ?_; (with_reducible refine (impl_Gaps.calls k _ _ l0_0 t493 _ ?side1 ?side2 A2.out).mono ?_); (case side1 => exact ch_ HR0_0 HB); (case side2 => exact HC0_0.out); rintro e w6 ⟨v494, rfl, ho0, hb⟩; refine ⟨_, rfl, ?_⟩; have HO495 := Aside0.mk (Kd.R_lower ho0 (below_size (bq_ HB))); replace BK492 := bk_ BK492 hb; replace HB := bp_ HB hb; (try clear hb); (try clear ho0); obtain ⟨Ao7, co7, eo7⟩ := Kd.R_slice HO495.out; subst eo7))
   go_ret
   exact ⟨rf_, bq_ HB⟩
 rw [if_neg c3] at H
 have c3b0 : ((t493.length : Int) == 0) = false := beq_eq_false_iff_ne.mpr c3
 have c3b1 : ((t493.length : Int) != 0) = true := bne_iff_ne.mpr c3
 have c3b2 : ¬ (t493 = []) := fun h_ => c3 (by rw [h_]; rfl)
 obtain ⟨ji8, hji8⟩ : ∃ j_ : Int, (wrap64 ((t493.length : Int) - 1)) = j_ := ⟨_, rfl⟩
 replace H : (if 0 ≤ (ji8) then (if (ji8) < (t493.length : Int) then (some (rd t493 (ji8))) else (none)) else (none)) = some r := by first | (rw [hji8] at H; exact H) | (simp only [hji8] at H ⊢; exact H)
 (try rw [hji8] at A2)
 have hji8w : (IntKind.i64.wrap ((t493.length : Int) - 1)) = ji8 := (i64_w _).trans hji8
 obtain ⟨c9b0, H⟩ := ipd_ H
 obtain ⟨c10b0, H⟩ := ipd_ H
 obtain rfl := Option.some.inj H
 go_enter Try.func75, Try.ntmps75
 go_wp2_with (first | ((with_reducible refine gate_dst (N := 1) rfl ?_); refine bx_ 1 #[.slice A0_0 l0_0.length c0_0] 26 ?_; intro gb492 hg w11 hbox hb; have BK492 := Aside0.mk (hbox); have GW492 := gw_ hg HB; have GE492 := gw_ hg HB; replace HB := bo_ HB hb; clear hb hbox hg; have hcz12_0 := cz_ BK492; have hfz12_0 := blk_frozen BK492.out 0) | ((with_reducible refine gate_callee (f := 62) rfl ?_); refine gL_ (some 5) Try.func62 #[.agg #[.slice A0_0 l0_0.length c0_0]] ?_; (with_reducible refine (impl_Gaps.calls k _ _ l0_0 t493 _ ?side1 ?side2 A2.out).mono ?_); (case side1 => exact ch_ HR0_0 HB); (case side2 => exact HC0_0.out); rintro e w13 ⟨v494, rfl, ho0, hb⟩; refine ⟨_, rfl, ?_⟩; have HO495 := Aside0.mk (Kd.R_lower ho0 (below_size (bq_ HB))); replace BK492 := bk_ BK492 hb; replace HB := bp_ HB hb; (try clear hb); (try clear ho0); obtain ⟨Ao14, co14, eo14⟩ := Kd.R_slice HO495.out; subst eo14; have p496 : 0 ≤ ((ji8) : Int) := od_; have q496 : (ji8) < (t493.length : Int) := od_; obtain ⟨ad496, e496, hx496_0⟩ := Kd.at_int (Kd.R_reads' HO495.out).2.2 (ji8) p496 q496; cases e496; replace p496 := eq_true p496; replace q496 := eq_true q496))
 go_ret
 exact ⟨by first | rfl | (simp [errW_none, errW_some] <;> rfl) | (simp only [← hji8]; first | rfl | (simp [errW_none, errW_some] <;> rfl)) | (simp [*, errW_none, errW_some] <;> rfl), bq_ HB⟩
def impl_gapList.f (k : Nat) (l0 : List Int) : Option (Bool) := (impl_IsAscending.f k l0).bind fun t497 => (if t497 = true then ((impl_allWithin.f k l0 1 199).bind fun t498 => (some t498)) else (some false))
theorem impl_gapList.calls (k : Nat) (A0 : Option Addr) (c0 : Nat) (l0 : List Int) (r : Bool) (w : World) (hr0 : Kd.C (Kd.int .i64) w A0 l0.length l0) (hc0 : l0.length ≤ c0) (h : impl_gapList.f k l0 = some r) :
 Calls Try.prog 88 #[.slice A0 l0.length c0] w fun e w' => e = .returned (.bool r) ∧ Drawn0 w w' := by
 have HR0 := Aside0.mk hr0
 have HC0 := Aside0.mk hc0
 clear hr0 hc0
 have H := h
 clear h
 unfold impl_gapList.f at H
 obtain ⟨t497, A2, H⟩ := ob_ H
 by_cases c3 : t497 = true
 rotate_left
 · replace c3 := Bool.eq_false_iff.mpr c3
   subst c3
   rw [if_neg (show ¬ (false = true) by decide)] at H
   obtain rfl := Option.some.inj H
   go_enter Try.func88, Try.ntmps88
   go_wp2_with (first | ((with_reducible refine gate_callee (f := 56) rfl ?_); refine gL_ (some 4) Try.func56 #[.slice A0 l0.length c0] ?_; (with_reducible refine (impl_IsAscending.calls k _ _ l0 false _ ?side1 ?side2 A2.out).mono ?_); (case side1 => exact ce_ (HR0.out)); (case side2 => exact HC0.out); rintro e w' ⟨rfl, ⟨nd, rfl⟩⟩; refine ⟨_, rfl, ?_⟩))
   go_ret
   exact ⟨by first | rfl | (simp; done) | (simp [*]; done), by repeat (first | exact Drawn0.refl _ | apply Drawn0.step)⟩
 subst c3
 rw [if_pos rfl] at H
 obtain ⟨t498, A4, H⟩ := ob_ H
 obtain rfl := Option.some.inj H
 go_enter Try.func88, Try.ntmps88
 go_wp2_with (first | ((with_reducible refine gate_callee (f := 56) rfl ?_); refine gL_ (some 4) Try.func56 #[.slice A0 l0.length c0] ?_; (with_reducible refine (impl_IsAscending.calls k _ _ l0 true _ ?side1 ?side2 A2.out).mono ?_); (case side1 => exact ce_ (HR0.out)); (case side2 => exact HC0.out); rintro e w' ⟨rfl, ⟨nd, rfl⟩⟩; refine ⟨_, rfl, ?_⟩) | (go_at_call 55; (with_reducible refine (impl_allWithin.calls k _ _ l0 1 199 t498 _ ?side1 ?side2 A4.out).mono ?_); (case side1 => exact ce_ (HR0.out)); (case side2 => exact HC0.out); rintro e w' ⟨rfl, ⟨nd, rfl⟩⟩))
 go_ret
 exact ⟨by first | rfl | (simp; done) | (simp [*]; done), by repeat (first | exact Drawn0.refl _ | apply Drawn0.step)⟩
mutual
def impl_GapClash.j0 : Nat → List Int → Bool → Option (Int × Int × Bool)
 | 0, _, _ => none
 | k + 1, x0, x17 => if x17 = true then (some (0, 0, false)) else (if 201 ≤ 281474976710656 then (impl_GapClash.l0 k x0 (List.replicate 201 false) x0 (x0.length : Int) 0) else (none))
def impl_GapClash.l0 : Nat → List Int → List Bool → List Int → Int → Int → Option (Int × Int × Bool)
 | 0, _, _, _, _, _ => none
 | k + 1, x0, x4, x20, x21, x22 => if x22 < x21 then (if 0 ≤ x22 then (if x22 < (x20.length : Int) then (if 0 ≤ (rd x20 x22) then (if (rd x20 x22) < (x4.length : Int) then (impl_GapClash.l0 k x0 (x4.set ((rd x20 x22) : Int).toNat true) x20 x21 (wrap64 (x22 + 1))) else (none)) else (none)) else (none)) else (none)) else (if 0 ≤ (wrap64 ((x0.length : Int) - 1)) then (if (wrap64 ((x0.length : Int) - 1)) < (x0.length : Int) then (impl_GapClash.l1 k x4 (rd x0 (wrap64 ((x0.length : Int) - 1))) 1) else (none)) else (none))
def impl_GapClash.l1 : Nat → List Bool → Int → Int → Option (Int × Int × Bool)
 | 0, _, _, _ => none
 | k + 1, x4, x7, x8 => if x8 ≤ x7 then (impl_GapClash.l2 k x4 x7 x8 x8) else (some (0, 0, false))
def impl_GapClash.l2 : Nat → List Bool → Int → Int → Int → Option (Int × Int × Bool)
 | 0, _, _, _, _ => none
 | k + 1, x4, x7, x8, x9 => if (wrap64 (x8 + x9)) ≤ x7 then (if 0 ≤ x8 then (if x8 < (x4.length : Int) then (if rdOf false x4 x8 = true then (impl_GapClash.l2 k x4 x7 x8 (wrap64 (x9 + 1))) else (if 0 ≤ x9 then (if x9 < (x4.length : Int) then (if rdOf false x4 x9 = true then (impl_GapClash.l2 k x4 x7 x8 (wrap64 (x9 + 1))) else (if 0 ≤ (wrap64 (x8 + x9)) then (if (wrap64 (x8 + x9)) < (x4.length : Int) then (if rdOf false x4 (wrap64 (x8 + x9)) = true then (some (x8, x9, true)) else (impl_GapClash.l2 k x4 x7 x8 (wrap64 (x9 + 1)))) else (none)) else (none))) else (none)) else (none))) else (none)) else (none)) else (impl_GapClash.l1 k x4 x7 (wrap64 (x8 + 1)))
end
def impl_GapClash.f (k : Nat) (l0 : List Int) : Option (Int × Int × Bool) := (impl_gapList.f k l0).bind fun t500 => (if t500 = true then (impl_GapClash.j0 k l0 ((l0.length : Int) == 0)) else (impl_GapClash.j0 k l0 true))
theorem impl_GapClash.calls (k : Nat) (A0 : Option Addr) (c0 : Nat) (l0 : List Int) (r1 : Int) (r2 : Int) (r3 : Bool) (w : World) (hr0 : Kd.C (Kd.int .i64) w A0 l0.length l0) (hc0 : l0.length ≤ c0) (h : impl_GapClash.f k l0 = some (r1, r2, r3)) :
 Calls Try.prog 87 #[.slice A0 l0.length c0] w fun e w' => e = .returned (.tuple #[.agg #[.int .i64 r1, .int .i64 r2], .bool r3]) ∧ Below w.heap.size w w' := by
 have hu70 := Try.underlying70
 have HR0 := Aside0.mk hr0
 have HC0 := Aside0.mk hc0
 clear hr0 hc0
 have HB := Aside0.mk (Below.refl w.heap.size w)
 have H := h
 clear h
 unfold impl_GapClash.f at H
 have HC2 := Aside0.mk H
 clear H
 go_enter Try.func87, Try.ntmps87
 go_upto_region 1 with (first | ((with_reducible refine gate_dst (N := 2) rfl ?_); (try (refine gate_guard (by rfl) ?_; dsimp only)); refine bx_ 2 #[.int .i64 0, .int .i64 0] 70 ?_; intro gb499 hg w3 hbox hb; have BK499 := Aside0.mk (hbox); have GW499 := gw_ hg HB; have GE499 := gw_ hg HB; replace HB := bo_ HB hb; clear hb hbox hg))
 (try simp only [Act.put, z1_, z2_, z3_])
 go_cut [17] (fun v17 wc => ∃ (kq : Nat) (x17_1 : Bool), v17 = .bool x17_1 ∧ Aside0 (impl_GapClash.j0 kq l0 x17_1 = some (r1, r2, r3)) ∧ Aside0 (kq ≤ k) ∧ Aside0 (wc.heap[gb499]? = some (.cells #[.int .i64 0, .int .i64 0] 70 (0, 0))) ∧ Aside0 (Below w.heap.size w wc))
 case first =>
  have H := HC2.out
  clear HC2
  obtain ⟨t500, A4, H⟩ := ob_ H
  by_cases c5 : t500 = true
  · subst c5
    rw [if_pos rfl] at H
    have H' := Aside0.mk H
    clear H
    go_wp2_with (first | ((with_reducible refine gate_callee (f := 88) rfl ?_); refine gL_ (some 11) Try.func88 #[.slice A0 l0.length c0] ?_; (with_reducible refine (impl_gapList.calls k _ _ l0 true _ ?side1 ?side2 A4.out).mono ?_); (case side1 => exact ch_ HR0 HB); (case side2 => exact HC0.out); rintro e w' ⟨rfl, ⟨nd, rfl⟩⟩; refine ⟨_, rfl, ?_⟩))
    go_meet
    case rel => exact ⟨_, (((l0.length : Int) == 0)), rs_, H', ⟨by first | omega | exact Nat.le_refl _⟩, ⟨be_ BK499.out⟩, ⟨bq_ HB⟩⟩
  replace c5 := Bool.eq_false_iff.mpr c5
  subst c5
  rw [if_neg (show ¬ (false = true) by decide)] at H
  have H' := Aside0.mk H
  clear H
  go_wp2_with (first | ((with_reducible refine gate_callee (f := 88) rfl ?_); refine gL_ (some 11) Try.func88 #[.slice A0 l0.length c0] ?_; (with_reducible refine (impl_gapList.calls k _ _ l0 false _ ?side1 ?side2 A4.out).mono ?_); (case side1 => exact ch_ HR0 HB); (case side2 => exact HC0.out); rintro e w' ⟨rfl, ⟨nd, rfl⟩⟩; refine ⟨_, rfl, ?_⟩))
  go_meet
  case rel => exact ⟨_, (true), rs_, H', ⟨by first | omega | exact Nat.le_refl _⟩, ⟨be_ BK499.out⟩, ⟨bq_ HB⟩⟩
 case rest =>
  clear HC2
  obtain ⟨kq, x17_1, rfl, HA, HJ1, BK499, HB⟩ := hcut
  cases kq with
  | zero => exact absurd HA.out (by simp [impl_GapClash.j0])
  | succ kj1 =>
   have H := HA.out
   clear HA
   simp only [impl_GapClash.j0] at H
   by_cases c6 : x17_1 = true
   · subst c6
     rw [if_pos rfl] at H
     simp only [Option.some.injEq, Prod.mk.injEq] at H
     obtain ⟨rfl, rfl, rfl⟩ := H
     have hcz7_0 : wc.cell? ⟨gb499, 0, none⟩ = some (.int .i64 0) := (blk_cell BK499.out 0).trans rfl
     have hcz7_1 : wc.cell? ⟨gb499, 1, none⟩ = some (.int .i64 0) := (blk_cell BK499.out 1).trans rfl
     have hfz7_0 := blk_frozen BK499.out 0
     have hfz7_1 := blk_frozen BK499.out 1
     go_wp2
     refine bodyPost_ret (results_ct rfl _ _ gb499 70 #[.int .i64 0, .int .i64 0] (0, 0) _ rfl (by (with_reducible repeat (first | refine blk_drewN ?_ _ | refine blk_drew ?_ | refine blk_alloc ?_ _)); refine blk_put (cs := #[.int .i64 0, .int .i64 0]) ?_ 1 _ rfl; (with_reducible repeat (first | refine blk_drewN ?_ _ | refine blk_drew ?_ | refine blk_alloc ?_ _)); refine blk_put (cs := #[.int .i64 0, .int .i64 0]) ?_ 0 _ rfl; (with_reducible repeat (first | refine blk_drewN ?_ _ | refine blk_drew ?_ | refine blk_alloc ?_ _)); exact BK499.out) Try.underlying70 rfl (by kernel_rfl)) rfl ?_
     exact ⟨rf_, bq_ HB⟩
   replace c6 := Bool.eq_false_iff.mpr c6
   subst c6
   rw [if_neg (show ¬ (false = true) by decide)] at H
   obtain ⟨c8, H⟩ := ip_ H
   have c8b0 := eq_true c8
   have c8b1 : decide (201 ≤ 281474976710656) = true := decide_eq_true c8
   clear c8
   obtain ⟨y501, hy501⟩ : ∃ y_ : List Bool, y_ = (List.replicate 201 false) := ⟨_, rfl⟩
   replace H : (impl_GapClash.l0 kj1 l0 y501 l0 (l0.length : Int) 0) = some (r1, r2, r3) := by subst hy501; exact H
   have Ny501 := Aside0.mk hy501
   clear hy501
   have H' := Aside0.mk H
   clear H
   go_wp2_with (first | ((with_reducible refine gate_dst (N := 19) rfl ?_); (try (refine gate_guard (by rfl) ?_; dsimp only)); refine Kd.R_make Kd.bool _ 4 rfl (N := 19) rfl 67 _ _ rfl 201 rfl rfl Try.underlying67 (.bool false) 1 info4 rfl (by decide) (by omega) false (ok := fun _ => True) (okp := fun _ => True) rfl (fun _ hk => hk) trivial (by omega) (by omega) (Below.refl _ _) (Nat.le_refl _) ?_; intro v502 w9 ho10 hb hg_ hnew_; clear hg_ hnew_; (first | rw [← Ny501.out] at ho10 | (simp only [Int.reduceToNat] at ho10; rw [← Ny501.out] at ho10)); have HO503 := Aside0.mk (Kd.R_lower ho10 (below_size (bq_ HB))); replace BK499 := bk_ BK499 hb; replace HB := bp_ HB hb; clear hb ho10))
   go_loopg [22] kj1 (fun kq v22 w' => ∃ (x4_2 : List Bool) (x22_2 : Int), v22 = .int .i64 x22_2 ∧ Aside0 (impl_GapClash.l0 kq l0 x4_2 l0 (l0.length : Int) x22_2 = some (r1, r2, r3)) ∧ Aside0 (kq ≤ kj1) ∧ Aside0 (Kd.R Kd.bool 4 w' w.heap.size (fun _ => True) v502 x4_2) ∧ Aside0 (w'.heap[gb499]? = some (.cells #[.int .i64 0, .int .i64 0] 70 (0, 0))) ∧ Aside0 (Below w.heap.size w w'))
   case atStart => exact ⟨(y501), (0), rs_, H', ⟨Nat.le_refl _⟩, ⟨re_ HO503.out⟩, ⟨be_ BK499.out⟩, ⟨bq_ HB⟩⟩
   case round =>
    clear H'
    try clear c8b0
    try clear c8b1
    obtain ⟨x4_2, x22_2, rfl, HA, HK2, HO_4, BK499, HB⟩ := hrel
    cases gk with
    | zero => exact absurd HA.out (by simp [impl_GapClash.l0])
    | succ k2 =>
     have H := HA.out
     clear HA
     simp only [impl_GapClash.l0] at H
     by_cases c11 : x22_2 < (l0.length : Int)
     · rw [if_pos c11] at H
       have c11b0 : decide (x22_2 < (l0.length : Int)) = true := decide_eq_true c11
       clear c11
       obtain ⟨c12b0, H⟩ := ipd_ H
       obtain ⟨c13b0, H⟩ := ipd_ H
       obtain ⟨c14b0, H⟩ := ipd_ H
       obtain ⟨c15b0, H⟩ := ipd_ H
       obtain ⟨y505, hy505⟩ : ∃ y_ : List Bool, y_ = (x4_2.set ((rd l0 x22_2) : Int).toNat true) := ⟨_, rfl⟩
       replace H : (impl_GapClash.l0 k2 l0 y505 l0 (l0.length : Int) (wrap64 (x22_2 + 1))) = some (r1, r2, r3) := by subst hy505; exact H
       have Ny505 := Aside0.mk hy505
       clear hy505
       have H' := Aside0.mk H
       clear H
       have p504 : 0 ≤ (x22_2 : Int) := od_
       have q504 : x22_2 < (l0.length : Int) := od_
       obtain ⟨ad504, e504, hx504_0⟩ := Kd.at_int HR0.out x22_2 p504 q504
       cases e504
       (try replace hx504_0 := (HB.out.cell (World.block_lt_of_cell? w _ hx504_0)).trans hx504_0)
       replace p504 := eq_true p504
       replace q504 := eq_true q504
       have p16 : 0 ≤ ((rd l0 x22_2) : Int) := od_
       have q16 : ((rd l0 x22_2) : Int) < ((x4_2.length : Int) : Int) := od_
       obtain ⟨go16, co16, eo16, gb16, gl16, cl16, HG16⟩ := Kd.R_form HO_4.out (by omega)
       (first | cases eo16 | (injection eo16 with ea_ en_ ec_; (first | subst ea_ | (injection ea_ with ea_; subst ea_)); subst ec_; clear en_))
       have GB16 := Aside0.mk gb16
       have GG16 := Aside0.mk HG16
       clear gb16 gl16 HG16
       obtain ⟨hx16_0, hf16_0⟩ := Kd.R_celln false HO_4.out ((rd l0 x22_2) : Int) p16 q16
       replace p16 := eq_true p16
       replace q16 := eq_true q16
       have HP17 := Kd.R_putg HO_4.out ((rd l0 x22_2) : Int) true
       go_wp2_with (first | ((with_reducible refine gate_store (t := 4) (p := 28) rfl ?_); refine store_event (t := 4) (p := 28) (v := ?vo_w18) (w1 := (wr.setCell ⟨go16, ((rd l0 x22_2) : Int).toNat, none⟩ (.bool true))) ?hg ?ho ?hn ?hr ?_; (case ho => rfl); (case hg => rfl); (case hn => rfl); (case hr => first | (go_simp; done) | (go_simp; rfl)); intro w18 hw; have hg : wr.grownBy w18 (some go16) := (by rw [hw]; exact HP17.2); have hp_ : Kd.R Kd.bool 4 w18 w.heap.size (fun _ => True) (.slice (some ⟨go16, 0, none⟩) x4_2.length co16) y505 := (by rw [hw, Ny505.out]; exact HP17.1); clear HP17; replace BK499 := Aside0.mk (blk_grown (be_ BK499.out) hg (Kd.R_ne HO_4.out BK499.out (by decide))); replace HO_4 := Aside0.mk (hp_); replace HB := Aside0.mk ((by rw [hw]; exact below_set (HB.out) GB16.out : Below w.heap.size w w18)); clear hg hw hp_))
       go_roundg k2
       case measure => have := HJ1.out; have := HK2.out; omega
       case rel => exact ⟨(y505), (wrap64 (x22_2 + 1)), rs_, H', ⟨by have := HJ1.out; have := HK2.out; omega⟩, ⟨re_ HO_4.out⟩, ⟨be_ BK499.out⟩, ⟨bq_ HB⟩⟩
     rw [if_neg c11] at H
     have c11b0 : decide (x22_2 < (l0.length : Int)) = false := decide_eq_false c11
     clear c11
     obtain ⟨ji19, hji19⟩ : ∃ j_ : Int, (wrap64 ((l0.length : Int) - 1)) = j_ := ⟨_, rfl⟩
     replace H : (if 0 ≤ (ji19) then (if (ji19) < (l0.length : Int) then (impl_GapClash.l1 k2 x4_2 (rd l0 (ji19)) 1) else (none)) else (none)) = some (r1, r2, r3) := by first | (rw [hji19] at H; exact H) | (simp only [hji19] at H ⊢; exact H)
     have hji19w : (IntKind.i64.wrap ((l0.length : Int) - 1)) = ji19 := (i64_w _).trans hji19
     obtain ⟨c20b0, H⟩ := ipd_ H
     obtain ⟨c21b0, H⟩ := ipd_ H
     have H' := Aside0.mk H
     clear H
     have p506 : 0 ≤ ((ji19) : Int) := od_
     have q506 : (ji19) < (l0.length : Int) := od_
     obtain ⟨ad506, e506, hx506_0⟩ := Kd.at_int HR0.out (ji19) p506 q506
     cases e506
     (try replace hx506_0 := (HB.out.cell (World.block_lt_of_cell? w _ hx506_0)).trans hx506_0)
     replace p506 := eq_true p506
     replace q506 := eq_true q506
     go_wp2
     go_loopg [8] k2 (fun kq v8 w' => ∃ (x8_3 : Int) (x500000_3 : Int) (x500001_3 : Int), v8 = .int .i64 x8_3 ∧ Aside0 (impl_GapClash.l1 kq x4_2 (rd l0 (ji19)) x8_3 = some (r1, r2, r3)) ∧ Aside0 (kq ≤ k2) ∧ Aside0 (Kd.R Kd.bool 4 w' w.heap.size (fun _ => True) v502 x4_2) ∧ Aside0 (w'.heap[gb499]? = some (.cells #[.int .i64 x500000_3, .int .i64 x500001_3] 70 (0, 0))) ∧ Aside0 (Below w.heap.size w w'))
     case atStart => exact ⟨(1), (0), (0), rs_, H', ⟨Nat.le_refl _⟩, ⟨re_ HO_4.out⟩, ⟨be_ BK499.out⟩, ⟨bq_ HB⟩⟩
     case round =>
      clear H'
      try clear c11b0
      try clear c20b0
      try clear c21b0
      try clear hx506_0
      try clear p506
      try clear q506
      obtain ⟨x8_3, x500000_3, x500001_3, rfl, HA, HK3, HO_4, BK499, HB⟩ := hrel
      cases gk with
      | zero => exact absurd HA.out (by simp [impl_GapClash.l1])
      | succ k3 =>
       have H := HA.out
       clear HA
       simp only [impl_GapClash.l1] at H
       by_cases c22 : x8_3 ≤ (rd l0 (ji19))
       rotate_left
       · rw [if_neg c22] at H
         have c22b0 : decide (x8_3 ≤ (rd l0 (ji19))) = false := decide_eq_false c22
         clear c22
         simp only [Option.some.injEq, Prod.mk.injEq] at H
         obtain ⟨rfl, rfl, rfl⟩ := H
         have hcz42_0 : wr.cell? ⟨gb499, 0, none⟩ = some (.int .i64 x500000_3) := (blk_cell BK499.out 0).trans rfl
         have hcz42_1 : wr.cell? ⟨gb499, 1, none⟩ = some (.int .i64 x500001_3) := (blk_cell BK499.out 1).trans rfl
         have hfz42_0 := blk_frozen BK499.out 0
         have hfz42_1 := blk_frozen BK499.out 1
         go_wp2
         refine bodyPost_ret (results_ct rfl _ _ gb499 70 #[.int .i64 0, .int .i64 0] (0, 0) _ rfl (by (with_reducible repeat (first | refine blk_drewN ?_ _ | refine blk_drew ?_ | refine blk_alloc ?_ _)); refine blk_put (cs := #[.int .i64 0, .int .i64 x500001_3]) ?_ 1 _ rfl; (with_reducible repeat (first | refine blk_drewN ?_ _ | refine blk_drew ?_ | refine blk_alloc ?_ _)); refine blk_put (cs := #[.int .i64 x500000_3, .int .i64 x500001_3]) ?_ 0 _ rfl; (with_reducible repeat (first | refine blk_drewN ?_ _ | refine blk_drew ?_ | refine blk_alloc ?_ _)); exact BK499.out) Try.underlying70 rfl (by kernel_rfl)) rfl ?_
         exact ⟨by first | rfl | (simp [errW_none, errW_some] <;> rfl) | (simp only [← hji19]; first | rfl | (simp [errW_none, errW_some] <;> rfl)) | (simp [*, errW_none, errW_some] <;> rfl), bq_ HB⟩
       rw [if_pos c22] at H
       have c22b0 : decide (x8_3 ≤ (rd l0 (ji19))) = true := decide_eq_true c22
       clear c22
       have H' := Aside0.mk H
       clear H
       go_wp2
       go_loopg [9] k3 (fun kq v9 w' => ∃ (x9_4 : Int) (x500000_4 : Int) (x500001_4 : Int), v9 = .int .i64 x9_4 ∧ Aside0 (impl_GapClash.l2 kq x4_2 (rd l0 (ji19)) x8_3 x9_4 = some (r1, r2, r3)) ∧ Aside0 (kq ≤ k3) ∧ Aside0 (Kd.R Kd.bool 4 w' w.heap.size (fun _ => True) v502 x4_2) ∧ Aside0 (w'.heap[gb499]? = some (.cells #[.int .i64 x500000_4, .int .i64 x500001_4] 70 (0, 0))) ∧ Aside0 (Below w.heap.size w w'))
       case atStart => exact ⟨(x8_3), (x500000_3), (x500001_3), rs_, H', ⟨Nat.le_refl _⟩, ⟨re_ HO_4.out⟩, ⟨be_ BK499.out⟩, ⟨bq_ HB⟩⟩
       case round =>
        clear H'
        try clear c22b0
        obtain ⟨x9_4, x500000_4, x500001_4, rfl, HA, HK4, HO_4, BK499, HB⟩ := hrel
        cases gk with
        | zero => exact absurd HA.out (by simp [impl_GapClash.l2])
        | succ k4 =>
         have H := HA.out
         clear HA
         simp only [impl_GapClash.l2] at H
         by_cases c23 : (wrap64 (x8_3 + x9_4)) ≤ (rd l0 (ji19))
         rotate_left
         · rw [if_neg c23] at H
           have c23b0 : decide ((wrap64 (x8_3 + x9_4)) ≤ (rd l0 (ji19))) = false := decide_eq_false c23
           clear c23
           have H' := Aside0.mk H
           clear H
           go_wp2
           go_roundg k4
           case measure => have := HJ1.out; have := HK2.out; have := HK3.out; have := HK4.out; omega
           case rel => exact ⟨(wrap64 (x8_3 + 1)), (x500000_4), (x500001_4), rs_, H', ⟨by have := HJ1.out; have := HK2.out; have := HK3.out; have := HK4.out; omega⟩, ⟨re_ HO_4.out⟩, ⟨be_ BK499.out⟩, ⟨bq_ HB⟩⟩
         rw [if_pos c23] at H
         have c23b0 : decide ((wrap64 (x8_3 + x9_4)) ≤ (rd l0 (ji19))) = true := decide_eq_true c23
         clear c23
         obtain ⟨c24b0, H⟩ := ipd_ H
         obtain ⟨c25b0, H⟩ := ipd_ H
         obtain ⟨bq26, hbq26⟩ : ∃ b_ : Bool, b_ = (rdOf false x4_2 x8_3) := ⟨_, rfl⟩
         replace H : (if bq26 = true then (impl_GapClash.l2 k4 x4_2 (rd l0 (ji19)) x8_3 (wrap64 (x9_4 + 1))) else (if 0 ≤ x9_4 then (if x9_4 < (x4_2.length : Int) then (if rdOf false x4_2 x9_4 = true then (impl_GapClash.l2 k4 x4_2 (rd l0 (ji19)) x8_3 (wrap64 (x9_4 + 1))) else (if 0 ≤ (wrap64 (x8_3 + x9_4)) then (if (wrap64 (x8_3 + x9_4)) < (x4_2.length : Int) then (if rdOf false x4_2 (wrap64 (x8_3 + x9_4)) = true then (some (x8_3, x9_4, true)) else (impl_GapClash.l2 k4 x4_2 (rd l0 (ji19)) x8_3 (wrap64 (x9_4 + 1)))) else (none)) else (none))) else (none)) else (none))) = some (r1, r2, r3) := by rw [← hbq26] at H; exact H
         have Nbq26 := Aside0.mk hbq26
         clear hbq26
         by_cases c27 : bq26 = true
         · subst c27
           rw [if_pos rfl] at H
           have H' := Aside0.mk H
           clear H
           obtain ⟨Ao28, co28, eo28⟩ := Kd.R_slice HO_4.out
           subst eo28
           have p507 : 0 ≤ (x8_3 : Int) := od_
           have q507 : x8_3 < (x4_2.length : Int) := od_
           obtain ⟨ad507, e507, hx507_0⟩ := Kd.at_bool (Kd.R_reads' HO_4.out).2.2 x8_3 p507 q507
           (try rw [← Nbq26.out] at hx507_0)
           cases e507
           replace p507 := eq_true p507
           replace q507 := eq_true q507
           go_wp2
           go_roundg k4
           case measure => have := HJ1.out; have := HK2.out; have := HK3.out; have := HK4.out; omega
           case rel => exact ⟨(wrap64 (x9_4 + 1)), (x500000_4), (x500001_4), rs_, H', ⟨by have := HJ1.out; have := HK2.out; have := HK3.out; have := HK4.out; omega⟩, ⟨re_ HO_4.out⟩, ⟨be_ BK499.out⟩, ⟨bq_ HB⟩⟩
         replace c27 := Bool.eq_false_iff.mpr c27
         subst c27
         rw [if_neg (show ¬ (false = true) by decide)] at H
         obtain ⟨c29b0, H⟩ := ipd_ H
         obtain ⟨c30b0, H⟩ := ipd_ H
         obtain ⟨bq31, hbq31⟩ : ∃ b_ : Bool, b_ = (rdOf false x4_2 x9_4) := ⟨_, rfl⟩
         replace H : (if bq31 = true then (impl_GapClash.l2 k4 x4_2 (rd l0 (ji19)) x8_3 (wrap64 (x9_4 + 1))) else (if 0 ≤ (wrap64 (x8_3 + x9_4)) then (if (wrap64 (x8_3 + x9_4)) < (x4_2.length : Int) then (if rdOf false x4_2 (wrap64 (x8_3 + x9_4)) = true then (some (x8_3, x9_4, true)) else (impl_GapClash.l2 k4 x4_2 (rd l0 (ji19)) x8_3 (wrap64 (x9_4 + 1)))) else (none)) else (none))) = some (r1, r2, r3) := by rw [← hbq31] at H; exact H
         have Nbq31 := Aside0.mk hbq31
         clear hbq31
         by_cases c32 : bq31 = true
         · subst c32
           rw [if_pos rfl] at H
           have H' := Aside0.mk H
           clear H
           obtain ⟨Ao33, co33, eo33⟩ := Kd.R_slice HO_4.out
           subst eo33
           have p507 : 0 ≤ (x8_3 : Int) := od_
           have q507 : x8_3 < (x4_2.length : Int) := od_
           obtain ⟨ad507, e507, hx507_0⟩ := Kd.at_bool (Kd.R_reads' HO_4.out).2.2 x8_3 p507 q507
           (try rw [← Nbq26.out] at hx507_0)
           (try rw [← Nbq31.out] at hx507_0)
           cases e507
           replace p507 := eq_true p507
           replace q507 := eq_true q507
           have p508 : 0 ≤ (x9_4 : Int) := od_
           have q508 : x9_4 < (x4_2.length : Int) := od_
           obtain ⟨ad508, e508, hx508_0⟩ := Kd.at_bool (Kd.R_reads' HO_4.out).2.2 x9_4 p508 q508
           (try rw [← Nbq26.out] at hx508_0)
           (try rw [← Nbq31.out] at hx508_0)
           obtain rfl : ad507 = ad508 := (by injection e508)
           replace p508 := eq_true p508
           replace q508 := eq_true q508
           go_wp2
           go_roundg k4
           case measure => have := HJ1.out; have := HK2.out; have := HK3.out; have := HK4.out; omega
           case rel => exact ⟨(wrap64 (x9_4 + 1)), (x500000_4), (x500001_4), rs_, H', ⟨by have := HJ1.out; have := HK2.out; have := HK3.out; have := HK4.out; omega⟩, ⟨re_ HO_4.out⟩, ⟨be_ BK499.out⟩, ⟨bq_ HB⟩⟩
         replace c32 := Bool.eq_false_iff.mpr c32
         subst c32
         rw [if_neg (show ¬ (false = true) by decide)] at H
         obtain ⟨ji34, hji34⟩ : ∃ j_ : Int, (wrap64 (x8_3 + x9_4)) = j_ := ⟨_, rfl⟩
         replace H : (if 0 ≤ (ji34) then (if (ji34) < (x4_2.length : Int) then (if rdOf false x4_2 (ji34) = true then (some (x8_3, x9_4, true)) else (impl_GapClash.l2 k4 x4_2 (rd l0 (ji19)) x8_3 (wrap64 (x9_4 + 1)))) else (none)) else (none)) = some (r1, r2, r3) := by first | (rw [hji34] at H; exact H) | (simp only [hji34] at H ⊢; exact H)
         (try rw [hji34] at c23b0)
         have hji34w : (IntKind.i64.wrap (x8_3 + x9_4)) = ji34 := (i64_w _).trans hji34
         obtain ⟨c35b0, H⟩ := ipd_ H
         obtain ⟨c36b0, H⟩ := ipd_ H
         obtain ⟨bq37, hbq37⟩ : ∃ b_ : Bool, b_ = (rdOf false x4_2 (ji34)) := ⟨_, rfl⟩
         replace H : (if bq37 = true then (some (x8_3, x9_4, true)) else (impl_GapClash.l2 k4 x4_2 (rd l0 (ji19)) x8_3 (wrap64 (x9_4 + 1)))) = some (r1, r2, r3) := by rw [← hbq37] at H; exact H
         have Nbq37 := Aside0.mk hbq37
         clear hbq37
         by_cases c38 : bq37 = true
         rotate_left
         · replace c38 := Bool.eq_false_iff.mpr c38
           subst c38
           rw [if_neg (show ¬ (false = true) by decide)] at H
           have H' := Aside0.mk H
           clear H
           obtain ⟨Ao41, co41, eo41⟩ := Kd.R_slice HO_4.out
           subst eo41
           have p507 : 0 ≤ (x8_3 : Int) := od_
           have q507 : x8_3 < (x4_2.length : Int) := od_
           obtain ⟨ad507, e507, hx507_0⟩ := Kd.at_bool (Kd.R_reads' HO_4.out).2.2 x8_3 p507 q507
           (try rw [← Nbq26.out] at hx507_0)
           (try rw [← Nbq31.out] at hx507_0)
           (try rw [← Nbq37.out] at hx507_0)
           cases e507
           replace p507 := eq_true p507
           replace q507 := eq_true q507
           have p508 : 0 ≤ (x9_4 : Int) := od_
           have q508 : x9_4 < (x4_2.length : Int) := od_
           obtain ⟨ad508, e508, hx508_0⟩ := Kd.at_bool (Kd.R_reads' HO_4.out).2.2 x9_4 p508 q508
           (try rw [← Nbq26.out] at hx508_0)
           (try rw [← Nbq31.out] at hx508_0)
           (try rw [← Nbq37.out] at hx508_0)
           obtain rfl : ad507 = ad508 := (by injection e508)
           replace p508 := eq_true p508
           replace q508 := eq_true q508
           have p509 : 0 ≤ ((ji34) : Int) := od_
           have q509 : (ji34) < (x4_2.length : Int) := od_
           obtain ⟨ad509, e509, hx509_0⟩ := Kd.at_bool (Kd.R_reads' HO_4.out).2.2 (ji34) p509 q509
           (try rw [← Nbq26.out] at hx509_0)
           (try rw [← Nbq31.out] at hx509_0)
           (try rw [← Nbq37.out] at hx509_0)
           obtain rfl : ad507 = ad509 := (by injection e509)
           replace p509 := eq_true p509
           replace q509 := eq_true q509
           go_wp2
           go_roundg k4
           case measure => have := HJ1.out; have := HK2.out; have := HK3.out; have := HK4.out; omega
           case rel => exact ⟨(wrap64 (x9_4 + 1)), (x500000_4), (x500001_4), rs_, H', ⟨by have := HJ1.out; have := HK2.out; have := HK3.out; have := HK4.out; omega⟩, ⟨re_ HO_4.out⟩, ⟨be_ BK499.out⟩, ⟨bq_ HB⟩⟩
         subst c38
         rw [if_pos rfl] at H
         simp only [Option.some.injEq, Prod.mk.injEq] at H
         obtain ⟨rfl, rfl, rfl⟩ := H
         obtain ⟨Ao39, co39, eo39⟩ := Kd.R_slice HO_4.out
         subst eo39
         have p507 : 0 ≤ (x8_3 : Int) := od_
         have q507 : x8_3 < (x4_2.length : Int) := od_
         obtain ⟨ad507, e507, hx507_0⟩ := Kd.at_bool (Kd.R_reads' HO_4.out).2.2 x8_3 p507 q507
         (try rw [← Nbq26.out] at hx507_0)
         (try rw [← Nbq31.out] at hx507_0)
         (try rw [← Nbq37.out] at hx507_0)
         cases e507
         replace p507 := eq_true p507
         replace q507 := eq_true q507
         have p508 : 0 ≤ (x9_4 : Int) := od_
         have q508 : x9_4 < (x4_2.length : Int) := od_
         obtain ⟨ad508, e508, hx508_0⟩ := Kd.at_bool (Kd.R_reads' HO_4.out).2.2 x9_4 p508 q508
         (try rw [← Nbq26.out] at hx508_0)
         (try rw [← Nbq31.out] at hx508_0)
         (try rw [← Nbq37.out] at hx508_0)
         obtain rfl : ad507 = ad508 := (by injection e508)
         replace p508 := eq_true p508
         replace q508 := eq_true q508
         have p509 : 0 ≤ ((ji34) : Int) := od_
         have q509 : (ji34) < (x4_2.length : Int) := od_
         obtain ⟨ad509, e509, hx509_0⟩ := Kd.at_bool (Kd.R_reads' HO_4.out).2.2 (ji34) p509 q509
         (try rw [← Nbq26.out] at hx509_0)
         (try rw [← Nbq31.out] at hx509_0)
         (try rw [← Nbq37.out] at hx509_0)
         obtain rfl : ad507 = ad509 := (by injection e509)
         replace p509 := eq_true p509
         replace q509 := eq_true q509
         have hcz40_0 : wr.cell? ⟨gb499, 0, none⟩ = some (.int .i64 x500000_4) := (blk_cell BK499.out 0).trans rfl
         have hcz40_1 : wr.cell? ⟨gb499, 1, none⟩ = some (.int .i64 x500001_4) := (blk_cell BK499.out 1).trans rfl
         have hfz40_0 := blk_frozen BK499.out 0
         have hfz40_1 := blk_frozen BK499.out 1
         go_wp2
         refine bodyPost_ret (results_ct rfl _ _ gb499 70 #[.int .i64 x8_3, .int .i64 x9_4] (0, 0) _ rfl (by (with_reducible repeat (first | refine blk_drewN ?_ _ | refine blk_drew ?_ | refine blk_alloc ?_ _)); refine blk_put (cs := #[.int .i64 x8_3, .int .i64 x500001_4]) ?_ 1 _ rfl; (with_reducible repeat (first | refine blk_drewN ?_ _ | refine blk_drew ?_ | refine blk_alloc ?_ _)); refine blk_put (cs := #[.int .i64 x500000_4, .int .i64 x500001_4]) ?_ 0 _ rfl; (with_reducible repeat (first | refine blk_drewN ?_ _ | refine blk_drew ?_ | refine blk_alloc ?_ _)); exact BK499.out) Try.underlying70 rfl (by kernel_rfl)) rfl ?_
         exact ⟨by first | rfl | (simp [errW_none, errW_some] <;> rfl) | (simp only [← hji19, ← hji34]; first | rfl | (simp [errW_none, errW_some] <;> rfl)) | (simp [*, errW_none, errW_some] <;> rfl), bq_ HB⟩
def slices_Equal_int_int.l0 : Nat → List Int → List Int → Int → Int → Option (Bool)
 | 0, _, _, _, _ => none
 | k + 1, x0, x1, x12, x13 => if x13 < x12 then (if 0 ≤ x13 then (if x13 < (x0.length : Int) then (if x13 < (x1.length : Int) then (if (rd x0 x13) = (rd x1 x13) then (slices_Equal_int_int.l0 k x0 x1 x12 (wrap64 (x13 + 1))) else (some false)) else (none)) else (none)) else (none)) else (some true)
def slices_Equal_int_int.f (k : Nat) (l0 : List Int) (l1 : List Int) : Option (Bool) := if (l0.length : Int) = (l1.length : Int) then (slices_Equal_int_int.l0 k l0 l1 (l0.length : Int) 0) else (some false)
theorem slices_Equal_int_int.calls (k : Nat) (A0 : Option Addr) (c0 : Nat) (l0 : List Int) (A1 : Option Addr) (c1 : Nat) (l1 : List Int) (r : Bool) (w : World) (hr0 : Kd.C (Kd.int .i64) w A0 l0.length l0) (hc0 : l0.length ≤ c0) (hr1 : Kd.C (Kd.int .i64) w A1 l1.length l1) (hc1 : l1.length ≤ c1) (h : slices_Equal_int_int.f k l0 l1 = some r) :
 Calls Try.prog 89 #[.slice A0 l0.length c0, .slice A1 l1.length c1] w fun e w' => e = .returned (.bool r) ∧ Drawn0 w w' := by
 have HR0 := Aside0.mk hr0
 have HC0 := Aside0.mk hc0
 clear hr0 hc0
 have HR1 := Aside0.mk hr1
 have HC1 := Aside0.mk hc1
 clear hr1 hc1
 have H := h
 clear h
 unfold slices_Equal_int_int.f at H
 by_cases c3 : (l0.length : Int) = (l1.length : Int)
 rotate_left
 · rw [if_neg c3] at H
   have c3b0 : ((l0.length : Int) == (l1.length : Int)) = false := beq_eq_false_iff_ne.mpr c3
   have c3b1 : ((l0.length : Int) != (l1.length : Int)) = true := bne_iff_ne.mpr c3
   have c3b2 : (l0.length == l1.length) = false := by first | simpa using c3 | (simp at c3 ⊢; omega)
   obtain rfl := Option.some.inj H
   go_enter Try.func89, Try.ntmps89
   go_wp2
   repeat (go_quiet (fail); try go_wp2)
   go_ret
   exact ⟨by first | rfl | (simp; done) | (simp [*]; done), by repeat (first | exact Drawn0.refl _ | apply Drawn0.step)⟩
 rw [if_pos c3] at H
 have c3b0 : ((l0.length : Int) == (l1.length : Int)) = true := beq_iff_eq.mpr c3
 have c3b1 : ((l0.length : Int) != (l1.length : Int)) = false := bne_eq_false_iff_eq.mpr c3
 have c3b2 : (l0.length == l1.length) = true := by first | simpa using c3 | (simp at c3 ⊢; omega)
 clear c3
 have H' := Aside0.mk H
 clear H
 go_enter Try.func89, Try.ntmps89
 go_wp2
 repeat (go_quiet (fail); try go_wp2)
 go_loopg [13] k (fun kq v13 w' => ∃ (x13_1 : Int), v13 = .int .i64 x13_1 ∧ Aside0 (slices_Equal_int_int.l0 kq l0 l1 (l0.length : Int) x13_1 = some r) ∧ Aside0 (kq ≤ k) ∧ Drawn0 w w')
 case atStart => exact ⟨(0), rs_, H', ⟨Nat.le_refl _⟩, by repeat (first | exact Drawn0.refl _ | apply Drawn0.step)⟩
 case round =>
  clear H'
  try clear c1
  try clear c3b0
  try clear c3b1
  try clear c3b2
  obtain ⟨x13_1, rfl, HA, HK1, ⟨m1, rfl⟩⟩ := hrel
  cases gk with
  | zero => exact absurd HA.out (by simp [slices_Equal_int_int.l0])
  | succ k1 =>
   have H := HA.out
   clear HA
   simp only [slices_Equal_int_int.l0] at H
   by_cases c4 : x13_1 < (l0.length : Int)
   rotate_left
   · rw [if_neg c4] at H
     have c4b0 : decide (x13_1 < (l0.length : Int)) = false := decide_eq_false c4
     clear c4
     obtain rfl := Option.some.inj H
     go_wp2
     repeat (go_quiet (fail); try go_wp2)
     go_ret
     exact ⟨by first | rfl | (simp; done) | (simp [*]; done), by repeat (first | exact Drawn0.refl _ | apply Drawn0.step)⟩
   rw [if_pos c4] at H
   have c4b0 : decide (x13_1 < (l0.length : Int)) = true := decide_eq_true c4
   clear c4
   obtain ⟨c5b0, H⟩ := ipd_ H
   obtain ⟨c6b0, H⟩ := ipd_ H
   obtain ⟨c7b0, H⟩ := ipd_ H
   by_cases c8 : (rd l0 x13_1) = (rd l1 x13_1)
   rotate_left
   · rw [if_neg c8] at H
     have c8b0 : ((rd l0 x13_1) == (rd l1 x13_1)) = false := beq_eq_false_iff_ne.mpr c8
     have c8b1 : ((rd l0 x13_1) != (rd l1 x13_1)) = true := bne_iff_ne.mpr c8
     obtain rfl := Option.some.inj H
     have p510 : 0 ≤ (x13_1 : Int) := od_
     have q510 : x13_1 < (l0.length : Int) := od_
     obtain ⟨ad510, e510, hx510_0⟩ := Kd.at_int HR0.out x13_1 p510 q510
     cases e510
     replace p510 := eq_true p510
     replace q510 := eq_true q510
     have p511 : 0 ≤ (x13_1 : Int) := od_
     have q511 : x13_1 < (l1.length : Int) := od_
     obtain ⟨ad511, e511, hx511_0⟩ := Kd.at_int HR1.out x13_1 p511 q511
     cases e511
     replace p511 := eq_true p511
     replace q511 := eq_true q511
     go_wp2
     repeat (go_quiet (fail); try go_wp2)
     go_ret
     exact ⟨by first | rfl | (simp; done) | (simp [*]; done), by repeat (first | exact Drawn0.refl _ | apply Drawn0.step)⟩
   rw [if_pos c8] at H
   have c8b0 : ((rd l0 x13_1) == (rd l1 x13_1)) = true := beq_iff_eq.mpr c8
   have c8b1 : ((rd l0 x13_1) != (rd l1 x13_1)) = false := bne_eq_false_iff_eq.mpr c8
   clear c8
   have H' := Aside0.mk H
   clear H
   have p510 : 0 ≤ (x13_1 : Int) := od_
   have q510 : x13_1 < (l0.length : Int) := od_
   obtain ⟨ad510, e510, hx510_0⟩ := Kd.at_int HR0.out x13_1 p510 q510
   cases e510
   replace p510 := eq_true p510
   replace q510 := eq_true q510
   have p511 : 0 ≤ (x13_1 : Int) := od_
   have q511 : x13_1 < (l1.length : Int) := od_
   obtain ⟨ad511, e511, hx511_0⟩ := Kd.at_int HR1.out x13_1 p511 q511
   cases e511
   replace p511 := eq_true p511
   replace q511 := eq_true q511
   go_wp2
   repeat (go_quiet (fail); try go_wp2)
   go_roundg k1
   case measure => have := HK1.out; omega
   case rel => exact ⟨(wrap64 (x13_1 + 1)), rs_, H', ⟨by have := HK1.out; omega⟩, by repeat (first | exact Drawn0.refl _ | apply Drawn0.step)⟩
end Go.Proofs.Ytonknpgfbkgbjaa.PC
end
