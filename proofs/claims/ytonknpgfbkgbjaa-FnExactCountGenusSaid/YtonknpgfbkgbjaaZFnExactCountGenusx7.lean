-- Bundled by shake.py from this session's printed and written texts; Lean checks it.
import Derived.Below
import Derived.Calls
import Derived.Deep.Draws
import Derived.Shelf.SlSortCmp.NoneTotal
import Derived.Shelf.SlSortCmp.WholeK
import Derived.Sort.Grow
import Derived.Test.YtonknpgfbkgbjaaProg
import Derived.Test.YtonknpgfbkgbjaaZFnExactCountGenusx1
import Derived.Test.YtonknpgfbkgbjaaZFnExactCountGenusx2
import Derived.Test.YtonknpgfbkgbjaaZFnExactCountGenusx3
import Derived.Test.YtonknpgfbkgbjaaZFnExactCountGenusx5
import Derived.Test.YtonknpgfbkgbjaaZFnExactCountGenusx6
import GoSem.Step
section
namespace Go.Proofs.Ytonknpgfbkgbjaa.PB
open Go.RowKit Go.Proofs.YtonknpgfbkgbjaaW.PrintWords Go.Proofs.YtonknpgfbkgbjaaW.PrintLast Go.Proofs.YtonknpgfbkgbjaaW.PrintMore
attribute [local go_sem] max2_int min2_int max_two min_two max_three min_three max_four min_four
set_option linter.unusedVariables false
set_option linter.unusedSimpArgs false
set_option maxHeartbeats 8000000
set_option maxRecDepth 100000
def spec_l19Before.l0 : Nat → List Int → List Int → Int → Option (Bool)
 | 0, _, _, _ => none
 | k + 1, x0, x1, x5 => if x5 < (x0.length : Int) then (if 0 ≤ x5 then (if x5 < (x1.length : Int) then (if (rd x0 x5) = (rd x1 x5) then (spec_l19Before.l0 k x0 x1 (wrap64 (x5 + 1))) else (some (decide ((rd x0 x5) < (rd x1 x5))))) else (none)) else (none)) else (some false)
def spec_l19Before.f (k : Nat) (l0 : List Int) (l1 : List Int) : Option (Bool) := if (l0.length : Int) = (l1.length : Int) then (spec_l19Before.l0 k l0 l1 0) else (some (decide ((l0.length : Int) < (l1.length : Int))))
theorem spec_l19Before.calls (k : Nat) (A0 : Option Addr) (c0 : Nat) (l0 : List Int) (A1 : Option Addr) (c1 : Nat) (l1 : List Int) (r : Bool) (w : World) (hr0 : Kd.C (Kd.int .i64) w A0 l0.length l0) (hc0 : l0.length ≤ c0) (hr1 : Kd.C (Kd.int .i64) w A1 l1.length l1) (hc1 : l1.length ≤ c1) (h : spec_l19Before.f k l0 l1 = some r) :
 Calls Try.prog 73 #[.slice A0 l0.length c0, .slice A1 l1.length c1] w fun e w' => e = .returned (.bool r) ∧ Drawn0 w w' := by
 have HR0 := Aside0.mk hr0
 have HC0 := Aside0.mk hc0
 clear hr0 hc0
 have HR1 := Aside0.mk hr1
 have HC1 := Aside0.mk hc1
 clear hr1 hc1
 have H := h
 clear h
 unfold spec_l19Before.f at H
 by_cases c3 : (l0.length : Int) = (l1.length : Int)
 rotate_left
 · rw [if_neg c3] at H
   have c3b0 : ((l0.length : Int) == (l1.length : Int)) = false := beq_eq_false_iff_ne.mpr c3
   have c3b1 : ((l0.length : Int) != (l1.length : Int)) = true := bne_iff_ne.mpr c3
   have c3b2 : (l0.length == l1.length) = false := by first | simpa using c3 | (simp at c3 ⊢; omega)
   obtain rfl := Option.some.inj H
   go_enter Try.func73, Try.ntmps73
   go_wp2
   repeat (go_quiet (fail); try go_wp2)
   go_ret
   exact ⟨by first | rfl | (simp; done) | (simp [*]; done), by repeat (first | exact Drawn0.refl _ | apply Drawn0.step)⟩
 rw [if_pos c3] at H
 have c3b0 : ((l0.length : Int) == (l1.length : Int)) = true := beq_iff_eq.mpr c3
 have c3b1 : ((l0.length : Int) != (l1.length : Int)) = false := bne_eq_false_iff_eq.mpr c3
 have c3b2 : (l0.length == l1.length) = true := by first | simpa using c3 | (simp at c3 ⊢; omega)
 clear c3
 have H' := Aside0.mk H
 clear H
 go_enter Try.func73, Try.ntmps73
 go_wp2
 repeat (go_quiet (fail); try go_wp2)
 go_loopg [5] k (fun kq v5 w' => ∃ (x5_1 : Int), v5 = .int .i64 x5_1 ∧ Aside0 (spec_l19Before.l0 kq l0 l1 x5_1 = some r) ∧ Aside0 (kq ≤ k) ∧ Drawn0 w w')
 case atStart => exact ⟨(0), rs_, H', ⟨Nat.le_refl _⟩, by repeat (first | exact Drawn0.refl _ | apply Drawn0.step)⟩
 case round =>
  clear H'
  try clear c1
  try clear c3b0
  try clear c3b1
  try clear c3b2
  obtain ⟨x5_1, rfl, HA, HK1, ⟨m1, rfl⟩⟩ := hrel
  cases gk with
  | zero => exact absurd HA.out (by simp [spec_l19Before.l0])
  | succ k1 =>
   have H := HA.out
   clear HA
   simp only [spec_l19Before.l0] at H
   by_cases c4 : x5_1 < (l0.length : Int)
   rotate_left
   · rw [if_neg c4] at H
     have c4b0 : decide (x5_1 < (l0.length : Int)) = false := decide_eq_false c4
     clear c4
     obtain rfl := Option.some.inj H
     go_wp2
     repeat (go_quiet (fail); try go_wp2)
     go_ret
     exact ⟨by first | rfl | (simp; done) | (simp [*]; done), by repeat (first | exact Drawn0.refl _ | apply Drawn0.step)⟩
   rw [if_pos c4] at H
   have c4b0 : decide (x5_1 < (l0.length : Int)) = true := decide_eq_true c4
   clear c4
   obtain ⟨c5b0, H⟩ := ipd_ H
   obtain ⟨c6b0, H⟩ := ipd_ H
   by_cases c7 : (rd l0 x5_1) = (rd l1 x5_1)
   · rw [if_pos c7] at H
     have c7b0 : ((rd l0 x5_1) == (rd l1 x5_1)) = true := beq_iff_eq.mpr c7
     have c7b1 : ((rd l0 x5_1) != (rd l1 x5_1)) = false := bne_eq_false_iff_eq.mpr c7
     clear c7
     have H' := Aside0.mk H
     clear H
     have p414 : 0 ≤ (x5_1 : Int) := od_
     have q414 : x5_1 < (l0.length : Int) := od_
     obtain ⟨ad414, e414, hx414_0⟩ := Kd.at_int HR0.out x5_1 p414 q414
     cases e414
     replace p414 := eq_true p414
     replace q414 := eq_true q414
     have p415 : 0 ≤ (x5_1 : Int) := od_
     have q415 : x5_1 < (l1.length : Int) := od_
     obtain ⟨ad415, e415, hx415_0⟩ := Kd.at_int HR1.out x5_1 p415 q415
     cases e415
     replace p415 := eq_true p415
     replace q415 := eq_true q415
     go_wp2
     repeat (go_quiet (fail); try go_wp2)
     go_roundg k1
     case measure => have := HK1.out; omega
     case rel => exact ⟨(wrap64 (x5_1 + 1)), rs_, H', ⟨by have := HK1.out; omega⟩, by repeat (first | exact Drawn0.refl _ | apply Drawn0.step)⟩
   rw [if_neg c7] at H
   have c7b0 : ((rd l0 x5_1) == (rd l1 x5_1)) = false := beq_eq_false_iff_ne.mpr c7
   have c7b1 : ((rd l0 x5_1) != (rd l1 x5_1)) = true := bne_iff_ne.mpr c7
   obtain rfl := Option.some.inj H
   have p414 : 0 ≤ (x5_1 : Int) := od_
   have q414 : x5_1 < (l0.length : Int) := od_
   obtain ⟨ad414, e414, hx414_0⟩ := Kd.at_int HR0.out x5_1 p414 q414
   cases e414
   replace p414 := eq_true p414
   replace q414 := eq_true q414
   have p415 : 0 ≤ (x5_1 : Int) := od_
   have q415 : x5_1 < (l1.length : Int) := od_
   obtain ⟨ad415, e415, hx415_0⟩ := Kd.at_int HR1.out x5_1 p415 q415
   cases e415
   replace p415 := eq_true p415
   replace q415 := eq_true q415
   have p416 : 0 ≤ (x5_1 : Int) := od_
   have q416 : x5_1 < (l0.length : Int) := od_
   obtain ⟨ad416, e416, hx416_0⟩ := Kd.at_int HR0.out x5_1 p416 q416
   obtain rfl : ad414 = ad416 := (by injection e416)
   replace p416 := eq_true p416
   replace q416 := eq_true q416
   have p417 : 0 ≤ (x5_1 : Int) := od_
   have q417 : x5_1 < (l1.length : Int) := od_
   obtain ⟨ad417, e417, hx417_0⟩ := Kd.at_int HR1.out x5_1 p417 q417
   obtain rfl : ad415 = ad417 := (by injection e417)
   replace p417 := eq_true p417
   replace q417 := eq_true q417
   go_wp2
   repeat (go_quiet (fail); try go_wp2)
   go_ret
   exact ⟨by first | rfl | (simp; done) | (simp [*]; done), by repeat (first | exact Drawn0.refl _ | apply Drawn0.step)⟩
def spec_l19Put.l0 : Nat → List (S26) → List Int → Int → Option (Int)
 | 0, _, _, _ => none
 | k + 1, x0, x5, x6 => if x6 < (x0.length : Int) then (if 0 ≤ x6 then ((spec_l4Gaps.f k ((rd_T26 x0 x6).f0)).bind fun t426 => ((spec_l19Before.f k t426 x5).bind fun t429 => (if t429 = true then (spec_l19Put.l0 k x0 x5 (wrap64 (x6 + 1))) else (if x6 ≤ (x0.length : Int) then (if (([] : List (S26))).length + (x0.drop (x6 : Int).toNat).length < 5864062014805 then (some x6) else (none)) else (none))))) else (none)) else (if 0 ≤ x6 then (if x6 ≤ (x0.length : Int) then (if (([] : List (S26))).length + (x0.drop (x6 : Int).toNat).length < 5864062014805 then (some x6) else (none)) else (none)) else (none))
def spec_l19Put.f (k : Nat) (l0 : List (S26)) (l1_0 : List Int) : Option (Int) := (spec_l4Gaps.f k l1_0).bind fun t422 => (spec_l19Put.l0 k l0 t422 0)
theorem f_none_ {α : Type} (d : Kd α) (W : World) (ok : Nat → Prop) (A : Option Addr) : Kd.F d W ok A ([] : List α).length [] := fun _ _ => ⟨rfl, Nat.zero_le _, fun h => absurd h (Nat.lt_irrefl _)⟩
theorem put_ne_ {W : World} {g : Nat} {u v : Value} (h : v.ownBlock = u.ownBlock ∨ ∃ b, v.ownBlock = some b ∧ W.heap.size ≤ b) (hu : some g ≠ u.ownBlock) (hg : g < W.heap.size) : some g ≠ v.ownBlock := by
 rcases h with h | ⟨b, hb, hle⟩
 · rw [h]; exact hu
 · rw [hb]; intro e; injection e with e; omega
theorem put_end_ {w W7 w40 w41 w42 : World} {u v41 v42 : Value} (h1 : Below w.heap.size w W7) (h2 : Below W7.heap.size W7 w40) (h3 : w40.grownBy w41 u.ownBlock) (h4 : v41.ownBlock = u.ownBlock ∨ ∃ b, v41.ownBlock = some b ∧ w40.heap.size ≤ b) (h5 : w41.grownBy w42 v41.ownBlock) (h6 : v42.ownBlock = v41.ownBlock ∨ ∃ b, v42.ownBlock = some b ∧ w41.heap.size ≤ b) : w.grownBy w42 u.ownBlock ∧ (v42.ownBlock = u.ownBlock ∨ ∃ b, v42.ownBlock = some b ∧ w.heap.size ≤ b) := by
 have s1 := h1.size
 have s2 := h2.size
 have s3 := h3.size
 have s4 := h5.size
 refine ⟨⟨h5.os.trans (h3.os.trans (h2.os.trans h1.os)), h5.tape.trans (h3.tape.trans (h2.tape.trans h1.tape)), h5.output.trans (h3.output.trans (h2.output.trans h1.output)), by omega, fun k hk hne => ?_⟩, ?_⟩
 · have n41 : some k ≠ v41.ownBlock := put_ne_ h4 hne (by omega)
   exact (h5.block k (by omega) n41).trans ((h3.block k (by omega) hne).trans ((h2.block k (by omega)).trans (h1.block k hk)))
 · rcases h6 with h6 | ⟨b, hb, hle⟩
   · rcases h4 with h4 | ⟨b, hb, hle⟩
     · exact .inl (h6.trans h4)
     · exact .inr ⟨b, h6.trans hb, by omega⟩
   · exact .inr ⟨b, hb, by omega⟩
theorem spec_l19Put.calls (k : Nat) (base : Nat) (P0_ : Nat → Prop) (u : Value) (l0 : List (S26)) (A1_0 : Option Addr) (c1_0 : Nat) (l1_0 t_ : List Int) (r : Int) (wb w : World) (hBb : Below base wb w) (hbase : base ≤ w.heap.size) (hfresh : ∀ k, w.heap.size ≤ k → P0_ k) (hN : Kd.N k26 26 w base P0_ u l0) (hr1_0 : Kd.C (Kd.int .i64) w A1_0 l1_0.length l1_0) (hc1_0 : l1_0.length ≤ c1_0) (hlen : l0.length < 5864062014805) (hcp : spec_l3Copy.f l1_0 = some t_) (h : spec_l19Put.f k l0 l1_0 = some r) (hr_ : r = (l0.length : Int)) :
 Calls Try.prog 43 #[u, .agg #[.slice A1_0 l1_0.length c1_0]] w fun e w' => ∃ v1 : Value, e = .returned v1 ∧ Kd.N k26 26 w' base P0_ v1 (l0 ++ [(⟨t_⟩ : S26)]) ∧ Below base wb w' ∧ w.grownBy w' u.ownBlock ∧ (v1.ownBlock = u.ownBlock ∨ ∃ b, v1.ownBlock = some b ∧ w.heap.size ≤ b) := by
 obtain ⟨A0, c0, eu_⟩ := Kd.N_slice hN
 subst eu_
 have hs0 : Kd.V k26 26 w w.heap.size (fun k_ => P0_ k_) (.slice A0 l0.length c0) l0 := Kd.V_mk (Kd.N_reads' hN).2.1 (Kd.N_F hN)
 have HN_ := Aside0.mk hN
 have HF_ := Aside0.mk hfresh
 have HBb_ := Aside0.mk hBb
 have HBs_ := Aside0.mk hbase
 have HL_ := Aside0.mk hlen
 have HCP_ := Aside0.mk hcp
 have HR_ := Aside0.mk hr_
 clear hN hfresh hBb hbase hlen hcp hr_
 have hu26 := Try.underlying26
 have HO0 := Aside0.mk (show Kd.V k26 26 w w.heap.size (fun k_ => (P0_ k_ ∨ w.heap.size ≤ k_)) (.slice A0 l0.length c0) l0 from Kd.V_mono hs0 (fun k_ hk => .inl hk))
 have HR1_0 := Aside0.mk hr1_0
 have HC1_0 := Aside0.mk hc1_0
 clear hr1_0 hc1_0
 have HB := Aside0.mk (Below.refl w.heap.size w)
 have H := h
 clear h
 unfold spec_l19Put.f at H
 obtain ⟨t422, A3, H⟩ := ob_ H
 have H' := Aside0.mk H
 clear H
 go_enter Try.func43, Try.ntmps43
 go_wp2_with (first | ((with_reducible refine gate_dst (N := 3) rfl ?_); refine bx_ 3 #[.slice A1_0 l1_0.length c1_0] 26 ?_; intro gb421 hg w4 hbox hb; replace HO0 := Aside0.mk (Kd.V_below (Kd.V_elderB (by (with_reducible repeat (first | apply Kd.V_alloc | apply Kd.V_drewN | apply Kd.V_drew)); exact HO0.out) gb421 (Nat.le_of_eq hg.symm)) hb); have BK421 := Aside0.mk (hbox); have GW421 := gw_ hg HB; have GE421 := gw_ hg HB; replace HB := bo_ HB hb; clear hb hbox hg; have hcz5_0 := cz_ BK421; have hfz5_0 := blk_frozen BK421.out 0) | ((with_reducible refine gate_callee (f := 54) rfl ?_); refine gL_ (some 9) Try.func54 #[.agg #[.slice A1_0 l1_0.length c1_0]] ?_; (with_reducible refine (spec_l4Gaps.calls k _ _ l1_0 t422 _ ?side1 ?side2 A3.out).mono ?_); (case side1 => exact ch_ HR1_0 HB); (case side2 => exact HC1_0.out); rintro e w6 ⟨v423, rfl, ho0, hb⟩; refine ⟨_, rfl, ?_⟩; replace HO0 := Aside0.mk (Kd.V_elder' (by (with_reducible repeat (first | apply Kd.V_alloc | apply Kd.V_drewN | apply Kd.V_drew)); exact HO0.out) (Kd.R_base ho0) hb); have HO424 := Aside0.mk (Kd.R_lower (Kd.R_newM (M := fun k_ => (w.heap.size ≤ k_)) ho0 (below_size (bq_ HB)) (fun k_ h_ => h_)) (below_size (bq_ HB))); replace BK421 := bk_ BK421 hb; replace HB := bp_ HB hb; (try clear hb); (try clear ho0)))
 go_loopg [6] k (fun kq v6 w' => ∃ (x6_1 : Int), v6 = .int .i64 x6_1 ∧ Aside0 (spec_l19Put.l0 kq l0 t422 x6_1 = some r) ∧ Aside0 (kq ≤ k) ∧ Aside0 (Kd.V k26 26 w' w.heap.size (fun k_ => (P0_ k_ ∨ w.heap.size ≤ k_) ∧ some k_ ≠ (v423 : Value).ownBlock ∧ k_ ≠ gb421) (.slice A0 l0.length c0) l0) ∧ Aside0 (Kd.R (Kd.int .i64) 3 w' w.heap.size (fun k_ => (w.heap.size ≤ k_)) v423 t422) ∧ Aside0 (w'.heap[gb421]? = some (.cells #[(.slice A1_0 l1_0.length c1_0)] 26 (0, 0))) ∧ Aside0 (Below w.heap.size w w'))
 case atStart => exact ⟨(0), rs_, H', ⟨Nat.le_refl _⟩, ⟨by (with_reducible repeat (first | apply Kd.V_alloc | apply Kd.V_drewN | apply Kd.V_drew)); exact Kd.V_mono HO0.out (fun _ hk => ⟨hk.1.1, ⟨hk.2, hk.1.2⟩⟩)⟩, ⟨by (with_reducible repeat (first | apply Kd.R_alloc | apply Kd.R_drewN | apply Kd.R_drew)); exact Kd.R_mono HO424.out (fun _ hk => hk.1)⟩, ⟨be_ BK421.out⟩, ⟨bq_ HB⟩⟩
 case round =>
  clear H'
  try clear hcz5_0
  try clear hfz5_0
  obtain ⟨x6_1, rfl, HA, HK1, HO_0, HO_5, BK421, HB⟩ := hrel
  cases gk with
  | zero => exact absurd HA.out (by simp [spec_l19Put.l0])
  | succ k1 =>
   have H := HA.out
   clear HA
   simp only [spec_l19Put.l0] at H
   by_cases c7 : x6_1 < (l0.length : Int)
   · rw [if_pos c7] at H
     have c7b0 : decide (x6_1 < (l0.length : Int)) = true := decide_eq_true c7
     clear c7
     obtain ⟨c8b0, H⟩ := ipd_ H
     obtain ⟨t426, A9, H⟩ := ob_ H
     obtain ⟨t429, A10, H⟩ := ob_ H
     by_cases c11 : t429 = true
     rotate_left
     · exfalso
       rw [if_neg c11] at H
       have c7c : x6_1 < (l0.length : Int) := of_decide_eq_true c7b0
       have hr2 := HR_.out
       repeat' split at H
       all_goals first | (injection H with H; omega) | cases H
     subst c11
     rw [if_pos rfl] at H
     have H' := Aside0.mk H
     clear H
     have p425 : 0 ≤ (x6_1 : Int) := od_
     have q425 : x6_1 < (l0.length : Int) := od_
     obtain ⟨ad425, A425_0, c425_0, e425, hx425_0, hl425_0, hi425_0⟩ := at_T26 (Kd.V_reads' HO_0.out).2.2 x6_1 p425 q425
     cases e425
     obtain ⟨ce425, hce425, hMe425, hcc425⟩ := Kd.V_get HO_0.out z26 x6_1 p425 (by first | exact q425 | exact od_ | (have e_ := (Kd.V_reads' HO_0.out).1; omega))
     obtain ⟨ua425_0, uc425_0, rfl, ul425_0, ge425_0⟩ := k26_openF hMe425
     have hv425_0 := hcc425 0 _ rfl
     rw [Nat.add_zero, show (k26).sz = 1 from rfl, Nat.mul_one] at hv425_0
     replace hv425_0 := Option.some.inj (hv425_0.symm.trans hx425_0)
     injection hv425_0 with hva_ hvn_ hvc_
     rw [hva_] at ge425_0
     rw [hvc_] at ul425_0
     have HL425_0 := Aside0.mk (show Kd.V (Kd.int .i64) 3 _ w.heap.size _ _ ((rd_T26 l0 x6_1).f0) from Kd.V_mk ul425_0 ge425_0)
     clear hva_ hvn_ hvc_ ge425_0 ul425_0
     clear hcc425 hce425
     have HR425_0 := Aside0.mk hi425_0
     have HC425_0 := Aside0.mk hl425_0
     clear hi425_0 hl425_0
     replace p425 := eq_true p425
     replace q425 := eq_true q425
     go_wp2_with (first | (go_at_call 54; (with_reducible refine (spec_l4Gaps.calls k1 _ _ ((rd_T26 l0 x6_1).f0) t426 _ ?side1 ?side2 A9.out).mono ?_); (case side1 => repeat (first | exact (by repeat (first | (with_reducible exact HR425_0.out) | (with_reducible refine Kd.C_alloc ?_ _) | (with_reducible refine Kd.C_drewN ?_ _) | (with_reducible refine Kd.C_drew ?_) | exact HR425_0.out)) | (with_reducible refine Kd.C_alloc ?_ _) | (with_reducible refine Kd.C_drewN ?_ _) | (with_reducible refine Kd.C_drew ?_))); (case side2 => exact HC425_0.out); rintro e w12 ⟨v427, rfl, ho0, hb⟩; replace HO_0 := Aside0.mk (Kd.V_elder' (by (with_reducible repeat (first | apply Kd.V_alloc | apply Kd.V_drewN | apply Kd.V_drew)); exact HO_0.out) (Kd.R_base ho0) hb); replace HL425_0 := Aside0.mk (Kd.V_elder' (by (with_reducible repeat (first | apply Kd.V_alloc | apply Kd.V_drewN | apply Kd.V_drew)); exact HL425_0.out) (Kd.R_base ho0) hb); have HO428 := Aside0.mk (Kd.R_lower (Kd.R_new' (Kd.R_newM (M := fun k_ => (w.heap.size ≤ k_)) ho0 (below_size (bq_ HB)) (fun k_ h_ => h_)) (Kd.R_lt (re_ HO_5.out))) (below_size (bq_ HB))); replace HO_5 := Aside0.mk (Kd.R_elder' (re_ HO_5.out) (Kd.R_base ho0) hb); replace BK421 := bk_ BK421 hb; replace HR425_0 := Aside0.mk (Kd.C_below (by repeat (first | (with_reducible exact HR425_0.out) | (with_reducible refine Kd.C_alloc ?_ _) | (with_reducible refine Kd.C_drewN ?_ _) | (with_reducible refine Kd.C_drew ?_) | exact HR425_0.out)) hb); replace HB := bp_ HB hb; (try clear hb); (try clear ho0); obtain ⟨Ao13, co13, eo13⟩ := Kd.R_slice HO428.out; subst eo13; obtain ⟨Ao14, co14, eo14⟩ := Kd.R_slice HO_5.out; subst eo14) | (go_at_call 73; (with_reducible refine (spec_l19Before.calls k1 _ _ t426 _ _ t422 true _ ?side1 ?side2 ?side3 ?side4 A10.out).mono ?_); (case side1 => exact ce_ ((Kd.R_reads' HO428.out).2.2)); (case side2 => exact (Kd.R_reads' HO428.out).2.1); (case side3 => exact ce_ ((Kd.R_reads' HO_5.out).2.2)); (case side4 => exact (Kd.R_reads' HO_5.out).2.1); rintro e w' ⟨rfl, ⟨nd, rfl⟩⟩))
     go_roundg k1
     case measure => have := HK1.out; omega
     case rel => exact ⟨(wrap64 (x6_1 + 1)), rs_, H', ⟨by have := HK1.out; omega⟩, ⟨by (with_reducible repeat (first | apply Kd.V_alloc | apply Kd.V_drewN | apply Kd.V_drew)); exact Kd.V_mono HO_0.out (fun _ hk => ⟨hk.1.1, ⟨hk.1.2.1, hk.1.2.2⟩⟩)⟩, ⟨by (with_reducible repeat (first | apply Kd.R_alloc | apply Kd.R_drewN | apply Kd.R_drew)); exact Kd.R_mono HO_5.out (fun _ hk => hk.1)⟩, ⟨be_ BK421.out⟩, ⟨bq_ HB⟩⟩
   rw [if_neg c7] at H
   have c7b0 : decide (x6_1 < (l0.length : Int)) = false := decide_eq_false c7
   clear c7
   obtain ⟨y441, hy441⟩ : ∃ y_ : List (S26), y_ = (([] : List (S26))) := ⟨_, rfl⟩
   replace H : (if 0 ≤ x6_1 then (if x6_1 ≤ (l0.length : Int) then (if y441.length + (l0.drop (x6_1 : Int).toNat).length < 5864062014805 then (some x6_1) else (none)) else (none)) else (none)) = some r := by subst hy441; exact H
   have Ny441 := Aside0.mk hy441
   clear hy441
   obtain ⟨c25, H⟩ := ip_ H
   have c25b0 := eq_true c25
   have c25b1 : decide (0 ≤ x6_1) = true := decide_eq_true c25
   clear c25
   obtain ⟨c26, H⟩ := ip_ H
   have c26b0 := eq_true c26
   have c26b1 : decide (x6_1 ≤ (l0.length : Int)) = true := decide_eq_true c26
   clear c26
   obtain ⟨y444, hy444⟩ : ∃ y_ : List (S26), y_ = (l0.drop (x6_1 : Int).toNat) := ⟨_, rfl⟩
   replace H : (if y441.length + y444.length < 5864062014805 then (some x6_1) else (none)) = some r := by subst hy444; exact H
   have Ny444 := Aside0.mk hy444
   clear hy444
   obtain ⟨c27, H⟩ := ip_ H
   have LMc27 := Aside0.mk c27
   clear c27
   obtain ⟨y449, hy449⟩ : ∃ y_ : List (S26), y_ = (y441 ++ y444) := ⟨_, rfl⟩
   replace H : (some x6_1) = some r := by subst hy449; exact H
   have Ny449 := Aside0.mk hy449
   clear hy449
   obtain rfl := Option.some.inj H
   go_wp2
   go_quiet (fail)
   go_wp2_with (first | ((with_reducible refine gate_dst (N := 38) rfl ?_); refine Kd.N_lit k26 _ 26 ?hg (N' := 38) ?hd (xs := ([] : List (S26))) (inner := []) (ok := (fun k_ => (P0_ k_ ∨ w.heap.size ≤ k_) ∧ some k_ ≠ (v423 : Value).ownBlock ∧ k_ ≠ gb421)) (okp := (fun k_ => (P0_ k_ ∨ w.heap.size ≤ k_) ∧ some k_ ≠ (v423 : Value).ownBlock ∧ k_ ≠ gb421)) ?hr ?hp (fun _ hk => hk) ((show ∀ k_, wr.heap.size ≤ k_ → (fun k_ => (P0_ k_ ∨ w.heap.size ≤ k_) ∧ some k_ ≠ (v423 : Value).ownBlock ∧ k_ ≠ gb421) k_ from fun k_ hk => ⟨(.inr (Nat.le_trans (below_size (bq_ HB)) hk)), Kd.fresh' (Kd.R_lt (re_ HO_5.out)) k_ hk, Kd.freshB (g := gb421) (o := .cells #[.slice A1_0 l1_0.length c1_0] 26 (0, 0)) (be_ BK421.out) k_ hk⟩) _ (Nat.le_refl _)) (Below.refl _ _) (Nat.le_refl _) (by simp) ?_; (case hd => rfl); (case hg => rfl); (case hr => first | (go_simp; done) | (go_simp; rfl)); (case hp => exact (Reps.none _ _)); intro v442 w28 ho29 hb hg_ hnew_; clear hg_ hnew_; (first | rw [← Ny441.out] at ho29 | (simp only [Int.reduceToNat] at ho29; rw [← Ny441.out] at ho29)); replace HO_0 := Aside0.mk (Kd.V_elder' (by (with_reducible repeat (first | apply Kd.V_alloc | apply Kd.V_drewN | apply Kd.V_drew)); exact HO_0.out) (Kd.N_base ho29) hb); replace HO_5 := Aside0.mk (Kd.R_below (re_ HO_5.out) hb); have HO443 := Aside0.mk (Kd.N_lower ho29 (below_size (bq_ HB))); replace BK421 := bk_ BK421 hb; replace HB := bp_ HB hb; clear hb ho29; have q30 : (x6_1 : Int) ≤ ((l0.length : Int) : Int) := od_; obtain ⟨i030, hi030, _, hsz30, _⟩ := info_parts info26; have hroom30 : l0.length ≤ c0 := (Kd.V_reads' HO_0.out).2.1; have hC30 : Kd.F k26 _ _ A0 l0.length l0 := (Kd.V_at (base := w.heap.size) HO_0.out).2.2; have q030 : (0 : Int) ≤ (x6_1 : Int) := od_; have hcut30 := cut_from (P := Try.prog) 29 26 .i64 Try.underlying29 hi030 1 hsz30 A0 l0.length c0 x6_1 q030 q30; have hr30 := Kd.F_cut (m := (x6_1 : Int).toNat) (c := c0) hC30 (by omega) hroom30; obtain ⟨A30, hA30⟩ : ∃ A1, A1 = (if c0 = (x6_1 : Int).toNat then A0 else (A0 : Option Addr).map (·.add ((x6_1 : Int).toNat * 1))) := ⟨_, rfl⟩; obtain ⟨c30, hc30⟩ : ∃ c1, c1 = c0 - (x6_1 : Int).toNat := ⟨_, rfl⟩; have hy30 : y444.length = l0.length - (x6_1 : Int).toNat := (by rw [Ny444.out, List.length_drop] <;> omega); rw [show (l0).drop (x6_1 : Int).toNat = y444 from Ny444.out.symm] at hr30; replace hr30 : Kd.F k26 _ _ A30 y444.length y444 := (by rw [hA30]; exact hr30); rw [← hy30, ← hA30, ← hc30] at hcut30; have HO448 := Aside0.mk (show Kd.V k26 26 _ w.heap.size _ (.slice A30 y444.length c30) y444 from Kd.V_mk (by rw [hy30, hc30]; exact Nat.sub_le_sub_right hroom30 _) hr30); have HC448 := Aside0.mk (show y444.length ≤ c30 from by rw [hy30, hc30]; exact Nat.sub_le_sub_right hroom30 _); clear hr30 hC30 hroom30 hi030 hsz30 hc30; have KY30 := Aside0.mk hy30; have KA30 := Aside0.mk hA30; clear hy30 hA30; replace q30 := eq_true q30) | ((with_reducible refine gate_builtin (b := .append) (xs := #[.tmp 38, .tmp 41]) rfl ?_); at_builtin; refine Kd.N_append_rows k26 (w0 := w) w.heap.size rfl (.tmp 38) (.tmp 41) 29 26 (.agg #[(.slice none 0 0)]) 24 rfl Try.underlying29 info26 rfl (by decide) (by omega) v442 y441 y444 _ _ _ (fun k_ => (P0_ k_ ∨ w.heap.size ≤ k_) ∧ some k_ ≠ (v423 : Value).ownBlock ∧ k_ ≠ gb421) (fun k_ => ((fun k_ => (P0_ k_ ∨ w.heap.size ≤ k_) ∧ some k_ ≠ (v423 : Value).ownBlock ∧ k_ ≠ gb421)) k_ ∧ some k_ ≠ (v442 : Value).ownBlock) rfl rfl ?aO ?aR (fun _ hk => hk) ?aF ?aB ?aS ?aL ?_; (case aR => exact (by skip; exact Kd.V_F (Kd.V_mono (ok' := (fun k_ => ((fun k_ => (P0_ k_ ∨ w.heap.size ≤ k_) ∧ some k_ ≠ (v423 : Value).ownBlock ∧ k_ ≠ gb421)) k_ ∧ some k_ ≠ (v442 : Value).ownBlock)) (HO448.out) (fun k_ hk => ⟨⟨hk.1.1, ⟨hk.1.2.1, hk.1.2.2⟩⟩, hk.2⟩)))); (case aB => exact (bq_ HB)); (case aF => exact (fun k_ hk => ⟨(.inr (Nat.le_trans (below_size (bq_ HB)) hk)), Kd.fresh' (Kd.R_lt (re_ HO_5.out)) k_ hk, Kd.freshB (g := gb421) (o := .cells #[.slice A1_0 l1_0.length c1_0] 26 (0, 0)) (be_ BK421.out) k_ hk⟩)); (case aO => exact (by (with_reducible repeat (first | apply Kd.N_alloc | apply Kd.N_drewN | apply Kd.N_drew)); exact HO443.out)); (case aS => exact (below_size (bq_ HB))); (case aL => have := LMc27.out; omega); intro v450 w31 ho hb hg hat; rw [← Ny449.out] at ho; replace HO_0 := Aside0.mk (Kd.V_afterv (ok := (fun k_ => (P0_ k_ ∨ w.heap.size ≤ k_) ∧ some k_ ≠ (v423 : Value).ownBlock ∧ k_ ≠ gb421)) (by (with_reducible repeat (first | apply Kd.V_alloc | apply Kd.V_drewN | apply Kd.V_drew)); exact HO_0.out) hg hat); replace HO_5 := Aside0.mk (Kd.R_over' (re_ HO_5.out) (Kd.N_typed (by (with_reducible repeat (first | apply Kd.N_alloc | apply Kd.N_drewN | apply Kd.N_drew)); exact HO443.out)) (by decide) hg); replace BK421 := Aside0.mk (blk_grown (be_ BK421.out) hg (Kd.N_away HO443.out (fun _ hk => hk.2.2))); replace HO448 := Aside0.mk (Kd.V_afterv (ok := (fun k_ => (P0_ k_ ∨ w.heap.size ≤ k_) ∧ some k_ ≠ (v423 : Value).ownBlock ∧ k_ ≠ gb421)) (by (with_reducible repeat (first | apply Kd.V_alloc | apply Kd.V_drewN | apply Kd.V_drew)); exact HO448.out) hg hat); replace HB := Aside0.mk (hb); have HO451 := Aside0.mk (ho); clear HO443; clear ho hb hg hat))
   have HON_ := Aside0.mk (Kd.N_below HN_.out HB.out)
   have HBw_ := Aside0.mk ((HBb_.out.trans (HB.out.mono HBs_.out)).drew)
   have HBx_ := Aside0.mk (Nat.le_trans HBs_.out (below_size HB.out))
   have HFx_ := Aside0.mk (show ∀ k, w31.heap.size ≤ k → P0_ k from fun k hk => HF_.out k (Nat.le_trans (below_size HB.out) hk))
   have HU_ := Aside0.mk (show ∀ k, w.heap.size ≤ k → some k ≠ (Value.slice A0 l0.length c0).ownBlock from fun k hk e => absurd (Kd.N_lt HN_.out k e.symm) (Nat.not_lt.2 hk))
   have y0_ : y449 = [] := by
    rw [Ny449.out, Ny444.out, Ny441.out, HR_.out]
    simp
   obtain ⟨A7_, c7_, e7_⟩ := Kd.N_slice HO451.out
   subst e7_
   have hcut8_ : ∀ W : World, (Instr.slice 29 (.slice A0 l0.length c0) none (some (.int .i64 x6_1)) none).run Try.prog W = .ok (.slice A0 l0.length c0) W := by
    have hx6 := HR_.out
    obtain ⟨i8_, hi8_, _, _, _⟩ := info_parts info26
    have h := cut_to (P := Try.prog) 29 26 .i64 Try.underlying29 hi8_ A0 l0.length c0 x6_1 (by omega) (by omega) (Kd.N_reads' HON_.out).2.1
    rwa [show x6_1.toNat = l0.length from by omega] at h
   have hcz8_ := cz_ BK421
   have HRc_ := Aside0.mk (Kd.C_below HR1_0.out HB.out)
   have HY_ := Aside0.mk y0_
   have HE_ := Aside0.mk (HB.out.drew)
   clear y0_
   go_region_held3 (fun w' => w'.cell? ⟨gb421, 0, none⟩ = some (.slice A1_0 l1_0.length c1_0)) (first | go_keep | exact hcz8_ | exact (blk_cell HK42_.out 0).trans rfl | exact (blk_cell HK41_.out 0).trans rfl | exact (blk_cell (blk_alloc HK40_.out _) 0).trans rfl | exact (blk_cell HK40_.out 0).trans rfl) (first | (go_at_call 26; refine (spec_l3Copy.calls _ _ l1_0 t_ _ (by exact ce_ (HRc_.out)) HC1_0.out HCP_.out).mono ?_; rintro e w40 ⟨v40, rfl, ho40, hb40⟩; have HK40_ := Aside0.mk (blk_below (be_ BK421.out) hb40); have HO40_ := Aside0.mk ho40; have HB40_ := Aside0.mk hb40; have HN40_ := Aside0.mk (Kd.N_below (by (with_reducible repeat (first | apply Kd.N_alloc | apply Kd.N_drewN | apply Kd.N_drew)); exact HON_.out) hb40); have HW40_ := Aside0.mk (HBw_.out.trans (hb40.mono HBx_.out)); clear hb40 ho40; obtain ⟨A40_, c40_, e40_⟩ := Kd.R_slice HO40_.out; subst e40_) | (refine Kd.N_append_step k26 (w0 := wb) base (by rfl) (.tmp 45) (.tmp 48) 29 26 (.agg #[(.slice none 0 0)]) 24 rfl Try.underlying29 info26 rfl (by decide) (by omega) (.slice A0 l0.length c0) l0 (⟨t_⟩ : S26) [.slice A40_ t_.length c40_] P0_ (fun k_ => P0_ k_ ∧ some k_ ≠ (Value.slice A0 l0.length c0).ownBlock) rfl rfl (k26_mkF _ _ (⟨t_⟩ : S26) (Kd.R_reads' HO40_.out).2.1 (Kd.R_F (Kd.R_mono (ok' := (fun k_ => P0_ k_ ∧ some k_ ≠ (Value.slice A0 l0.length c0).ownBlock)) (Kd.R_bound HO40_.out) (fun k_ hk => ⟨HFx_.out k_ hk.2.1, HU_.out k_ (Nat.le_trans (below_size HE_.out) hk.2.1)⟩)))) (fun _ hk => hk) (fun k_ hk => HFx_.out k_ (Nat.le_trans HB40_.out.size hk)) HN40_.out HW40_.out (Nat.le_trans HBx_.out HB40_.out.size) (by have := HL_.out; omega) ?_; intro v41 w41 ho41 hb41 hg41 hat41; have HO41_ := Aside0.mk ho41; have HB41_ := Aside0.mk hb41; have HG41_ := Aside0.mk hg41; have HA41_ := Aside0.mk hat41; have HK41_ := Aside0.mk (blk_grown HK40_.out hg41 (HU_.out _ GE421.out)); clear ho41 hb41 hg41 hat41) | (refine Kd.N_append_rows_step k26 (w0 := wb) base (by rfl) (.tmp 49) (.tmp 50) 29 26 (.agg #[(.slice none 0 0)]) 24 rfl Try.underlying29 info26 rfl (by decide) (by omega) v41 (l0 ++ [(⟨t_⟩ : S26)]) y449 _ _ _ P0_ (fun _ => False) rfl rfl HO41_.out (by rw [HY_.out]; exact f_none_ _ _ _ _) (fun _ h => h.elim) (fun k_ hk => HFx_.out k_ (Nat.le_trans (Nat.le_trans HB40_.out.size HG41_.out.size) hk)) HB41_.out (Nat.le_trans HBx_.out (Nat.le_trans HB40_.out.size HG41_.out.size)) (by rw [HY_.out, List.length_append, List.length_singleton, List.length_nil]; have := HL_.out; omega) ?_; intro v42 w42 ho42 hb42 hg42 hat42; have HO42_ := Aside0.mk ho42; have HB42_ := Aside0.mk hb42; have HG42_ := Aside0.mk hg42; have HA42_ := Aside0.mk hat42; have HK42_ := Aside0.mk (blk_grown HK41_.out hg42 (put_ne_ HA41_.out (HU_.out _ GE421.out) (blk_lt HK40_.out))); clear ho42 hb42 hg42 hat42))
   try go_wp2
   go_ret
   have hend := put_end_ HE_.out HB40_.out HG41_.out HA41_.out HG42_.out HA42_.out
   have hO := HO42_.out
   rw [HY_.out, List.append_nil] at hO
   exact ⟨_, rf_, hO, HB42_.out, hend⟩
mutual
def spec_AllOfGenus.l0 : Nat → Int → List (S26) → Int → Option ((List (S26)))
 | 0, _, _, _ => none
 | k + 1, x0, x5, x6 => if x6 < x0 then (spec_AllOfGenus.l1 k x0 x5 x6 (([] : List (S26))) 0) else (some x5)
def spec_AllOfGenus.l1 : Nat → Int → List (S26) → Int → List (S26) → Int → Option ((List (S26)))
 | 0, _, _, _, _, _ => none
 | k + 1, x0, x5, x6, x7, x8 => if x8 < (x5.length : Int) then (if 0 ≤ x8 then ((spec_ChildrenOf.f k ((rd_T26 x5 x8).f0)).bind fun bt471 => (spec_AllOfGenus.l2 k x0 x5 x6 x7 x8 bt471.1 0)) else (none)) else (spec_AllOfGenus.l0 k x0 x7 (wrap64 (x6 + 1)))
def spec_AllOfGenus.l2 : Nat → Int → List (S26) → Int → List (S26) → Int → List (S26) → Int → Option ((List (S26)))
 | 0, _, _, _, _, _, _, _ => none
 | k + 1, x0, x5, x6, x7, x8, x9, x11 => if x11 < (x9.length : Int) then (if 0 ≤ x11 then ((spec_l3Copy.f (rd_T26 x9 x11).f0).bind fun tc => ((spec_l19Put.f k x7 (rd_T26 x9 x11).f0).bind fun ta => (if ta = (x7.length : Int) then (if x7.length < 5864062014805 then (spec_AllOfGenus.l2 k x0 x5 x6 (x7 ++ [(⟨tc⟩ : S26)]) x8 x9 (wrap64 (x11 + 1))) else (none)) else (none)))) else (none)) else (spec_AllOfGenus.l1 k x0 x5 x6 x7 (wrap64 (x8 + 1)))
end
def spec_AllOfGenus.f (k : Nat) (a0 : Int) : Option ((List (S26))) := (spec_l1In.f a0 0 8).bind fun t452 => (if t452 = true then ((spec_FromGens.f k (([1] : List Int))).bind fun bt459 => (spec_AllOfGenus.l0 k a0 (([(⟨bt459.1⟩ : S26)] : List (S26))) 0)) else (some (([] : List (S26)))))
theorem spec_AllOfGenus.calls (k : Nat) (a0 : Int) (r : List (S26)) (w : World) (h : spec_AllOfGenus.f k a0 = some r) :
 Calls Try.prog 23 #[.int .i64 a0] w fun e w' => ∃ v0_ : Value, e = .returned (v0_) ∧ Kd.N k26 26 w' w.heap.size (fun k_ => (w.heap.size ≤ k_)) v0_ r ∧ Below w.heap.size w w' := by
 have hu26 := Try.underlying26
 have HB := Aside0.mk (Below.refl w.heap.size w)
 have H := h
 clear h
 unfold spec_AllOfGenus.f at H
 obtain ⟨t452, A2, H⟩ := ob_ H
 by_cases c3 : t452 = true
 rotate_left
 · replace c3 := Bool.eq_false_iff.mpr c3
   subst c3
   rw [if_neg (show ¬ (false = true) by decide)] at H
   obtain ⟨y453, hy453⟩ : ∃ y_ : List (S26), y_ = (([] : List (S26))) := ⟨_, rfl⟩
   replace H : (some y453) = some r := by subst hy453; exact H
   have Ny453 := Aside0.mk hy453
   clear hy453
   obtain rfl := Option.some.inj H
   go_enter Try.func23, Try.ntmps23
   go_wp2_with (first | ((with_reducible refine gate_callee (f := 39) rfl ?_); refine gL_ (some 13) Try.func39 #[.int .i64 a0, .int .i64 0, .int .i64 8] ?_; (with_reducible refine (spec_l1In.calls a0 0 8 false _ A2.out).mono ?_); rintro e w' ⟨rfl, ⟨nd, rfl⟩⟩; refine ⟨_, rfl, ?_⟩) | ((with_reducible refine gate_dst (N := 15) rfl ?_); refine Kd.N_lit k26 _ 26 ?hg (N' := 15) ?hd (xs := ([] : List (S26))) (inner := []) (ok := (fun k_ => (w.heap.size ≤ k_))) (okp := (fun k_ => (w.heap.size ≤ k_))) ?hr ?hp (fun _ hk => hk) ((show ∀ k_, w.heap.size ≤ k_ → (fun k_ => (w.heap.size ≤ k_)) k_ from fun k_ hk => (Nat.le_trans (below_size (bl_ HB.out)) hk)) _ (Nat.le_refl _)) (Below.refl _ _) (Nat.le_refl _) (by simp) ?_; (case hd => rfl); (case hg => rfl); (case hr => first | (go_simp; done) | (go_simp; rfl)); (case hp => exact (Reps.none _ _)); intro v454 w29 ho30 hb hg_ hnew_; clear hg_ hnew_; (first | rw [← Ny453.out] at ho30 | (simp only [Int.reduceToNat] at ho30; rw [← Ny453.out] at ho30)); have HO455 := Aside0.mk (Kd.N_lower ho30 (below_size (bl_ HB.out))); replace HB := bo_ HB hb; clear hb ho30))
   go_ret
   exact ⟨_, rf_, by (with_reducible repeat (first | apply Kd.N_alloc | apply Kd.N_drewN | apply Kd.N_drew)); exact HO455.out, bl_ HB.out⟩
 subst c3
 rw [if_pos rfl] at H
 obtain ⟨y456, hy456⟩ : ∃ y_ : List Int, y_ = (([1] : List Int)) := ⟨_, rfl⟩
 replace H : ((spec_FromGens.f k y456).bind fun bt459 => (spec_AllOfGenus.l0 k a0 (([(⟨bt459.1⟩ : S26)] : List (S26))) 0)) = some r := by subst hy456; exact H
 have Ny456 := Aside0.mk hy456
 clear hy456
 obtain ⟨⟨t459, t462⟩, A4, H⟩ := ob_ H
 (try dsimp only at H)
 obtain ⟨y464, hy464⟩ : ∃ y_ : List (S26), y_ = (([(⟨t459⟩ : S26)] : List (S26))) := ⟨_, rfl⟩
 replace H : (spec_AllOfGenus.l0 k a0 y464 0) = some r := by subst hy464; exact H
 have Ny464 := Aside0.mk hy464
 clear hy464
 have H' := Aside0.mk H
 clear H
 go_enter Try.func23, Try.ntmps23
 go_wp2_with (first | ((with_reducible refine gate_callee (f := 39) rfl ?_); refine gL_ (some 13) Try.func39 #[.int .i64 a0, .int .i64 0, .int .i64 8] ?_; (with_reducible refine (spec_l1In.calls a0 0 8 true _ A2.out).mono ?_); rintro e w' ⟨rfl, ⟨nd, rfl⟩⟩; refine ⟨_, rfl, ?_⟩) | ((with_reducible refine gate_dst (N := 17) rfl ?_); refine Kd.R_lit (Kd.int .i64) _ 3 ?hg (N := 17) ?hd (xs := ([1] : List Int)) (inner := [.int .i64 1]) (ok := fun _ => True) (okp := fun _ => True) ?hr ?hp (fun _ hk => hk) trivial (Below.refl _ _) (Nat.le_refl _) (by simp) ?_; (case hd => rfl); (case hg => rfl); (case hr => first | (go_simp; done) | (go_simp; rfl)); (case hp => exact (Reps.one (show Kd.M (Kd.int .i64) _ _ _ 1 [.int .i64 1] from rfl) (Reps.none _ _))); intro v457 w5 ho6 hb hg_ hnew_; clear hg_ hnew_; (first | rw [← Ny456.out] at ho6 | (simp only [Int.reduceToNat] at ho6; rw [← Ny456.out] at ho6)); have HO458 := Aside0.mk (Kd.R_lower (Kd.R_newM (M := fun k_ => (w.heap.size ≤ k_)) ho6 (below_size (bl_ HB.out)) (fun k_ h_ => h_)) (below_size (bl_ HB.out))); replace HB := bo_ HB hb; clear hb ho6; obtain ⟨Ao7, co7, eo7⟩ := Kd.R_slice HO458.out; subst eo7) | ((with_reducible refine gate_callee (f := 41) rfl ?_); refine gL_ (some 18) Try.func41 #[.slice Ao7 y456.length co7] ?_; (with_reducible refine (spec_FromGens.calls k _ _ y456 t459 t462 _ ?side1 ?side2 A4.out).mono ?_); (case side1 => exact ce_ ((Kd.R_reads' HO458.out).2.2)); (case side2 => exact (Kd.R_reads' HO458.out).2.1); rintro e w8 ⟨v460, rfl, ho0, hb⟩; refine ⟨_, rfl, ?_⟩; have HO461 := Aside0.mk (Kd.R_lower (Kd.R_new' (Kd.R_newM (M := fun k_ => (w.heap.size ≤ k_)) ho0 (below_size (bl_ HB.out)) (fun k_ h_ => h_)) (Kd.R_lt (re_ HO458.out))) (below_size (bl_ HB.out))); replace HO458 := Aside0.mk (Kd.R_elder' (re_ HO458.out) (Kd.R_base ho0) hb); replace HB := bo_ HB hb; (try clear hb); (try clear ho0); obtain ⟨Ao9, co9, eo9⟩ := Kd.R_slice HO461.out; subst eo9) | ((with_reducible refine gate_dst (N := 3) rfl ?_); refine bx_ 3 #[.slice none 0 0] 26 ?_; intro gb463 hg w10 hbox hb; replace HO458 := Aside0.mk (Kd.R_below (re_ HO458.out) hb); replace HO461 := Aside0.mk (Kd.R_below (re_ HO461.out) hb); have BK463 := Aside0.mk (hbox); have GW463 := gw_ hg HB; have GE463 := gw_ hg HB; replace HB := bo_ HB hb; clear hb hbox hg; have hcz11_0 := cz_ BK463; have hfz11_0 := blk_frozen BK463.out 0) | (refine store_event (t := 26) (p := 3) (v := ?vo_) (w1 := (w10.setCell ⟨gb463, 0, none⟩ (.slice Ao9 t459.length co9))) ?hg ?ho ?hn ?hr ?_; (case ho => rfl); (case hg => rfl); (case hn => rfl); (case hr => first | (go_simp; done) | (go_simp; rfl)); intro ws_ hw_; have n0_ := Aside0.mk (show Kd.R (Kd.int .i64) 3 ws_ w.heap.size _ _ _ from by rw [hw_]; exact Kd.R_mono (Kd.R_far (p := ⟨gb463, 0, none⟩) (Kd.R_types HO458.out BK463.out (by decide)) (fun _ hk => hk.2) (.slice Ao9 t459.length co9)) (fun _ h_ => h_.1)); have n1_ := Aside0.mk (show Kd.R (Kd.int .i64) 3 ws_ w.heap.size _ _ _ from by rw [hw_]; exact Kd.R_mono (Kd.R_far (p := ⟨gb463, 0, none⟩) (Kd.R_types HO461.out BK463.out (by decide)) (fun _ hk => hk.2) (.slice Ao9 t459.length co9)) (fun _ h_ => h_.1)); have nb_ := Aside0.mk (show ws_.heap[gb463]? = some (.cells #[.slice Ao9 t459.length co9] 26 (0, 0)) from by rw [hw_]; exact blk_put BK463.out 0 (.slice Ao9 t459.length co9) rfl); have nB_ := Aside0.mk (show Below w.heap.size w ws_ from by rw [hw_]; exact below_set HB.out GE463.out); clear hw_ HB BK463 hcz11_0 hfz11_0 HO458 HO461; have HO458 := n0_; have HO461 := n1_; have BK463 := nb_; have HB := nB_; clear nb_ nB_ n0_ n1_; generalize ws_ = w10 at HO458 HO461 BK463 HB ⊢; have hcz11_0 := cz_ BK463; have hfz11_0 := blk_frozen BK463.out 0) | ((with_reducible refine gate_dst (N := 22) rfl ?_); refine Kd.N_lit k26 _ 26 ?hg (N' := 22) ?hd (xs := ([(⟨t459⟩ : S26)] : List (S26))) (inner := [.slice Ao9 t459.length co9]) (ok := (fun k_ => (w.heap.size ≤ k_) ∧ some k_ ≠ (.slice Ao7 y456.length co7 : Value).ownBlock ∧ k_ ≠ gb463)) (okp := (fun k_ => (w.heap.size ≤ k_) ∧ some k_ ≠ (.slice Ao7 y456.length co7 : Value).ownBlock ∧ k_ ≠ gb463)) ?hr ?hp (fun _ hk => hk) ((show ∀ k_, w10.heap.size ≤ k_ → (fun k_ => (w.heap.size ≤ k_) ∧ some k_ ≠ (.slice Ao7 y456.length co7 : Value).ownBlock ∧ k_ ≠ gb463) k_ from fun k_ hk => ⟨(Nat.le_trans (below_size (bq_ HB)) hk), Kd.fresh' (Kd.R_lt (re_ HO458.out)) k_ hk, Kd.freshB (g := gb463) (o := .cells #[.slice Ao9 t459.length co9] 26 (0, 0)) (be_ BK463.out) k_ hk⟩) _ (Nat.le_refl _)) (Below.refl _ _) (Nat.le_refl _) (by simp) ?_; (case hd => rfl); (case hg => rfl); (case hr => first | (go_simp; done) | (go_simp; rfl)); (case hp => exact (Reps.one (show Kd.FK k26 _ _ (⟨t459⟩ : S26) [.slice Ao9 t459.length co9] from (k26_mkF _ _ (⟨t459⟩ : S26) (Kd.R_reads' (Kd.R_mono (ok' := (fun k_ => (w.heap.size ≤ k_) ∧ some k_ ≠ (.slice Ao7 y456.length co7 : Value).ownBlock ∧ k_ ≠ gb463)) (Kd.R_types (HO461.out) BK463.out (by decide)) (fun k_ hk => ⟨hk.1.1.1, ⟨hk.1.2, hk.2⟩⟩))).2.1 (Kd.R_F (Kd.R_mono (ok' := (fun k_ => (w.heap.size ≤ k_) ∧ some k_ ≠ (.slice Ao7 y456.length co7 : Value).ownBlock ∧ k_ ≠ gb463)) (Kd.R_types (HO461.out) BK463.out (by decide)) (fun k_ hk => ⟨hk.1.1.1, ⟨hk.1.2, hk.2⟩⟩))))) (Reps.none _ _))); intro v465 w12 ho13 hb hg_ hnew_; clear hg_ hnew_; (first | rw [← Ny464.out] at ho13 | (simp only [Int.reduceToNat] at ho13; rw [← Ny464.out] at ho13)); have nr_ := Aside0.mk (Kd.R_below (re_ HO461.out) hb); have n0_ := Aside0.mk (Kd.R_below (re_ HO458.out) hb); have n1_ := Aside0.mk (Kd.N_lower ho13 (below_size (bq_ HB))); have n2_ := bk_ BK463 hb; have n3_ := bp_ HB hb; clear HO458; clear BK463; clear HB; clear HO461; have HO461 := nr_; clear nr_; have HO458 := n0_; have HO466 := n1_; have BK463 := n2_; have HB := n3_; clear n0_ n1_ n2_ n3_; clear hb ho13))
 go_loopg [5, 6] k (fun kq v5 v6 w' => ∃ (x5_1 : List (S26)) (x6_1 : Int), v6 = .int .i64 x6_1 ∧ Aside0 (spec_AllOfGenus.l0 kq a0 x5_1 x6_1 = some r) ∧ Aside0 (kq ≤ k) ∧ Aside0 (Kd.N k26 26 w' w.heap.size (fun k_ => (w.heap.size ≤ k_) ∧ k_ ≠ gb463) v5 x5_1) ∧ Aside0 (Kd.R (Kd.int .i64) 3 w' w.heap.size (fun k_ => (w.heap.size ≤ k_)) (.slice Ao9 t459.length co9) t459) ∧ Aside0 (w'.heap[gb463]? = some (.cells #[(.slice Ao9 t459.length co9)] 26 (0, 0))) ∧ Aside0 (Below w.heap.size w w'))
 case atStart => exact ⟨(y464), (0), rs_, H', ⟨Nat.le_refl _⟩, ⟨by (with_reducible repeat (first | apply Kd.N_alloc | apply Kd.N_drewN | apply Kd.N_drew)); exact Kd.N_mono HO466.out (fun _ hk => ⟨hk.1, hk.2.2⟩)⟩, ⟨by (with_reducible repeat (first | apply Kd.R_alloc | apply Kd.R_drewN | apply Kd.R_drew)); exact (Kd.R_mono (Kd.R_bound HO461.out) (fun _ hk => hk.2.1))⟩, ⟨be_ BK463.out⟩, ⟨bq_ HB⟩⟩
 case round =>
  clear H'
  try clear hcz11_0
  try clear hfz11_0
  obtain ⟨x5_1, x6_1, rfl, HA, HK1, HO_5, HO_464000, BK463, HB⟩ := hrel
  cases gk with
  | zero => exact absurd HA.out (by simp [spec_AllOfGenus.l0])
  | succ k1 =>
   have H := HA.out
   clear HA
   simp only [spec_AllOfGenus.l0] at H
   by_cases c14 : x6_1 < a0
   rotate_left
   · rw [if_neg c14] at H
     have c14b0 : decide (x6_1 < a0) = false := decide_eq_false c14
     clear c14
     obtain rfl := Option.some.inj H
     go_wp2
     go_ret
     exact ⟨_, rf_, by (with_reducible repeat (first | apply Kd.N_alloc | apply Kd.N_drewN | apply Kd.N_drew)); exact Kd.N_mono HO_5.out (fun _ hk => hk.1), bq_ HB⟩
   rw [if_pos c14] at H
   have c14b0 : decide (x6_1 < a0) = true := decide_eq_true c14
   clear c14
   obtain ⟨y467, hy467⟩ : ∃ y_ : List (S26), y_ = (([] : List (S26))) := ⟨_, rfl⟩
   replace H : (spec_AllOfGenus.l1 k1 a0 x5_1 x6_1 y467 0) = some r := by subst hy467; exact H
   have Ny467 := Aside0.mk hy467
   clear hy467
   have H' := Aside0.mk H
   clear H
   go_wp2_with (first | ((with_reducible refine gate_dst (N := 28) rfl ?_); refine Kd.N_lit k26 _ 26 ?hg (N' := 28) ?hd (xs := ([] : List (S26))) (inner := []) (ok := (fun k_ => (w.heap.size ≤ k_) ∧ some k_ ≠ (u5 : Value).ownBlock ∧ some k_ ≠ (.slice Ao9 t459.length co9 : Value).ownBlock ∧ k_ ≠ gb463)) (okp := (fun k_ => (w.heap.size ≤ k_) ∧ some k_ ≠ (u5 : Value).ownBlock ∧ some k_ ≠ (.slice Ao9 t459.length co9 : Value).ownBlock ∧ k_ ≠ gb463)) ?hr ?hp (fun _ hk => hk) ((show ∀ k_, wr.heap.size ≤ k_ → (fun k_ => (w.heap.size ≤ k_) ∧ some k_ ≠ (u5 : Value).ownBlock ∧ some k_ ≠ (.slice Ao9 t459.length co9 : Value).ownBlock ∧ k_ ≠ gb463) k_ from fun k_ hk => ⟨(Nat.le_trans (below_size (bq_ HB)) hk), Kd.fresh' (Kd.N_lt (by (with_reducible repeat (first | apply Kd.N_alloc | apply Kd.N_drewN | apply Kd.N_drew)); exact HO_5.out)) k_ hk, Kd.fresh' (Kd.R_lt (re_ HO_464000.out)) k_ hk, Kd.freshB (g := gb463) (o := .cells #[.slice Ao9 t459.length co9] 26 (0, 0)) (be_ BK463.out) k_ hk⟩) _ (Nat.le_refl _)) (Below.refl _ _) (Nat.le_refl _) (by simp) ?_; (case hd => rfl); (case hg => rfl); (case hr => first | (go_simp; done) | (go_simp; rfl)); (case hp => exact (Reps.none _ _)); intro v468 w15 ho16 hb hg_ hnew_; clear hg_ hnew_; (first | rw [← Ny467.out] at ho16 | (simp only [Int.reduceToNat] at ho16; rw [← Ny467.out] at ho16)); replace HO_5 := Aside0.mk (Kd.N_elder' (by (with_reducible repeat (first | apply Kd.N_alloc | apply Kd.N_drewN | apply Kd.N_drew)); exact HO_5.out) (Kd.N_base ho16) hb); replace HO_464000 := Aside0.mk (Kd.R_below (re_ HO_464000.out) hb); have HO469 := Aside0.mk (Kd.N_lower ho16 (below_size (bq_ HB))); replace BK463 := bk_ BK463 hb; replace HB := bp_ HB hb; clear hb ho16))
   go_loopg [7, 8] k1 (fun kq v7 v8 w' => ∃ (x7_2 : List (S26)) (x8_2 : Int), v8 = .int .i64 x8_2 ∧ Aside0 (spec_AllOfGenus.l1 kq a0 x5_1 x6_1 x7_2 x8_2 = some r) ∧ Aside0 (kq ≤ k1) ∧ Aside0 (Kd.N k26 26 w' w.heap.size (fun k_ => (w.heap.size ≤ k_) ∧ some k_ ≠ (v7 : Value).ownBlock ∧ k_ ≠ gb463) u5 x5_1) ∧ Aside0 (Kd.N k26 26 w' w.heap.size (fun k_ => (w.heap.size ≤ k_) ∧ some k_ ≠ (u5 : Value).ownBlock ∧ some k_ ≠ ((.slice Ao9 t459.length co9) : Value).ownBlock ∧ k_ ≠ gb463) v7 x7_2) ∧ Aside0 (Kd.R (Kd.int .i64) 3 w' w.heap.size (fun k_ => (w.heap.size ≤ k_)) (.slice Ao9 t459.length co9) t459) ∧ Aside0 (w'.heap[gb463]? = some (.cells #[(.slice Ao9 t459.length co9)] 26 (0, 0))) ∧ Aside0 (Below w.heap.size w w'))
   case atStart => exact ⟨(y467), (0), rs_, H', ⟨Nat.le_refl _⟩, ⟨by (with_reducible repeat (first | apply Kd.N_alloc | apply Kd.N_drewN | apply Kd.N_drew)); exact Kd.N_mono HO_5.out (fun _ hk => ⟨hk.1.1, ⟨hk.2, hk.1.2⟩⟩)⟩, ⟨by (with_reducible repeat (first | apply Kd.N_alloc | apply Kd.N_drewN | apply Kd.N_drew)); exact HO469.out⟩, ⟨re_ HO_464000.out⟩, ⟨be_ BK463.out⟩, ⟨bq_ HB⟩⟩
   case round =>
    clear H'
    try clear c14b0
    obtain ⟨x7_2, x8_2, rfl, HA, HK2, HO_5, HO_7, HO_464000, BK463, HB⟩ := hrel
    cases gk with
    | zero => exact absurd HA.out (by simp [spec_AllOfGenus.l1])
    | succ k2 =>
     have H := HA.out
     clear HA
     simp only [spec_AllOfGenus.l1] at H
     by_cases c17 : x8_2 < (x5_1.length : Int)
     rotate_left
     · rw [if_neg c17] at H
       have c17b0 : decide (x8_2 < (x5_1.length : Int)) = false := decide_eq_false c17
       clear c17
       have H' := Aside0.mk H
       clear H
       obtain ⟨Ao28, co28, eo28⟩ := Kd.N_slice HO_5.out
       subst eo28
       go_wp2
       go_roundg k2
       case measure => have := HK1.out; have := HK2.out; omega
       case rel => exact ⟨(x7_2), (wrap64 (x6_1 + 1)), rs_, H', ⟨by have := HK1.out; have := HK2.out; omega⟩, ⟨by (with_reducible repeat (first | apply Kd.N_alloc | apply Kd.N_drewN | apply Kd.N_drew)); exact Kd.N_mono HO_7.out (fun _ hk => ⟨hk.1, hk.2.2.2⟩)⟩, ⟨re_ HO_464000.out⟩, ⟨be_ BK463.out⟩, ⟨bq_ HB⟩⟩
     rw [if_pos c17] at H
     have c17b0 : decide (x8_2 < (x5_1.length : Int)) = true := decide_eq_true c17
     clear c17
     obtain ⟨c18b0, H⟩ := ipd_ H
     obtain ⟨⟨t471, t474⟩, A19, H⟩ := ob_ H
     (try dsimp only at H)
     have H' := Aside0.mk H
     clear H
     obtain ⟨Ao20, co20, eo20⟩ := Kd.N_slice HO_5.out
     subst eo20
     have p470 : 0 ≤ (x8_2 : Int) := od_
     have q470 : x8_2 < (x5_1.length : Int) := od_
     obtain ⟨ad470, A470_0, c470_0, e470, hx470_0, hl470_0, hi470_0⟩ := at_T26 (Kd.N_reads' HO_5.out).2.2 x8_2 p470 q470
     cases e470
     obtain ⟨ce470, hce470, hMe470, hcc470⟩ := Kd.N_get HO_5.out z26 x8_2 p470 (by first | exact q470 | exact od_ | (have e_ := (Kd.N_reads' HO_5.out).1; omega))
     obtain ⟨ua470_0, uc470_0, rfl, ul470_0, ge470_0⟩ := k26_openF hMe470
     have hv470_0 := hcc470 0 _ rfl
     rw [Nat.add_zero, show (k26).sz = 1 from rfl, Nat.mul_one] at hv470_0
     replace hv470_0 := Option.some.inj (hv470_0.symm.trans hx470_0)
     injection hv470_0 with hva_ hvn_ hvc_
     rw [hva_] at ge470_0
     rw [hvc_] at ul470_0
     have HL470_0 := Aside0.mk (show Kd.V (Kd.int .i64) 3 _ w.heap.size _ _ ((rd_T26 x5_1 x8_2).f0) from Kd.V_mk ul470_0 ge470_0)
     clear hva_ hvn_ hvc_ ge470_0 ul470_0
     clear hcc470 hce470
     have HR470_0 := Aside0.mk hi470_0
     have HC470_0 := Aside0.mk hl470_0
     clear hi470_0 hl470_0
     replace p470 := eq_true p470
     replace q470 := eq_true q470
     go_wp2_with (first | ((with_reducible refine gate_callee (f := 42) rfl ?_); refine gL_ (some 40) Try.func42 #[.agg #[.slice A470_0 ((rd_T26 x5_1 x8_2).f0).length c470_0]] ?_; (with_reducible refine (spec_ChildrenOf.calls k2 _ _ ((rd_T26 x5_1 x8_2).f0) t471 t474 _ ?side1 ?side2 A19.out).mono ?_); (case side1 => repeat (first | exact (by repeat (first | (with_reducible exact HR470_0.out) | (with_reducible refine Kd.C_alloc ?_ _) | (with_reducible refine Kd.C_drewN ?_ _) | (with_reducible refine Kd.C_drew ?_) | exact HR470_0.out)) | (with_reducible refine Kd.C_alloc ?_ _) | (with_reducible refine Kd.C_drewN ?_ _) | (with_reducible refine Kd.C_drew ?_))); (case side2 => exact HC470_0.out); rintro e w21 ⟨v472, rfl, ho0, hb⟩; refine ⟨_, rfl, ?_⟩; replace HL470_0 := Aside0.mk (Kd.V_elder' (by (with_reducible repeat (first | apply Kd.V_alloc | apply Kd.V_drewN | apply Kd.V_drew)); exact HL470_0.out) (Kd.N_base (Kd.S_N ho0)) hb); have HO473 := Aside0.mk (Kd.N_lower (Kd.N_mono (ok' := fun k_ => (w.heap.size ≤ k_) ∧ some k_ ≠ (.slice (some ad470) x5_1.length co20 : Value).ownBlock ∧ some k_ ≠ (u7 : Value).ownBlock ∧ some k_ ≠ (.slice Ao9 t459.length co9 : Value).ownBlock ∧ k_ ≠ gb463) (Kd.S_N (Kd.S_bound ho0)) (fun k_ hk_ => ⟨(Nat.le_trans (below_size (bq_ HB)) hk_.2.1), (Kd.fresh' (Kd.N_lt (by (with_reducible repeat (first | apply Kd.N_alloc | apply Kd.N_drewN | apply Kd.N_drew)); exact HO_5.out)) k_ hk_.2.1), (Kd.fresh' (Kd.N_lt (by (with_reducible repeat (first | apply Kd.N_alloc | apply Kd.N_drewN | apply Kd.N_drew)); exact HO_7.out)) k_ hk_.2.1), (Kd.fresh' (Kd.R_lt (re_ HO_464000.out)) k_ hk_.2.1), (Kd.freshB (g := gb463) (o := .cells #[.slice Ao9 t459.length co9] 26 (0, 0)) (be_ BK463.out) k_ hk_.2.1)⟩)) (below_size (bq_ HB))); replace HO_5 := Aside0.mk (Kd.N_elder' (by (with_reducible repeat (first | apply Kd.N_alloc | apply Kd.N_drewN | apply Kd.N_drew)); exact HO_5.out) (Kd.N_base (Kd.S_N ho0)) hb); replace HO_7 := Aside0.mk (Kd.N_elder' (by (with_reducible repeat (first | apply Kd.N_alloc | apply Kd.N_drewN | apply Kd.N_drew)); exact HO_7.out) (Kd.N_base (Kd.S_N ho0)) hb); replace HO_464000 := Aside0.mk (Kd.R_below (re_ HO_464000.out) hb); replace BK463 := bk_ BK463 hb; replace HR470_0 := Aside0.mk (Kd.C_below (by repeat (first | (with_reducible exact HR470_0.out) | (with_reducible refine Kd.C_alloc ?_ _) | (with_reducible refine Kd.C_drewN ?_ _) | (with_reducible refine Kd.C_drew ?_) | exact HR470_0.out)) hb); replace HB := bp_ HB hb; (try clear hb); (try clear ho0)))
     go_loopg [7, 11] k2 (fun kq v7 v11 w' => ∃ (x7_3 : List (S26)) (x11_3 : Int), v11 = .int .i64 x11_3 ∧ Aside0 (spec_AllOfGenus.l2 kq a0 x5_1 x6_1 x7_3 x8_2 t471 x11_3 = some r) ∧ Aside0 (kq ≤ k2) ∧ Aside0 (Kd.N k26 26 w' w.heap.size (fun k_ => (w.heap.size ≤ k_) ∧ some k_ ≠ (v7 : Value).ownBlock ∧ some k_ ≠ (v472 : Value).ownBlock ∧ k_ ≠ gb463) (.slice (some ad470) x5_1.length co20) x5_1) ∧ Aside0 (Kd.N k26 26 w' w.heap.size (fun k_ => (w.heap.size ≤ k_) ∧ some k_ ≠ ((.slice (some ad470) x5_1.length co20) : Value).ownBlock ∧ some k_ ≠ (v472 : Value).ownBlock ∧ some k_ ≠ ((.slice Ao9 t459.length co9) : Value).ownBlock ∧ k_ ≠ gb463) v7 x7_3) ∧ Aside0 (Kd.N k26 26 w' w.heap.size (fun k_ => (w.heap.size ≤ k_) ∧ some k_ ≠ ((.slice (some ad470) x5_1.length co20) : Value).ownBlock ∧ some k_ ≠ (v7 : Value).ownBlock ∧ some k_ ≠ ((.slice Ao9 t459.length co9) : Value).ownBlock ∧ k_ ≠ gb463) v472 t471) ∧ Aside0 (Kd.R (Kd.int .i64) 3 w' w.heap.size (fun k_ => (w.heap.size ≤ k_)) (.slice Ao9 t459.length co9) t459) ∧ Aside0 (w'.heap[gb463]? = some (.cells #[(.slice Ao9 t459.length co9)] 26 (0, 0))) ∧ Aside0 (Below w.heap.size w w'))
     case atStart => exact ⟨(x7_2), (0), rs_, H', ⟨Nat.le_refl _⟩, ⟨by (with_reducible repeat (first | apply Kd.N_alloc | apply Kd.N_drewN | apply Kd.N_drew)); exact Kd.N_mono HO_5.out (fun _ hk => ⟨hk.1.1, ⟨hk.1.2.1, ⟨hk.2, hk.1.2.2⟩⟩⟩)⟩, ⟨by (with_reducible repeat (first | apply Kd.N_alloc | apply Kd.N_drewN | apply Kd.N_drew)); exact Kd.N_mono HO_7.out (fun _ hk => ⟨hk.1.1, ⟨hk.1.2.1, ⟨hk.2, ⟨hk.1.2.2.1, hk.1.2.2.2⟩⟩⟩⟩)⟩, ⟨by (with_reducible repeat (first | apply Kd.N_alloc | apply Kd.N_drewN | apply Kd.N_drew)); exact HO473.out⟩, ⟨re_ HO_464000.out⟩, ⟨be_ BK463.out⟩, ⟨bq_ HB⟩⟩
     case round =>
      clear H'
      try clear c17b0
      try clear c18b0
      try clear hx470_0
      try clear p470
      try clear q470
      obtain ⟨x7_3, x11_3, rfl, HA, HK3, HO_5, HO_7, HO_9, HO_464000, BK463, HB⟩ := hrel
      cases gk with
      | zero => exact absurd HA.out (by simp [spec_AllOfGenus.l2])
      | succ k3 =>
       have H := HA.out
       clear HA
       simp only [spec_AllOfGenus.l2] at H
       by_cases c22 : x11_3 < (t471.length : Int)
       rotate_left
       · rw [if_neg c22] at H
         have c22b0 : decide (x11_3 < (t471.length : Int)) = false := decide_eq_false c22
         clear c22
         have H' := Aside0.mk H
         clear H
         obtain ⟨Ao27, co27, eo27⟩ := Kd.N_slice HO_9.out
         subst eo27
         go_wp2
         go_roundg k3
         case measure => have := HK1.out; have := HK2.out; have := HK3.out; omega
         case rel => exact ⟨(x7_3), (wrap64 (x8_2 + 1)), rs_, H', ⟨by have := HK1.out; have := HK2.out; have := HK3.out; omega⟩, ⟨by (with_reducible repeat (first | apply Kd.N_alloc | apply Kd.N_drewN | apply Kd.N_drew)); exact Kd.N_mono HO_5.out (fun _ hk => ⟨hk.1, ⟨hk.2.1, hk.2.2.2⟩⟩)⟩, ⟨by (with_reducible repeat (first | apply Kd.N_alloc | apply Kd.N_drewN | apply Kd.N_drew)); exact Kd.N_mono HO_7.out (fun _ hk => ⟨hk.1, ⟨hk.2.1, ⟨hk.2.2.2.1, hk.2.2.2.2⟩⟩⟩)⟩, ⟨re_ HO_464000.out⟩, ⟨be_ BK463.out⟩, ⟨bq_ HB⟩⟩
       rw [if_pos c22] at H
       have c22b0 : decide (x11_3 < (t471.length : Int)) = true := decide_eq_true c22
       clear c22
       obtain ⟨c23b0, H⟩ := ipd_ H
       obtain ⟨tc_, AC0, H⟩ := Option.bind_eq_some_iff.mp H
       obtain ⟨ta_, AP0, H⟩ := Option.bind_eq_some_iff.mp H
       have AC_ := Aside0.mk AC0
       have AP_ := Aside0.mk AP0
       clear AC0 AP0
       have cE : ta_ = (x7_3.length : Int) := by (refine Classical.byContradiction fun c => ?_; rw [if_neg c] at H; cases H)
       rw [if_pos cE] at H
       have HE_ := Aside0.mk cE
       clear cE
       obtain ⟨c24, H⟩ := ip_ H
       have LMc24 := Aside0.mk c24
       clear c24
       obtain ⟨y476, hy476⟩ : ∃ y_ : List (S26), y_ = (x7_3 ++ [(⟨tc_⟩ : S26)]) := ⟨_, rfl⟩
       replace H : (spec_AllOfGenus.l2 k3 a0 x5_1 x6_1 y476 x8_2 t471 (wrap64 (x11_3 + 1))) = some r := by subst hy476; exact H
       have Ny476 := Aside0.mk hy476
       clear hy476
       have H' := Aside0.mk H
       clear H
       obtain ⟨Ao25, co25, eo25⟩ := Kd.N_slice HO_9.out
       subst eo25
       have p475 : 0 ≤ (x11_3 : Int) := od_
       have q475 : x11_3 < (t471.length : Int) := od_
       obtain ⟨ad475, A475_0, c475_0, e475, hx475_0, hl475_0, hi475_0⟩ := at_T26 (Kd.N_reads' HO_9.out).2.2 x11_3 p475 q475
       cases e475
       obtain ⟨ce475, hce475, hMe475, hcc475⟩ := Kd.N_get HO_9.out z26 x11_3 p475 (by first | exact q475 | exact od_ | (have e_ := (Kd.N_reads' HO_9.out).1; omega))
       obtain ⟨ua475_0, uc475_0, rfl, ul475_0, ge475_0⟩ := k26_openF hMe475
       have hv475_0 := hcc475 0 _ rfl
       rw [Nat.add_zero, show (k26).sz = 1 from rfl, Nat.mul_one] at hv475_0
       replace hv475_0 := Option.some.inj (hv475_0.symm.trans hx475_0)
       injection hv475_0 with hva_ hvn_ hvc_
       rw [hva_] at ge475_0
       rw [hvc_] at ul475_0
       have HL475_0 := Aside0.mk (show Kd.V (Kd.int .i64) 3 _ w.heap.size _ _ ((rd_T26 t471 x11_3).f0) from Kd.V_mk ul475_0 ge475_0)
       clear hva_ hvn_ hvc_ ge475_0 ul475_0
       clear hcc475 hce475
       have HR475_0 := Aside0.mk hi475_0
       have HC475_0 := Aside0.mk hl475_0
       clear hi475_0 hl475_0
       replace p475 := eq_true p475
       replace q475 := eq_true q475
       go_wp2_with (first | ((with_reducible refine gate_callee (f := 43) rfl ?_); refine gL_ (some 54) Try.func43 #[u7, .agg #[.slice A475_0 ((rd_T26 t471 x11_3).f0).length c475_0]] ?_; (with_reducible refine (spec_l19Put.calls k3 w.heap.size (fun k_ => (w.heap.size ≤ k_) ∧ some k_ ≠ (.slice (some ad470) x5_1.length co20 : Value).ownBlock ∧ some k_ ≠ (.slice (some ad475) t471.length co25 : Value).ownBlock ∧ some k_ ≠ (.slice Ao9 t459.length co9 : Value).ownBlock ∧ k_ ≠ gb463) u7 x7_3 _ _ ((rd_T26 t471 x11_3).f0) tc_ ta_ w _ ?aB ?aS ?aF ?aO ?aR ?aC ?aL AC_.out AP_.out HE_.out).mono ?_); (case aB => exact (bq_ HB)); (case aS => exact (below_size (bq_ HB))); (case aF => exact (fun k_ hk => ⟨(Nat.le_trans (below_size (bq_ HB)) hk), Kd.fresh' (Kd.N_lt (by (with_reducible repeat (first | apply Kd.N_alloc | apply Kd.N_drewN | apply Kd.N_drew)); exact HO_5.out)) k_ hk, Kd.fresh' (Kd.N_lt (by (with_reducible repeat (first | apply Kd.N_alloc | apply Kd.N_drewN | apply Kd.N_drew)); exact HO_9.out)) k_ hk, Kd.fresh' (Kd.R_lt (re_ HO_464000.out)) k_ hk, Kd.freshB (g := gb463) (o := .cells #[.slice Ao9 t459.length co9] 26 (0, 0)) (be_ BK463.out) k_ hk⟩)); (case aO => exact (by (with_reducible repeat (first | apply Kd.N_alloc | apply Kd.N_drewN | apply Kd.N_drew)); exact HO_7.out)); (case aR => exact HR475_0.out); (case aC => exact HC475_0.out); (case aL => exact LMc24.out); rintro e w26 ⟨v477, rfl, ho, hb, hg, hat⟩; refine ⟨_, rfl, ?_⟩; rw [← Ny476.out] at ho; replace HO_5 := Aside0.mk (Kd.N_afterv (ok := (fun k_ => (w.heap.size ≤ k_) ∧ some k_ ≠ (.slice (some ad475) t471.length co25 : Value).ownBlock ∧ k_ ≠ gb463)) (by (with_reducible repeat (first | apply Kd.N_alloc | apply Kd.N_drewN | apply Kd.N_drew)); exact Kd.N_mono HO_5.out (fun _ hk => ⟨⟨hk.1, ⟨hk.2.2.1, hk.2.2.2⟩⟩, hk.2.1⟩)) hg hat); replace HO_9 := Aside0.mk (Kd.N_afterv (ok := (fun k_ => (w.heap.size ≤ k_) ∧ some k_ ≠ (.slice (some ad470) x5_1.length co20 : Value).ownBlock ∧ some k_ ≠ (.slice Ao9 t459.length co9 : Value).ownBlock ∧ k_ ≠ gb463)) (by (with_reducible repeat (first | apply Kd.N_alloc | apply Kd.N_drewN | apply Kd.N_drew)); exact Kd.N_mono HO_9.out (fun _ hk => ⟨⟨hk.1, ⟨hk.2.1, ⟨hk.2.2.2.1, hk.2.2.2.2⟩⟩⟩, hk.2.2.1⟩)) hg hat); replace HO_464000 := Aside0.mk (Kd.R_over' (re_ HO_464000.out) (Kd.N_typed (by (with_reducible repeat (first | apply Kd.N_alloc | apply Kd.N_drewN | apply Kd.N_drew)); exact HO_7.out)) (by decide) hg); replace BK463 := Aside0.mk (blk_grown (be_ BK463.out) hg (Kd.N_away HO_7.out (fun _ hk => hk.2.2.2.2))); replace HL475_0 := Aside0.mk (Kd.V_afterv (ok := (fun k_ => (w.heap.size ≤ k_) ∧ some k_ ≠ (.slice (some ad470) x5_1.length co20 : Value).ownBlock ∧ some k_ ≠ (.slice (some ad475) t471.length co25 : Value).ownBlock ∧ some k_ ≠ (.slice Ao9 t459.length co9 : Value).ownBlock ∧ k_ ≠ gb463)) (by (with_reducible repeat (first | apply Kd.V_alloc | apply Kd.V_drewN | apply Kd.V_drew)); exact Kd.V_mono HL475_0.out (fun _ hk => ⟨⟨hk.1.1, ⟨hk.1.2.1, ⟨hk.2, ⟨hk.1.2.2.2.1, hk.1.2.2.2.2⟩⟩⟩⟩, hk.1.2.2.1⟩)) hg hat); replace HB := Aside0.mk (hb); have HO478 := Aside0.mk (ho); clear HO_7; clear ho hb hg hat))
       go_roundg k3
       case measure => have := HK1.out; have := HK2.out; have := HK3.out; omega
       case rel => exact ⟨(y476), (wrap64 (x11_3 + 1)), rs_, H', ⟨by have := HK1.out; have := HK2.out; have := HK3.out; omega⟩, ⟨by (with_reducible repeat (first | apply Kd.N_alloc | apply Kd.N_drewN | apply Kd.N_drew)); exact Kd.N_mono HO_5.out (fun _ hk => ⟨hk.1.1, ⟨hk.2, ⟨hk.1.2.1, hk.1.2.2⟩⟩⟩)⟩, ⟨by (with_reducible repeat (first | apply Kd.N_alloc | apply Kd.N_drewN | apply Kd.N_drew)); exact HO478.out⟩, ⟨by (with_reducible repeat (first | apply Kd.N_alloc | apply Kd.N_drewN | apply Kd.N_drew)); exact Kd.N_mono HO_9.out (fun _ hk => ⟨hk.1.1, ⟨hk.1.2.1, ⟨hk.2, ⟨hk.1.2.2.1, hk.1.2.2.2⟩⟩⟩⟩)⟩, ⟨re_ HO_464000.out⟩, ⟨be_ BK463.out⟩, ⟨bq_ HB⟩⟩
def spec_CountGenus.f (k : Nat) (a0 : Int) : Option (Int) := (spec_l1In.f a0 0 8).bind fun t479 => (if t479 = true then ((spec_AllOfGenus.f k a0).bind fun t480 => (some (t480.length : Int))) else (some (-1)))
theorem spec_CountGenus.calls (k : Nat) (a0 : Int) (r : Int) (w : World) (h : spec_CountGenus.f k a0 = some r) :
 Calls Try.prog 21 #[.int .i64 a0] w fun e w' => e = .returned (.int .i64 r) ∧ Below w.heap.size w w' := by
 have HB := Aside0.mk (Below.refl w.heap.size w)
 have H := h
 clear h
 unfold spec_CountGenus.f at H
 obtain ⟨t479, A2, H⟩ := ob_ H
 by_cases c3 : t479 = true
 rotate_left
 · replace c3 := Bool.eq_false_iff.mpr c3
   subst c3
   rw [if_neg (show ¬ (false = true) by decide)] at H
   obtain rfl := Option.some.inj H
   go_enter Try.func21, Try.ntmps21
   go_wp2_with (first | ((with_reducible refine gate_callee (f := 39) rfl ?_); refine gL_ (some 4) Try.func39 #[.int .i64 a0, .int .i64 0, .int .i64 8] ?_; (with_reducible refine (spec_l1In.calls a0 0 8 false _ A2.out).mono ?_); rintro e w' ⟨rfl, ⟨nd, rfl⟩⟩; refine ⟨_, rfl, ?_⟩))
   go_ret
   exact ⟨rf_, bl_ HB.out⟩
 subst c3
 rw [if_pos rfl] at H
 obtain ⟨t480, A4, H⟩ := ob_ H
 obtain rfl := Option.some.inj H
 go_enter Try.func21, Try.ntmps21
 go_wp2_with (first | ((with_reducible refine gate_callee (f := 39) rfl ?_); refine gL_ (some 4) Try.func39 #[.int .i64 a0, .int .i64 0, .int .i64 8] ?_; (with_reducible refine (spec_l1In.calls a0 0 8 true _ A2.out).mono ?_); rintro e w' ⟨rfl, ⟨nd, rfl⟩⟩; refine ⟨_, rfl, ?_⟩) | ((with_reducible refine gate_callee (f := 23) rfl ?_); refine gL_ (some 7) Try.func23 #[.int .i64 a0] ?_; (with_reducible refine (spec_AllOfGenus.calls k a0 t480 _ A4.out).mono ?_); rintro e w5 ⟨v481, rfl, ho0, hb⟩; refine ⟨_, rfl, ?_⟩; have HO482 := Aside0.mk (Kd.N_lower (Kd.N_mono (ok' := fun k_ => True) ho0 (fun k_ hk_ => trivial)) (below_size (bl_ HB.out))); replace HB := bo_ HB hb; (try clear hb); (try clear ho0); obtain ⟨Ao6, co6, eo6⟩ := Kd.N_slice HO482.out; subst eo6))
 go_ret
 exact ⟨rf_, bl_ HB.out⟩
def impl_FrobeniusOf.f (k : Nat) (l0_0 : List Int) : Option (Int) := (impl_Gaps.f k l0_0).bind fun t484 => (if (t484.length : Int) = 0 then (some (-1)) else (if 0 ≤ (wrap64 ((t484.length : Int) - 1)) then (if (wrap64 ((t484.length : Int) - 1)) < (t484.length : Int) then (some (rd t484 (wrap64 ((t484.length : Int) - 1)))) else (none)) else (none)))
theorem impl_FrobeniusOf.calls (k : Nat) (A0_0 : Option Addr) (c0_0 : Nat) (l0_0 : List Int) (r : Int) (w : World) (hr0_0 : Kd.C (Kd.int .i64) w A0_0 l0_0.length l0_0) (hc0_0 : l0_0.length ≤ c0_0) (h : impl_FrobeniusOf.f k l0_0 = some r) :
 Calls Try.prog 75 #[.agg #[.slice A0_0 l0_0.length c0_0]] w fun e w' => e = .returned (.int .i64 r) ∧ Below w.heap.size w w' := by
 have hu26 := Try.underlying26
 have HR0_0 := Aside0.mk hr0_0
 have HC0_0 := Aside0.mk hc0_0
 clear hr0_0 hc0_0
 have HB := Aside0.mk (Below.refl w.heap.size w)
 have H := h
 clear h
 unfold impl_FrobeniusOf.f at H
 obtain ⟨t484, A2, H⟩ := ob_ H
 by_cases c3 : (t484.length : Int) = 0
 · rw [if_pos c3] at H
   have c3b0 : ((t484.length : Int) == 0) = true := beq_iff_eq.mpr c3
   have c3b1 : ((t484.length : Int) != 0) = false := bne_eq_false_iff_eq.mpr c3
   clear c3
   obtain rfl := Option.some.inj H
   go_enter Try.func75, Try.ntmps75
   go_wp2_with (first | ((with_reducible refine gate_dst (N := 1) rfl ?_); refine bx_ 1 #[.slice A0_0 l0_0.length c0_0] 26 ?_; intro gb483 hg w4 hbox hb; have BK483 := Aside0.mk (hbox); have GW483 := gw_ hg HB; have GE483 := gw_ hg HB; replace HB := bo_ HB hb; clear hb hbox hg; have hcz5_0 := cz_ BK483; have hfz5_0 := blk_frozen BK483.out 0) | ((with_reducible refine gate_callee (f := 62) rfl ?_); refine gL_ (some 5) Try.func62 #[.agg #[.slice A0_0 l0_0.length c0_0]] ?_; (with_reducible refine (impl_Gaps.calls k _ _ l0_0 t484 _ ?side1 ?side2 A2.out).mono ?_); (case side1 => exact ch_ HR0_0 HB); (case side2 => exact HC0_0.out); rintro e w6 ⟨v485, rfl, ho0, hb⟩; refine ⟨_, rfl, ?_⟩; have HO486 := Aside0.mk (Kd.R_lower ho0 (below_size (bq_ HB))); replace BK483 := bk_ BK483 hb; replace HB := bp_ HB hb; (try clear hb); (try clear ho0); obtain ⟨Ao7, co7, eo7⟩ := Kd.R_slice HO486.out; subst eo7))
   go_ret
   exact ⟨rf_, bq_ HB⟩
 rw [if_neg c3] at H
 have c3b0 : ((t484.length : Int) == 0) = false := beq_eq_false_iff_ne.mpr c3
 have c3b1 : ((t484.length : Int) != 0) = true := bne_iff_ne.mpr c3
 have c3b2 : ¬ (t484 = []) := fun h_ => c3 (by rw [h_]; rfl)
 obtain ⟨ji8, hji8⟩ : ∃ j_ : Int, (wrap64 ((t484.length : Int) - 1)) = j_ := ⟨_, rfl⟩
 replace H : (if 0 ≤ (ji8) then (if (ji8) < (t484.length : Int) then (some (rd t484 (ji8))) else (none)) else (none)) = some r := by first | (rw [hji8] at H; exact H) | (simp only [hji8] at H ⊢; exact H)
 (try rw [hji8] at A2)
 have hji8w : (IntKind.i64.wrap ((t484.length : Int) - 1)) = ji8 := (i64_w _).trans hji8
 obtain ⟨c9b0, H⟩ := ipd_ H
 obtain ⟨c10b0, H⟩ := ipd_ H
 obtain rfl := Option.some.inj H
 go_enter Try.func75, Try.ntmps75
 go_wp2_with (first | ((with_reducible refine gate_dst (N := 1) rfl ?_); refine bx_ 1 #[.slice A0_0 l0_0.length c0_0] 26 ?_; intro gb483 hg w11 hbox hb; have BK483 := Aside0.mk (hbox); have GW483 := gw_ hg HB; have GE483 := gw_ hg HB; replace HB := bo_ HB hb; clear hb hbox hg; have hcz12_0 := cz_ BK483; have hfz12_0 := blk_frozen BK483.out 0) | ((with_reducible refine gate_callee (f := 62) rfl ?_); refine gL_ (some 5) Try.func62 #[.agg #[.slice A0_0 l0_0.length c0_0]] ?_; (with_reducible refine (impl_Gaps.calls k _ _ l0_0 t484 _ ?side1 ?side2 A2.out).mono ?_); (case side1 => exact ch_ HR0_0 HB); (case side2 => exact HC0_0.out); rintro e w13 ⟨v485, rfl, ho0, hb⟩; refine ⟨_, rfl, ?_⟩; have HO486 := Aside0.mk (Kd.R_lower ho0 (below_size (bq_ HB))); replace BK483 := bk_ BK483 hb; replace HB := bp_ HB hb; (try clear hb); (try clear ho0); obtain ⟨Ao14, co14, eo14⟩ := Kd.R_slice HO486.out; subst eo14; have p487 : 0 ≤ ((ji8) : Int) := od_; have q487 : (ji8) < (t484.length : Int) := od_; obtain ⟨ad487, e487, hx487_0⟩ := Kd.at_int (Kd.R_reads' HO486.out).2.2 (ji8) p487 q487; cases e487; replace p487 := eq_true p487; replace q487 := eq_true q487))
 go_ret
 exact ⟨by first | rfl | (simp [errW_none, errW_some] <;> rfl) | (simp only [← hji8]; first | rfl | (simp [errW_none, errW_some] <;> rfl)) | (simp [*, errW_none, errW_some] <;> rfl), bq_ HB⟩
end Go.Proofs.Ytonknpgfbkgbjaa.PB
end
section
namespace Go.Proofs.Ytonknpgfbkgbjaa.E
open Go.RowKit Go.Proofs.YtonknpgfbkgbjaaW.PrintWords Go.Proofs.YtonknpgfbkgbjaaW.PrintLast Go.Proofs.YtonknpgfbkgbjaaW.PrintMore
set_option linter.unusedVariables false
set_option linter.unusedSimpArgs false
theorem w64 {x : Int} (h1 : -9223372036854775808 ≤ x) (h2 : x ≤ 9223372036854775807) : wrap64 x = x := by
 unfold wrap64; omega
theorem nd_t {p : Prop} [Decidable p] (h : ¬ p) : (!decide p) = true := by simp [h]
theorem nd_f {p : Prop} [Decidable p] (h : p) : ¬ (!decide p) = true := by simp [h]
theorem emod_le_self {n x : Int} (h : 0 ≤ n) (hx : 0 < x) : n % x ≤ n := by
 have h1 := Int.mul_ediv_add_emod n x
 have h2 : 0 ≤ x * (n / x) := Int.mul_nonneg (by omega) (Int.ediv_nonneg h (by omega))
 omega
theorem ev_ifp {α : Type} {c : Prop} [Decidable c] {a b : Nat → Option α} {r : α} (h : c) (k : Ev a r) : Ev (fun n => if c then a n else b n) r :=
 Ev.congr (fun _ => if_pos h) k
theorem ev_ifn {α : Type} {c : Prop} [Decidable c] {a b : Nat → Option α} {r : α} (h : ¬ c) (k : Ev b r) : Ev (fun n => if c then a n else b n) r :=
 Ev.congr (fun _ => if_neg h) k
theorem ev_bind {α β : Type} {g : Nat → Option α} {f : Nat → α → Option β} (a : α) {r : β} (h : Ev g a) (k : Ev (fun n => f n a) r) : Ev (fun n => (g n).bind (f n)) r := Ev.bind h k
theorem ev_one {α : Type} {g : Nat → Option α} {a b : α} (h : Ev g a) (k : Ev g b) : a = b := by
 obtain ⟨K, h⟩ := h
 obtain ⟨L, k⟩ := k
 have h1 := h (max K L) (by omega)
 have h2 := k (max K L) (by omega)
 rw [h1] at h2
 exact Option.some.inj h2
theorem ev_to {α : Type} {g : Nat → Option α} {a b : α} (h : Ev g a) (e : a = b) : Ev g b := e ▸ h
theorem rd_lt {l : List Int} {i : Int} (h0 : 0 ≤ i) (h : i < l.length) : rd l i = l[i.toNat]'(by omega) := by
 unfold rd; rw [List.getD_eq_getElem?_getD, List.getElem?_eq_getElem (by omega)]; rfl
theorem rd_mem {l : List Int} {i : Int} (h0 : 0 ≤ i) (h : i < l.length) : rd l i ∈ l := by
 rw [rd_lt h0 h]; exact List.getElem_mem _
theorem drop_rd {l : List Int} {i : Int} (h0 : 0 ≤ i) (h : i < l.length) : l.drop i.toNat = rd l i :: l.drop (i + 1).toNat := by
 rw [rd_lt h0 h, List.drop_eq_getElem_cons (by omega)]
 congr 2; omega
theorem take_rd {l : List Int} {i : Int} (h0 : 0 ≤ i) (h : i < l.length) : l.take (i + 1).toNat = l.take i.toNat ++ [rd l i] := by
 rw [rd_lt h0 h, show (i + 1).toNat = i.toNat + 1 from by omega, List.take_succ_eq_append_getElem (by omega)]
theorem rd_ext {l m : List Int} (hl : l.length = m.length) (h : ∀ i : Int, 0 ≤ i → i < l.length → rd l i = rd m i) : l = m := by
 refine List.ext_getElem hl fun n h1 h2 => ?_
 have := h n (by omega) (by omega)
 rw [rd_lt (by omega) (by omega), rd_lt (by omega) (by omega)] at this
 simpa using this
theorem rd_set {l : List Int} {i j : Int} (x : Int) (hi : 0 ≤ i) (hi' : i < l.length) (hj : 0 ≤ j) : rd (l.set i.toNat x) j = if j = i then x else rd l j := by
 unfold rd
 rw [List.getD_eq_getElem?_getD, List.getD_eq_getElem?_getD, List.getElem?_set]
 by_cases h : j = i
 · subst h; rw [if_pos rfl, if_pos rfl, if_pos (by omega)]; rfl
 · rw [if_neg h, if_neg (by omega)]
theorem rd_append {l m : List Int} {i : Int} (hi : 0 ≤ i) : rd (l ++ m) i = if i < l.length then rd l i else rd m (i - l.length) := by
 unfold rd
 rw [List.getD_eq_getElem?_getD, List.getD_eq_getElem?_getD, List.getD_eq_getElem?_getD, List.getElem?_append]
 by_cases h : i < l.length
 · rw [if_pos h, if_pos (by omega)]
 · rw [if_neg h, if_neg (by omega), show i.toNat - l.length = (i - l.length).toNat from by omega]
theorem rd_rep {n : Nat} {x : Int} {i : Int} (hi : 0 ≤ i) (h : i < n) : rd (List.replicate n x) i = x := by
 rw [rd_lt hi (by simpa using h)]; simp
theorem mem_rd {l : List Int} {x : Int} (h : x ∈ l) : ∃ i : Int, 0 ≤ i ∧ i < l.length ∧ rd l i = x := by
 obtain ⟨n, hn, rfl⟩ := List.mem_iff_getElem.1 h
 exact ⟨n, by omega, by omega, by rw [rd_lt (by omega) (by omega)]; simp⟩
def resW {α : Type} : Result α → World
 | .ok _ w => w
 | .halt _ w => w
theorem ask_dr {α : Type} : ∀ (k : Ask α) (w : World), w.drawn ≤ (w.ask k).2.drawn
 | .done a, w => Nat.le_refl _
 | .ask what range k, w => by
  unfold World.ask
  simp only
  split
  · exact ask_dr (k 0) w
  · exact Nat.le_trans (Nat.le_succ _) (ask_dr (k _) { w with drawn := w.drawn + 1 })
theorem sys_dr (w : World) (c : Sys) : w.drawn ≤ (w.sys c).2.drawn := by
 have h := ask_dr (Kernel.perform c w.os) w
 unfold World.sys
 split
 · exact Nat.le_refl _
 · rename_i r os w1 _ e; rw [e] at h; exact h
theorem far_dr {p : Program} {w w' : World} {a : Addr} {v : Value} {b : Bool} {t : List Addr} (h : w.farStore p a v b = .ok (w', t)) : w'.drawn = w.drawn := by
 unfold World.farStore at h
 split at h
 · split at h
   · rename_i r e
     injection h with h; subst h
     unfold World.viewStore at e
     simp only [bind, Except.bind, pure, Except.pure, throw, throwThe, MonadExceptOf.throw] at e
     repeat' split at e
     all_goals first | (injection e with e; injection e with e _; rw [← e]) | cases e
   · cases h
 · cases h
theorem freeze_dr (w : World) (a : Addr) (n : Nat) : (w.freeze a n).drawn = w.drawn := by unfold World.freeze; split <;> rfl
theorem runT_dr {α : Type} (p : Program) (s : Sem α) : ∀ (w : World) (es : Array Event), w.drawn ≤ (resW (s.runT p w es).1).drawn := by
 induction s with
 | pure a => intro w es; exact Nat.le_refl _
 | halt h => intro w es; exact Nat.le_refl _
 | load m a k ih =>
  intro w es; unfold Sem.runT
  split
  · exact ih _ w _
  · split
    · exact ih _ w _
    · exact Nat.le_refl _
 | store m a v k ih =>
  intro w es
  have c : w.drawn ≤ (resW (match w.cell? a with
   | some _ => if w.frozen? a then (.halt (.unsupported (.unsafePointer "a write to bytes that a string shares")) w, es) else k.runT p (w.setCell a v) (es.push ⟨.cell a, true, m == .atomic⟩)
   | none => match w.farStore p a v (m == .atomic) with
    | .ok (w, touched) => k.runT p w (es ++ touched.toArray.map (⟨.cell ·, true, m == .atomic⟩))
    | .error h => (.halt h w, es) : Result α × Array Event).1).drawn := by
   split
   · split
     · exact Nat.le_refl _
     · exact ih (w.setCell a v) _
   · split
     · rename_i e; rw [← far_dr e]; exact ih _ _
     · exact Nat.le_refl _
  cases v <;> first | exact c | exact Nat.le_refl _
 | new o k ih => intro w es; exact ih _ { w with heap := w.heap.push o } es
 | shape r k ih => intro w es; exact ih _ w es
 | freeze a n k ih => intro w es; have := ih (w.freeze a n) es; rw [freeze_dr] at this; exact this
 | frozen a k ih => intro w es; exact ih _ w es
 | getObj r k ih => intro w es; unfold Sem.runT; split <;> first | exact Nat.le_refl _ | exact ih _ w _
 | setObj r o k ih => intro w es; unfold Sem.runT; split <;> first | exact Nat.le_refl _ | exact ih { w with heap := w.heap.setIfInBounds r o } _
 | choose q k ih =>
  intro w es; unfold Sem.runT; split
  · exact ih _ w _
  · exact Nat.le_trans (Nat.le_succ _) (ih _ { w with drawn := w.drawn + 1 } _)
 | sys c k ih => intro w es; exact Nat.le_trans (sys_dr w c) (ih _ (w.sys c).2 _)
 | program k ih => intro w es; exact ih p w es
 | mark m k ih => intro w es; exact ih w _
theorem run_dr {α : Type} (p : Program) (s : Sem α) : ∀ (w : World), w.drawn ≤ (resW (s.run p w)).drawn := by
 induction s with
 | pure a => intro w; exact Nat.le_refl _
 | halt h => intro w; exact Nat.le_refl _
 | load m a k ih =>
  intro w; unfold Sem.run
  split
  · exact ih _ w
  · split
    · exact ih _ w
    · exact Nat.le_refl _
 | store m a v k ih =>
  intro w
  have c : w.drawn ≤ (resW (match w.cell? a with
   | some _ => if w.frozen? a then .halt (.unsupported (.unsafePointer "a write to bytes that a string shares")) w else k.run p (w.setCell a v)
   | none => match w.farStore p a v (m == .atomic) with
    | .ok (w, _) => k.run p w
    | .error h => .halt h w : Result α)).drawn := by
   split
   · split
     · exact Nat.le_refl _
     · exact ih (w.setCell a v)
   · split
     · rename_i e; rw [← far_dr e]; exact ih _
     · exact Nat.le_refl _
  cases v <;> first | exact c | exact Nat.le_refl _
 | new o k ih => intro w; exact ih _ { w with heap := w.heap.push o }
 | shape r k ih => intro w; exact ih _ w
 | freeze a n k ih => intro w; have := ih (w.freeze a n); rw [freeze_dr] at this; exact this
 | frozen a k ih => intro w; exact ih _ w
 | getObj r k ih => intro w; unfold Sem.run; split <;> first | exact Nat.le_refl _ | exact ih _ w
 | setObj r o k ih => intro w; unfold Sem.run; split <;> first | exact Nat.le_refl _ | exact ih { w with heap := w.heap.setIfInBounds r o }
 | choose q k ih =>
  intro w; unfold Sem.run; split
  · exact ih _ w
  · exact Nat.le_trans (Nat.le_succ _) (ih _ { w with drawn := w.drawn + 1 })
 | sys c k ih => intro w; exact Nat.le_trans (sys_dr w c) (ih _ (w.sys c).2)
 | program k ih => intro w; exact ih p w
 | mark m k ih => intro w; exact ih w
theorem ran {α : Type} {p : Program} {s : Sem α} {w : World} {r : Result α} (h : s.run p w = r) : w.drawn ≤ (resW r).drawn := h ▸ run_dr p s w
theorem ranT {α : Type} {p : Program} {s : Sem α} {w : World} {es es' : Array Event} {r : Result α} (h : s.runT p w es = (r, es')) : w.drawn ≤ (resW r).drawn := by
 have := runT_dr p s w es; rw [h] at this; exact this
def GOk (d : Nat) : GStep → Prop
 | .ended .. => True
 | .go _ w _ | .comm _ _ _ _ w _ | .spawn _ _ w _ | .count _ w _ | .timer _ _ w _ | .alone _ _ w _ | .newcoro _ _ _ w _ | .coroswitch _ _ _ w _ | .collect _ w _ | .watch _ w _ => d ≤ w.drawn
theorem GOk.after {d : Nat} {es : Array Event} {s : GStep} (h : GOk d s) : GOk d (GStep.after es s) := by cases s <;> exact h
theorem GOk.up {d d' : Nat} {s : GStep} (h : GOk d s) (k : d' ≤ d) : GOk d' s := by cases s <;> first | trivial | exact Nat.le_trans k h
theorem doReturn_dr (p : Program) (main : Bool) (fr : Frame) (cs : List Frame) (dy : Option Dying) (v : Value) (w : World) : GOk w.drawn (doReturn p main fr cs dy v w) := by
 unfold doReturn
 repeat' split
 all_goals first | trivial | exact Nat.le_refl _
theorem endWith_dr (w : World) (fd : Nat) (t : ByteArray) (o : Outcome) (d : Nat) : GOk d (endWith w fd t o) := by
 unfold endWith; simp only
 repeat' split
 all_goals trivial
theorem endThrow_dr (fr : Frame) (m : String) (w : World) : GOk w.drawn (endThrow fr m w) := Nat.le_refl _
theorem endPrinting_dr (p : Program) (fr : Frame) (v : Value) (w : World) : GOk w.drawn (endPrinting p fr v w) := by
 unfold endPrinting; simp only
 split
 · exact endThrow_dr _ _ _
 · trivial
theorem endFatal_dr (p : Program) (fr : Frame) (cs : List Frame) (dy : Option Dying) (m : String) (w : World) : GOk w.drawn (endFatal p fr cs dy m w) := by
 unfold endFatal; simp only
 split
 · rename_i h; exact ran h
 · trivial
 · trivial
theorem GOk.ite {c : Prop} [Decidable c] {d : Nat} {a b : GStep} (h : GOk d a) (k : GOk d b) : GOk d (if c then a else b) := by split <;> assumption
theorem callDeferred_dr (p : Program) (fr : Frame) (cs : List Frame) (dy : Option Dying) (df : Deferred) (w : World) : GOk w.drawn (callDeferred p fr cs dy df w) := by
 unfold callDeferred
 refine GOk.ite trivial ?_
 have h := runT_dr p (invoke df.target df.args) w #[]
 generalize (invoke df.target df.args).runT p w #[] = y at h ⊢
 obtain ⟨r, es⟩ := y
 simp only
 refine GOk.after ?_
 split
 all_goals first | trivial | exact h | (split <;> exact h) | exact (endFatal_dr _ _ _ _ _ _).up h | exact (endThrow_dr _ _ _).up h
theorem unwind_dr (p : Program) (main : Bool) (fr : Frame) (cs : List Frame) (dy : Option Dying) (w : World) : GOk w.drawn (unwind p main fr cs dy w) := by
 unfold unwind
 split
 · rename_i b _ ds _
   have h := runT_dr p (Instr.takeDeferred b) w #[]
   generalize (Instr.takeDeferred b).runT p w #[] = y at h ⊢
   obtain ⟨r, es⟩ := y
   simp only
   refine GOk.after ?_
   split
   · exact h
   · trivial
 · exact callDeferred_dr _ _ _ _ _ _
 · split
   · trivial
   · split
     · trivial
     · split
       · exact Nat.le_refl _
       · split
         · split
           · exact Nat.le_refl _
           · split
             · rename_i h; exact ran h
             · trivial
             · trivial
         · split
           · exact endPrinting_dr _ _ _ _
           · trivial
   · split
     · exact doReturn_dr _ _ _ _ _ _ _
     · rename_i fn _
       have h := runT_dr p (results fn fr.tmps) w #[]
       generalize (results fn fr.tmps).runT p w #[] = y at h ⊢
       obtain ⟨r, es⟩ := y
       simp only
       refine GOk.after ?_
       split
       · exact (doReturn_dr _ _ _ _ _ _ _).up h
       · trivial
       · trivial
theorem writeOn_dr (p : Program) (fr : Frame) (dy : Dying) (f : Fatal) (w : World) : GOk w.drawn (writeOn p fr dy f w) := by
 unfold writeOn; simp only
 split
 · trivial
 · split <;> first | trivial | (rename_i h; exact ranT h)
theorem die_dr (p : Program) (fr : Frame) (dy : Dying) (w : World) : GOk w.drawn (die p fr dy w) := by
 unfold die
 split
 · exact writeOn_dr _ _ _ _ _
 · split
   · split
     · exact Nat.le_refl _
     · exact endWith_dr _ _ _ _ _
   · split
     · exact Nat.le_refl _
     · split
       · rename_i h; exact ran h
       · trivial
     · rename_i t recv name _
       have h := runT_dr p (invoke (.fn (.method name) #[]) #[.iface t recv]) w #[]
       generalize (invoke (.fn (.method name) #[]) #[.iface t recv]).runT p w #[] = y at h ⊢
       obtain ⟨r, es⟩ := y
       simp only
       refine GOk.after ?_
       split
       · exact h
       · exact h
       · trivial
       · exact (endPrinting_dr _ _ _ _).up h
       · trivial
     · trivial
theorem early_dr (p : Program) (fr : Frame) (cs : List Frame) (dy : Option Dying) (g : Nat) (w : World) : GOk w.drawn (early p fr cs dy g w) := by
 have N : ∀ W : World, GOk W.drawn (match W.heap[g]? with
  | some (.pending c elem) => GStep.go { frame := fr, callers := cs, status := .running, dying := dy } { W with heap := W.heap.setIfInBounds g (.cells c elem) }
  | _ => .ended (.stuck "early: the variable does not wait" (fr.pos p)) W) := fun W => by
  split
  · exact Nat.le_refl _
  · trivial
 unfold early; simp only
 split
 · exact N w
 split
 · trivial
 split
 · exact N w
 split
 · exact N w
 split
 · trivial
 · exact Nat.le_refl _
 · trivial
 · exact N w
 · split
   · exact Nat.le_refl _
   split
   · exact N w
   split
   · rename_i h; exact (N _).up (ran h)
   · rename_i h; exact ran h
   · trivial
theorem apply_dr (p : Program) (listen : Bool) (fr : Frame) (cs : List Frame) (dy : Option Dying) (s : Sem Next) (w : World) : GOk w.drawn (stepG.apply p listen fr cs dy s w) := by
 unfold stepG.apply
 have h : w.drawn ≤ (resW (if listen then s.runT p w #[] else (s.run p w, #[])).1).drawn := by
  split
  · exact runT_dr p s w #[]
  · exact run_dr p s w
 generalize (if listen then s.runT p w #[] else (s.run p w, #[])) = y at h ⊢
 obtain ⟨r, es⟩ := y
 simp only
 refine GOk.after ?_
 split
 all_goals first | trivial | exact h | (refine GOk.ite ?_ ?_ <;> first | exact (endThrow_dr _ _ _).up h | exact h) | exact (endFatal_dr _ _ _ _ _ _).up h | exact (endThrow_dr _ _ _).up h | exact (early_dr _ _ _ _ _ _).up h | (split <;> first | exact h | trivial)
theorem oper_dr (p : Program) (listen : Bool) (fr : Frame) (cs : List Frame) (dy : Option Dying) (w : World) : GOk w.drawn (stepG.oper p listen fr cs dy w) := by
 unfold stepG.oper
 split
 · trivial
 · split <;> exact apply_dr _ _ _ _ _ _ _
theorem ranF {α : Type} {p : Program} {s : Sem α} {w : World} {es : Array Event} {r : Result α} (h : (s.runT p w es).1 = r) : w.drawn ≤ (resW r).drawn := h ▸ runT_dr p s w es
theorem exec_dr (p : Program) (main listen : Bool) (fr : Frame) (cs : List Frame) (dy : Option Dying) (w : World) : GOk w.drawn (stepG.exec p main listen fr cs dy w) := by
 have L : ∀ (g : GStep) (j : Option Code), GOk w.drawn g → GOk w.drawn (match fr.roundOf with
  | none => g
  | some l =>
   GStep.after (seen p fr.fn (Sem.runT p (Instr.endRound l j) w #[]).snd)
    (match (Sem.runT p (Instr.endRound l j) w #[]).fst with
    | .ok v w => doReturn p main fr cs dy v w
    | .halt h w => .ended (.stuck "range over a function: no such loop" (fr.pos p)) w)) := fun g j hg => by
  split
  · exact hg
  · refine GOk.after ?_
    split
    · rename_i h; exact (doReturn_dr _ _ _ _ _ _ _).up (ranF h)
    · trivial
 have G : ∀ {α : Type} (o : Option α) (g : GStep) (f : α → GStep), GOk w.drawn g → (∀ a, GOk w.drawn (f a)) → GOk w.drawn (o.elim g f) := fun o g f h k => by cases o <;> first | exact h | exact k _
 unfold stepG.exec
 simp only
 split
 all_goals first | exact L _ _ (GOk.ite (Nat.le_refl _) trivial) | exact Nat.le_refl _ | trivial | exact apply_dr _ _ _ _ _ _ _ | skip
 all_goals try (refine G _ _ _ ?_ (fun _ => ?_) <;> first | exact L _ _ (GOk.ite (Nat.le_refl _) trivial) | exact L _ _ trivial | trivial | exact Nat.le_refl _ | exact apply_dr _ _ _ _ _ _ _)
 all_goals try refine GOk.after ?_
 all_goals repeat' split
 all_goals first | trivial | exact Nat.le_refl _ | exact oper_dr _ _ _ _ _ _ | (rename_i h; exact (apply_dr _ _ _ _ _ _ _).up (ranF h)) | (rename_i h; exact ranF h) | (rename_i h; exact ran h) | skip
theorem stepG_dr (p : Program) (main : Bool) (g : Goroutine) (w : World) (listen : Bool) : GOk w.drawn (stepG p main g w listen) := by
 unfold stepG
 simp only
 split
 · exact die_dr _ _ _ _
 · exact exec_dr _ _ _ _ _ _ _
 · exact unwind_dr _ _ _ _ _ _
def SOk (d : Nat) : Stepped → Prop
 | .next m => d ≤ m.world.drawn
 | .ended .. => True
theorem look_dr (p : Program) (gs : Array Goroutine) (rest : Rest) (w : World) : SOk w.drawn (look p gs rest w) := by
 unfold look
 simp only
 split
 · split
   · trivial
   · split
     · trivial
     · split
       · rename_i h; exact ran h
       · trivial
       · trivial
 · trivial
theorem waiting_dr {rest : Rest} {cases : Array CommCase} {w w' : World} (h : waitingAt rest cases w = some w') : w'.drawn = w.drawn := by
 unfold waitingAt at h
 split at h
 · split at h
   · injection h with h; rw [← h]
   · cases h
 · injection h with h; rw [h]
theorem comm_dr (p : Program) (rest : Rest) (gs : Array Goroutine) (i : Nat) (g : Goroutine) (cases : Array CommCase) (b : Bool) (sh : CommShape) (w : World) : SOk w.drawn (communicate p rest gs i g cases b sh w).1 := by
 unfold communicate
 simp only
 split
 · trivial
 · split
   · split
     · split
       · rename_i h; exact Nat.le_of_eq (waiting_dr h).symm
       · trivial
     · exact Nat.le_refl _
   · split
     · trivial
     · rename_i h
       have h := ran h
       split
       · split
         · rename_i h2; exact Nat.le_trans h (ran h2)
         · trivial
       · exact h
       · exact h
       · split
         · exact h
         · split
           · rename_i h2; exact Nat.le_trans h (ran h2)
           · trivial
       · exact h
       · exact h
       · trivial
theorem SOk.up {d d' : Nat} {s : Stepped} (h : SOk d s) (k : d' ≤ d) : SOk d' s := by cases s <;> first | trivial | exact Nat.le_trans k h
theorem serve_dr (p : Program) (m : Machine) (k : Nat) : SOk m.world.drawn (serve p m k) := by
 unfold serve
 split
 · trivial
 · exact Nat.le_refl _
 · simp only
   split
   · trivial
   · exact Nat.le_refl _
theorem drain_dr (w : World) (c : Nat) : (drain w c).2.drawn = w.drawn := by unfold drain; split <;> rfl
theorem retime_dr (m : Machine) (k : Nat) (t : Timer) (a b : Nat) : (retime m k t a b).2.world.drawn = m.world.drawn := by
 unfold retime
 cases t.chan with
 | none => rfl
 | some c => exact drain_dr _ _
theorem named_dr {m : Machine} {var : Addr} {f : Nat → Timer → Value × Machine} {d : Nat} (hf : ∀ k t, (f k t).2.world.drawn = d) {v : Value} {m' : Machine} (h : timerOp.named m var f = .ok (v, m')) : m'.world.drawn = d := by
 unfold timerOp.named at h
 split at h
 · injection h with h; rw [← hf _ _, h]
 · cases h
theorem timer_dr {m m' : Machine} {op : TimerOp} {v : Value} (h : timerOp m op = .ok (v, m')) : m'.world.drawn = m.world.drawn := by
 unfold timerOp at h
 split at h
 · split at h
   · injection h with h; injection h with _ h; rw [← h]; rfl
   · split at h
     · split at h
       · cases h
       · injection h with h; injection h with _ h; rw [← h]
     · cases h
 · exact named_dr (fun _ _ => retime_dr _ _ _ _ _) h
 · split at h
   · rename_i m1 e
     have : m1.world.drawn = m.world.drawn := by
      unfold timerOp.opened at e
      split at e
      · split at e
        · injection e with e; rw [← e]
        · cases e
      · injection e with e; rw [e]
     rw [← this]
     exact named_dr (fun _ _ => retime_dr _ _ _ _ _) h
   · cases h
 · simp only at h; injection h with h; injection h with _ h; rw [← h]; rfl
theorem runG_dr (p : Program) (m : Machine) (i : Nat) (listen : Bool) : SOk m.world.drawn (runT p m i listen).1 := by
 unfold runT
 simp only
 generalize hg : (m.gs.swapAt! i { (default : Goroutine) with status := .finished }) = y
 obtain ⟨g, gs⟩ := y
 simp only
 have h := stepG_dr p (i == 0) g m.world listen
 generalize stepG p (i == 0) g m.world listen = s at h ⊢
 cases s with
 | ended o w es => trivial
 | comm g c b sh w es =>
  exact (comm_dr p m.rest gs i g c b sh w).up h
 | go g w es => exact h
 | spawn g c w es => exact h
 | count g w es =>
  simp only
  split
  · trivial
  · exact h
 | alone g on w es => exact h
 | collect g w es =>
  exact (look_dr p (gs.setIfInBounds i g) m.rest w).up h
 | watch g w es => exact h
 | newcoro g c d w es => exact h
 | coroswitch g c e w es =>
  simp only
  split
  · exact h
  · exact h
  · trivial
 | timer g op w es =>
  simp only
  split
  · rename_i e; exact Nat.le_trans h (Nat.le_of_eq (timer_dr e).symm)
  · exact h
  · trivial
  · trivial
def MOk (d : Nat) : Move → Prop
 | .goroutine m _ => d ≤ m.world.drawn
 | .machine s _ => SOk d s
theorem MOk.up {d d' : Nat} {s : Move} (h : MOk d s) (k : d' ≤ d) : MOk d' s := by
 cases s
 · exact Nat.le_trans k h
 · exact SOk.up h k
theorem askOn_dr (p : Program) (m : Machine) : MOk m.world.drawn (askOn p m) := by
 have P : ∀ (m1 : Machine) (rs : List Nat), m.world.drawn ≤ m1.world.drawn → MOk m.world.drawn (match (choose (.sched rs.length)).run p m1.world with
  | .halt _ w => .machine (.ended (.stuck "sched" "") w)
  | .ok k world =>
   if rs.length ≤ 1 then .goroutine { m1 with world } (rs.getD k 0) else
   match (choose (.extern "sched.slice" 65536)).run p world with
   | .halt _ w => .machine (.ended (.stuck "sched.slice" "") w)
   | .ok n world => .goroutine { m1 with world, rest := { m1.rest with slice := if n = 0 then none else some (rs.getD k 0, n) } } (rs.getD k 0)) := fun m1 rs h => by
  split
  · trivial
  · rename_i h1
    have h1 := Nat.le_trans h (ran h1)
    split
    · exact h1
    · split
      · trivial
      · rename_i h2; exact Nat.le_trans h1 (ran h2)
 unfold askOn
 simp only
 split
 · trivial
 · rename_i h
   have h := ran h
   split
   · exact (serve_dr p _ _).up h
   · split
     · split
       · exact h
       · split
         · exact h
         · split <;> trivial
     · split
       · exact P ⟨_, m.gs, m.rest⟩ _ h
       · split
         · trivial
         · rename_i h2; exact P ⟨_, m.gs, m.rest⟩ _ (Nat.le_trans h (ran h2))
         · rename_i h2; exact Nat.le_trans h (ran h2)
         · rename_i h2; exact P (Machine.advanceTo ⟨_, m.gs, m.rest⟩ _) _ (Nat.le_trans h (ran h2))
theorem asks_dr (p : Program) (m : Machine) : MOk m.world.drawn (ask p m) := by
 unfold ask
 split
 · split
   · trivial
   · rename_i w h
     have h := ran h
     split
     · rename_i e
       have l := look_dr p m.gs m.rest w
       rw [e] at l
       exact (askOn_dr p _).up (Nat.le_trans h l)
     · rename_i e _
       exact (look_dr p m.gs m.rest w).up h
   · rename_i h
     exact (askOn_dr p _).up (ran h)
 · exact askOn_dr p m
theorem move_dr (p : Program) (m : Machine) : MOk m.world.drawn (move p m) := by
 unfold move
 split
 · split
   · exact Nat.le_refl _
   · trivial
 · split
   · split
     · exact Nat.le_refl _
     · exact asks_dr p _
   · exact asks_dr p m
theorem step_dr (p : Program) (m : Machine) : SOk m.world.drawn (step p m) := by
 unfold step stepT
 have h := move_dr p m
 generalize move p m = y at h ⊢
 cases y with
 | goroutine m1 i => exact (runG_dr p m1 i true).up h
 | machine s ops => exact h
theorem runN_dr (p : Program) : ∀ (n : Nat) (m : Machine), SOk m.world.drawn (runN p n m)
 | 0, m => Nat.le_refl _
 | n + 1, m => by
  have h := step_dr p m
  unfold runN
  generalize step p m = y at h ⊢
  cases y with
  | next m1 => exact (runN_dr p n m1).up h
  | ended o w => trivial
theorem steps_dr {p : Program} {m m' : Machine} (h : Steps p m m') : m.world.drawn ≤ m'.world.drawn := by
 obtain ⟨n, hn⟩ := h
 have := runN_dr p n m
 rw [hn] at this
 exact this
theorem calls_drawn {P : Program} {f : FuncId} {args : Array Value} {w : World} {R : Ending → World → Prop} (h : Calls P f args w R) : Calls P f args w fun e w' => R e w' ∧ ((∃ v, e = .returned v) → w.drawn ≤ w'.drawn) := fun cs => by
 obtain ⟨e, w', fr, hR, hc, hf, hl⟩ := h cs
 refine ⟨e, w', fr, ⟨hR, ?_⟩, hc, hf, hl⟩
 rintro ⟨v, rfl⟩
 exact steps_dr hc
theorem grow_of_below {w w' : World} (h : Below w.heap.size w w') (d : w.drawn ≤ w'.drawn) : ∃ q os', w' = Go.Sort.grow (w.drewN q) os' := by
 refine ⟨w'.drawn - w.drawn, w'.heap.extract w.heap.size w'.heap.size, ?_⟩
 obtain ⟨h1, h2, h3, h4, h5⟩ := h
 cases w with
 | mk H T D O U =>
  cases w' with
  | mk H' T' D' O' U' =>
   simp only at h1 h2 h3 h4 h5 d
   subst h1 h2 h3
   unfold Go.Sort.grow World.drewN
   simp only [World.mk.injEq, true_and, and_true]
   refine ⟨?_, by omega⟩
   refine Array.ext_getElem? fun i => ?_
   rw [Array.getElem?_append]
   split
   · rename_i hi; exact h5 i hi
   · rename_i hi
     rw [Array.getElem?_extract]
     split
     · congr 1; omega
     · rw [Array.getElem?_eq_none]; omega
end Go.Proofs.Ytonknpgfbkgbjaa.E
end
section
namespace Go.Proofs
open Go.Shelf
def Try.laysF_ren : Go.Shelf.Ren := ⟨fun | 6 => 77 | 15 => 101 | 14 => 100 | 28 => 115 | 29 => 116 | 20 => 107 | 21 => 108 | 22 => 109 | 23 => 110 | 24 => 111 | 25 => 112 | 26 => 113 | 27 => 114 | 46 => 127 | 47 => 128 | 48 => 129 | 49 => 130 | 50 => 131 | 57 => 135 | n => n, fun | 22 => 29 | 24 => 26 | 25 => 65 | 3 => 3 | 39 => 79 | 0 => 0 | 53 => 90 | 55 => 92 | 4 => 4 | 46 => 83 | 45 => 82 | 50 => 87 | 5 => 5 | 9 => 9 | 66 => 98 | 70 => 102 | 76 => 106 | 77 => 107 | n => n, fun | n => n⟩
theorem Try.laysF : Go.Proofs.SlLaysF0.n6 Try.prog Try.laysF_ren := {
 mixed := by kernel_rfl
 f6 := ⟨Try.f77.name, by decide, Try.func77.trans (congrArg some (by kernel_rfl))⟩
 f14 := ⟨Try.f100.name, by decide, Try.func100.trans (congrArg some (by kernel_rfl))⟩
 f15 := Try.func101.trans (congrArg some (by kernel_rfl))
 f20 := ⟨Try.f107.name, by decide, Try.func107.trans (congrArg some (by kernel_rfl))⟩
 f21 := ⟨Try.f108.name, by decide, Try.func108.trans (congrArg some (by kernel_rfl))⟩
 f22 := ⟨Try.f109.name, by decide, Try.func109.trans (congrArg some (by kernel_rfl))⟩
 f23 := ⟨Try.f110.name, by decide, Try.func110.trans (congrArg some (by kernel_rfl))⟩
 f24 := ⟨Try.f111.name, by decide, Try.func111.trans (congrArg some (by kernel_rfl))⟩
 f25 := ⟨Try.f112.name, by decide, Try.func112.trans (congrArg some (by kernel_rfl))⟩
 f26 := ⟨Try.f113.name, by decide, Try.func113.trans (congrArg some (by kernel_rfl))⟩
 f27 := ⟨Try.f114.name, by decide, Try.func114.trans (congrArg some (by kernel_rfl))⟩
 f28 := Try.func115.trans (congrArg some (by kernel_rfl))
 f29 := Try.func116.trans (congrArg some (by kernel_rfl))
 f46 := ⟨Try.f127.name, by decide, Try.func127.trans (congrArg some (by kernel_rfl))⟩
 f47 := Try.func128.trans (congrArg some (by kernel_rfl))
 f48 := Try.func129.trans (congrArg some (by kernel_rfl))
 f49 := ⟨Try.f130.name, by decide, Try.func130.trans (congrArg some (by kernel_rfl))⟩
 f50 := ⟨Try.f131.name, by decide, Try.func131.trans (congrArg some (by kernel_rfl))⟩
 f57 := ⟨Try.f135.name, by decide, Try.func135.trans (congrArg some (by kernel_rfl))⟩
 t0 := Try.underlying0
 a0 := Try.isAgg0
 z0 := Try.sizeOf0
 v0 := Try.zeroValue0
 t3 := Try.underlying3
 a3 := Try.isAgg3
 z3 := Try.sizeOf3
 v3 := Try.zeroValue3
 t4 := Try.underlying4
 a4 := Try.isAgg4
 z4 := Try.sizeOf4
 v4 := Try.zeroValue4
 t5 := Try.underlying5
 a5 := Try.isAgg5
 z5 := Try.sizeOf5
 v5 := Try.zeroValue5
 t9 := Try.underlying9
 a9 := Try.isAgg9
 z9 := Try.sizeOf9
 v9 := Try.zeroValue9
 t22 := Try.underlying29
 a22 := Try.isAgg29
 z22 := Try.sizeOf29
 v22 := Try.zeroValue29
 t25 := Try.underlying65
 a25 := Try.isAgg65
 z25 := Try.sizeOf65
 v25 := Try.zeroValue65
 t39 := Try.underlying79
 a39 := Try.isAgg79
 z39 := Try.sizeOf79
 v39 := Try.zeroValue79
 t45 := Try.underlying82
 a45 := Try.isAgg82
 z45 := Try.sizeOf82
 v45 := Try.zeroValue82
 t46 := Try.underlying83
 a46 := Try.isAgg83
 z46 := Try.sizeOf83
 v46 := Try.zeroValue83
 t50 := Try.underlying87
 a50 := Try.isAgg87
 z50 := Try.sizeOf87
 v50 := Try.zeroValue87
 t53 := Try.underlying90
 a53 := Try.isAgg90
 z53 := Try.sizeOf90
 v53 := Try.zeroValue90
 t55 := Try.underlying92
 a55 := Try.isAgg92
 z55 := Try.sizeOf92
 v55 := Try.zeroValue92
 t66 := Try.underlying98
 a66 := Try.isAgg98
 z66 := Try.sizeOf98
 v66 := Try.zeroValue98
 t70 := Try.underlying102
 a70 := Try.isAgg102
 z70 := Try.sizeOf102
 v70 := Try.zeroValue102
 t76 := Try.underlying106
 a76 := Try.isAgg106
 z76 := Try.sizeOf106
 v76 := Try.zeroValue106
 t77 := Try.underlying107
 a77 := Try.isAgg107
 z77 := Try.sizeOf107
 v77 := Try.zeroValue107 }
end Go.Proofs
end
