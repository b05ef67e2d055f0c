-- Bundled by shake.py from this session's printed and written texts; Lean checks it.
import Derived.Test.YtonknpgfbkgbjaaZFnExactCountGenusx1
import Derived.Test.YtonknpgfbkgbjaaZFnExactCountGenusx2
import Derived.Test.YtonknpgfbkgbjaaZFnExactCountGenusx3
import Derived.Test.YtonknpgfbkgbjaaZFnExactCountGenusx7
import Derived.Test.YtonknpgfbkgbjaaZFnExactCountGenusx8
section
namespace Go.Proofs.Ytonknpgfbkgbjaa.PB
open Go.RowKit Go.Proofs.YtonknpgfbkgbjaaW.PrintWords Go.Proofs.YtonknpgfbkgbjaaW.PrintLast Go.Proofs.YtonknpgfbkgbjaaW.PrintMore
attribute [local go_sem] max2_int min2_int max_two min_two max_three min_three max_four min_four
set_option linter.unusedVariables false
set_option linter.unusedSimpArgs false
set_option maxHeartbeats 8000000
set_option maxRecDepth 100000
def slices_Index_int_int.l0 : Nat → List Int → Int → Int → Int → Option (Int)
 | 0, _, _, _, _ => none
 | k + 1, x0, x1, x7, x8 => if x8 < x7 then (if 0 ≤ x8 then (if x8 < (x0.length : Int) then (if x1 = (rd x0 x8) then (some x8) else (slices_Index_int_int.l0 k x0 x1 x7 (wrap64 (x8 + 1)))) else (none)) else (none)) else (some (-1))
def slices_Index_int_int.f (k : Nat) (l0 : List Int) (a1 : Int) : Option (Int) := slices_Index_int_int.l0 k l0 a1 (l0.length : Int) 0
theorem slices_Index_int_int.calls (k : Nat) (A0 : Option Addr) (c0 : Nat) (l0 : List Int) (a1 : Int) (r : Int) (w : World) (hr0 : Kd.C (Kd.int .i64) w A0 l0.length l0) (hc0 : l0.length ≤ c0) (h : slices_Index_int_int.f k l0 a1 = some r) :
 Calls Try.prog 106 #[.slice A0 l0.length c0, .int .i64 a1] w fun e w' => e = .returned (.int .i64 r) ∧ Drawn0 w w' := by
 have HR0 := Aside0.mk hr0
 have HC0 := Aside0.mk hc0
 clear hr0 hc0
 have H := h
 clear h
 unfold slices_Index_int_int.f at H
 have H' := Aside0.mk H
 clear H
 go_enter Try.func106, Try.ntmps106
 go_wp2
 go_loopg [8] k (fun kq v8 w' => ∃ (x8_1 : Int), v8 = .int .i64 x8_1 ∧ Aside0 (slices_Index_int_int.l0 kq l0 a1 (l0.length : Int) x8_1 = some r) ∧ Aside0 (kq ≤ k) ∧ Drawn0 w w')
 case atStart => exact ⟨(0), rs_, H', ⟨Nat.le_refl _⟩, by repeat (first | exact Drawn0.refl _ | apply Drawn0.step)⟩
 case round =>
  clear H'
  obtain ⟨x8_1, rfl, HA, HK1, ⟨m1, rfl⟩⟩ := hrel
  cases gk with
  | zero => exact absurd HA.out (by simp [slices_Index_int_int.l0])
  | succ k1 =>
   have H := HA.out
   clear HA
   simp only [slices_Index_int_int.l0] at H
   by_cases c3 : x8_1 < (l0.length : Int)
   rotate_left
   · rw [if_neg c3] at H
     have c3b0 : decide (x8_1 < (l0.length : Int)) = false := decide_eq_false c3
     clear c3
     obtain rfl := Option.some.inj H
     go_wp2
     go_ret
     exact ⟨by first | rfl | (simp; done) | (simp [*]; done), by repeat (first | exact Drawn0.refl _ | apply Drawn0.step)⟩
   rw [if_pos c3] at H
   have c3b0 : decide (x8_1 < (l0.length : Int)) = true := decide_eq_true c3
   clear c3
   obtain ⟨c4b0, H⟩ := ipd_ H
   obtain ⟨c5b0, H⟩ := ipd_ H
   by_cases c6 : a1 = (rd l0 x8_1)
   · rw [if_pos c6] at H
     have c6b0 : (a1 == (rd l0 x8_1)) = true := beq_iff_eq.mpr c6
     have c6b1 : (a1 != (rd l0 x8_1)) = false := bne_eq_false_iff_eq.mpr c6
     clear c6
     obtain rfl := Option.some.inj H
     have p707 : 0 ≤ (x8_1 : Int) := od_
     have q707 : x8_1 < (l0.length : Int) := od_
     obtain ⟨ad707, e707, hx707_0⟩ := Kd.at_int HR0.out x8_1 p707 q707
     cases e707
     replace p707 := eq_true p707
     replace q707 := eq_true q707
     go_wp2
     go_ret
     exact ⟨by first | rfl | (simp; done) | (simp [*]; done), by repeat (first | exact Drawn0.refl _ | apply Drawn0.step)⟩
   rw [if_neg c6] at H
   have c6b0 : (a1 == (rd l0 x8_1)) = false := beq_eq_false_iff_ne.mpr c6
   have c6b1 : (a1 != (rd l0 x8_1)) = true := bne_iff_ne.mpr c6
   have H' := Aside0.mk H
   clear H
   have p707 : 0 ≤ (x8_1 : Int) := od_
   have q707 : x8_1 < (l0.length : Int) := od_
   obtain ⟨ad707, e707, hx707_0⟩ := Kd.at_int HR0.out x8_1 p707 q707
   cases e707
   replace p707 := eq_true p707
   replace q707 := eq_true q707
   go_wp2
   go_roundg k1
   case measure => have := HK1.out; omega
   case rel => exact ⟨(wrap64 (x8_1 + 1)), rs_, H', ⟨by have := HK1.out; omega⟩, by repeat (first | exact Drawn0.refl _ | apply Drawn0.step)⟩
def slices_Contains_int_int.f (k : Nat) (l0 : List Int) (a1 : Int) : Option (Bool) := (slices_Index_int_int.f k l0 a1).bind fun t708 => (some (decide (t708 ≥ 0)))
theorem slices_Contains_int_int.calls (k : Nat) (A0 : Option Addr) (c0 : Nat) (l0 : List Int) (a1 : Int) (r : Bool) (w : World) (hr0 : Kd.C (Kd.int .i64) w A0 l0.length l0) (hc0 : l0.length ≤ c0) (h : slices_Contains_int_int.f k l0 a1 = some r) :
 Calls Try.prog 99 #[.slice A0 l0.length c0, .int .i64 a1] w fun e w' => e = .returned (.bool r) ∧ Drawn0 w w' := by
 have HR0 := Aside0.mk hr0
 have HC0 := Aside0.mk hc0
 clear hr0 hc0
 have H := h
 clear h
 unfold slices_Contains_int_int.f at H
 obtain ⟨t708, A3, H⟩ := ob_ H
 obtain rfl := Option.some.inj H
 go_enter Try.func99, Try.ntmps99
 go_wp2_with (first | ((with_reducible refine gate_callee (f := 106) rfl ?_); refine gL_ (some 7) Try.func106 #[.slice A0 l0.length c0, .int .i64 a1] ?_; (with_reducible refine (slices_Index_int_int.calls k _ _ l0 a1 t708 _ ?side1 ?side2 A3.out).mono ?_); (case side1 => exact ce_ (HR0.out)); (case side2 => exact HC0.out); rintro e w' ⟨rfl, ⟨nd, rfl⟩⟩; refine ⟨_, rfl, ?_⟩))
 go_ret
 exact ⟨by first | rfl | (simp; done) | (simp [*]; done), by repeat (first | exact Drawn0.refl _ | apply Drawn0.step)⟩
def impl_RemoveGenerator.j0 : Nat → Int → Bool → List Int → Option (List Int × Bool)
 | 0, _, _, _ => none
 | k + 1, x1, x15, x710000 => if x15 = true then (some (([] : List Int), false)) else ((impl_Gaps.f k x710000).bind fun t713 => (if t713.length < 17592186044416 then ((impl_SortList.f k (t713 ++ [x1])).bind fun t719 => ((impl_FromGaps.f k t719).bind fun bt722 => (some (bt722.1, bt722.2)))) else (none)))
def impl_RemoveGenerator.f (k : Nat) (l0_0 : List Int) (a1 : Int) : Option (List Int × Bool) := (impl_IsSemigroup.f k l0_0).bind fun t711 => (if t711 = true then ((slices_Contains_int_int.f k l0_0 a1).bind fun t712 => (impl_RemoveGenerator.j0 k a1 (!t712) l0_0)) else (impl_RemoveGenerator.j0 k a1 true l0_0))
theorem impl_RemoveGenerator.calls (k : Nat) (A0_0 : Option Addr) (c0_0 : Nat) (l0_0 : List Int) (a1 : Int) (r1 : List Int) (r2 : Bool) (w : World) (hr0_0 : Kd.C (Kd.int .i64) w A0_0 l0_0.length l0_0) (hc0_0 : l0_0.length ≤ c0_0) (h : impl_RemoveGenerator.f k l0_0 a1 = some (r1, r2)) :
 Calls Try.prog 76 #[.agg #[.slice A0_0 l0_0.length c0_0], .int .i64 a1] w fun e w' => ∃ v0_ : Value, e = .returned (.tuple #[.agg #[v0_], .bool r2]) ∧ Kd.R (Kd.int .i64) 3 w' w.heap.size (fun _ => True) v0_ r1 ∧ Below w.heap.size w w' := by
 have hu26 := Try.underlying26
 have HR0_0 := Aside0.mk hr0_0
 have HC0_0 := Aside0.mk hc0_0
 clear hr0_0 hc0_0
 have HB := Aside0.mk (Below.refl w.heap.size w)
 have H := h
 clear h
 unfold impl_RemoveGenerator.f at H
 have HC3 := Aside0.mk H
 clear H
 go_enter Try.func76, Try.ntmps76
 go_upto_region 1 with (first | ((with_reducible refine gate_dst (N := 2) rfl ?_); refine bx_ 2 #[.slice A0_0 l0_0.length c0_0] 26 ?_; intro gb709 hg w4 hbox hb; have BK709 := Aside0.mk (hbox); have GW709 := gw_ hg HB; have GE709 := gw_ hg HB; replace HB := bo_ HB hb; clear hb hbox hg) | ((with_reducible refine gate_dst (N := 4) rfl ?_); refine bx_ 4 #[.slice none 0 0] 26 ?_; intro gb710 hg w5 hbox hb; have BK710 := Aside0.mk (hbox); have GW710 := gq_ hg (bq_ HB); have GE710 := gq_ hg (bq_ HB); replace HB := bp_ HB hb; have NB709_710 := nl_ hg BK709; have NB710_709 := ng_ hg BK709; replace BK709 := bk_ BK709 hb; clear hb hbox hg))
 (try simp only [Act.put, z1_, z2_, z3_])
 go_cut [15] (fun v15 wc => ∃ (kq : Nat) (x15_2 : Bool), v15 = .bool x15_2 ∧ Aside0 (impl_RemoveGenerator.j0 kq a1 x15_2 l0_0 = some (r1, r2)) ∧ Aside0 (kq ≤ k) ∧ Aside0 (wc.heap[gb709]? = some (.cells #[(.slice A0_0 l0_0.length c0_0)] 26 (0, 0))) ∧ Aside0 (wc.heap[gb710]? = some (.cells #[(.slice none 0 0)] 26 (0, 0))) ∧ Aside0 (Below w.heap.size w wc))
 case first =>
  have H := HC3.out
  clear HC3
  obtain ⟨t711, A6, H⟩ := ob_ H
  by_cases c7 : t711 = true
  rotate_left
  · replace c7 := Bool.eq_false_iff.mpr c7
    subst c7
    rw [if_neg (show ¬ (false = true) by decide)] at H
    have H' := Aside0.mk H
    clear H
    have hnb13 := NB709_710.out
    have hnc13 := NB710_709.out
    have hcz14_0 := cz_ BK709
    have hfz14_0 := blk_frozen BK709.out 0
    go_wp2_with (first | ((with_reducible refine gate_callee (f := 28) rfl ?_); refine gL_ (some 7) Try.func28 #[.agg #[.slice A0_0 l0_0.length c0_0]] ?_; (with_reducible refine (impl_IsSemigroup.calls k _ _ l0_0 false _ ?side1 ?side2 A6.out).mono ?_); (case side1 => exact ch_ HR0_0 HB); (case side2 => exact HC0_0.out); rintro e w15 ⟨rfl, hb⟩; refine ⟨_, rfl, ?_⟩; replace BK709 := bk_ BK709 hb; replace BK710 := bk_ BK710 hb; replace HB := bp_ HB hb; (try clear hb)))
    go_meet
    case rel => exact ⟨_, (true), rs_, H', ⟨by first | omega | exact Nat.le_refl _⟩, ⟨be_ BK709.out⟩, ⟨be_ BK710.out⟩, ⟨bq_ HB⟩⟩
  subst c7
  rw [if_pos rfl] at H
  obtain ⟨t712, A8, H⟩ := ob_ H
  have H' := Aside0.mk H
  clear H
  have hnb9 := NB709_710.out
  have hnc9 := NB710_709.out
  have hcz10_0 := cz_ BK709
  have hfz10_0 := blk_frozen BK709.out 0
  go_wp2_with (first | ((with_reducible refine gate_callee (f := 28) rfl ?_); refine gL_ (some 7) Try.func28 #[.agg #[.slice A0_0 l0_0.length c0_0]] ?_; (with_reducible refine (impl_IsSemigroup.calls k _ _ l0_0 true _ ?side1 ?side2 A6.out).mono ?_); (case side1 => exact ch_ HR0_0 HB); (case side2 => exact HC0_0.out); rintro e w11 ⟨rfl, hb⟩; refine ⟨_, rfl, ?_⟩; replace BK709 := bk_ BK709 hb; replace BK710 := bk_ BK710 hb; replace HB := bp_ HB hb; (try clear hb); have hcz12_0 := cz_ BK709; have hfz12_0 := blk_frozen BK709.out 0) | (go_at_call 99; (with_reducible refine (slices_Contains_int_int.calls k _ _ l0_0 a1 t712 _ ?side1 ?side2 A8.out).mono ?_); (case side1 => exact ch_ HR0_0 HB); (case side2 => exact HC0_0.out); rintro e w' ⟨rfl, ⟨nd, rfl⟩⟩))
  go_meet
  case rel => exact ⟨_, (!t712), rs_, H', ⟨by first | omega | exact Nat.le_refl _⟩, ⟨be_ BK709.out⟩, ⟨be_ BK710.out⟩, ⟨bq_ HB⟩⟩
 case rest =>
  clear HC3
  obtain ⟨kq, x15_2, rfl, HA, HJ2, BK709, BK710, HB⟩ := hcut
  cases kq with
  | zero => exact absurd HA.out (by simp [impl_RemoveGenerator.j0])
  | succ kj2 =>
   have H := HA.out
   clear HA
   simp only [impl_RemoveGenerator.j0] at H
   by_cases c16 : x15_2 = true
   · subst c16
     rw [if_pos rfl] at H
     simp only [Option.some.injEq, Prod.mk.injEq] at H
     obtain ⟨rfl, rfl⟩ := H
     have hnb17 := NB710_709.out
     have hnc17 := NB709_710.out
     have hcz18_0 := cz_ BK710
     have hfz18_0 := blk_frozen BK710.out 0
     go_wp2
     refine bodyPost_ret (results_ct rfl _ _ gb710 26 #[.slice none 0 0] (0, 0) _ rfl (bz_ BK710) Try.underlying26 rfl (by kernel_rfl)) rfl ?_
     exact ⟨_, rf_, by first | exact Kd.R_nil _ _ _ _ _ | exact Kd.N_nil _ _ _ _ _ | exact Kd.V_nil _ _ _ _ _ | exact Kd.Q_nil _ _ _ _ _ | exact Kd.S_nil _ _ _ _ _, bq_ HB⟩
   replace c16 := Bool.eq_false_iff.mpr c16
   subst c16
   rw [if_neg (show ¬ (false = true) by decide)] at H
   obtain ⟨t713, A19, H⟩ := ob_ H
   obtain ⟨c20, H⟩ := ip_ H
   have LMc20 := Aside0.mk c20
   clear c20
   obtain ⟨y716, hy716⟩ : ∃ y_ : List Int, y_ = (t713 ++ [a1]) := ⟨_, rfl⟩
   replace H : ((impl_SortList.f kj2 y716).bind fun t719 => ((impl_FromGaps.f kj2 t719).bind fun bt722 => (some (bt722.1, bt722.2)))) = some (r1, r2) := by subst hy716; exact H
   have Ny716 := Aside0.mk hy716
   clear hy716
   obtain ⟨t719, A21, H⟩ := ob_ H
   obtain ⟨⟨t722, t725⟩, A22, H⟩ := ob_ H
   (try dsimp only at H)
   simp only [Option.some.injEq, Prod.mk.injEq] at H
   obtain ⟨rfl, rfl⟩ := H
   have hnb23 := NB709_710.out
   have hnc23 := NB710_709.out
   have hcz24_0 := cz_ BK709
   have hfz24_0 := blk_frozen BK709.out 0
   go_wp2_with (first | ((with_reducible refine gate_callee (f := 62) rfl ?_); refine gL_ (some 18) Try.func62 #[.agg #[.slice A0_0 l0_0.length c0_0]] ?_; (with_reducible refine (impl_Gaps.calls kj2 _ _ l0_0 t713 _ ?side1 ?side2 A19.out).mono ?_); (case side1 => exact ch_ HR0_0 HB); (case side2 => exact HC0_0.out); rintro e w25 ⟨v714, rfl, ho0, hb⟩; refine ⟨_, rfl, ?_⟩; have HO715 := Aside0.mk (Kd.R_lower ho0 (below_size (bq_ HB))); replace BK709 := bk_ BK709 hb; replace BK710 := bk_ BK710 hb; replace HB := bp_ HB hb; (try clear hb); (try clear ho0)) | ((with_reducible refine gate_builtin (b := .append) (xs := #[.tmp 18, .tmp 20]) rfl ?_); at_builtin; refine Kd.R_append (Kd.int .i64) (w0 := w) w.heap.size rfl (.tmp 18) (.tmp 20) 24 3 (.int .i64 0) 8 rfl Try.underlying24 info3 rfl (by decide) (by omega) v714 t713 a1 [.int .i64 a1] (fun _ => True) (fun _ => False) rfl rfl ?aP (fun _ hk => hk.elim) ?aF ?aO ?aB ?aS ?aL ?_; (case aP => exact rfl); (case aB => exact (bq_ HB)); (case aF => exact (fun _ _ => trivial)); (case aO => exact (re_ HO715.out)); (case aS => exact (below_size (bq_ HB))); (case aL => have := LMc20.out; omega); intro v717 w26 ho hb hg hat; rw [← Ny716.out] at ho; replace BK709 := Aside0.mk (blk_grown (be_ BK709.out) hg (Kd.R_ne HO715.out BK709.out (by decide))); replace BK710 := Aside0.mk (blk_grown (be_ BK710.out) hg (Kd.R_ne HO715.out BK710.out (by decide))); replace HB := Aside0.mk (hb); have HO718 := Aside0.mk (ho); clear HO715; clear ho hb hg hat; obtain ⟨Ao27, co27, eo27⟩ := Kd.R_slice HO718.out; subst eo27) | ((with_reducible refine gate_callee (f := 61) rfl ?_); refine gL_ (some 22) Try.func61 #[.slice Ao27 y716.length co27] ?_; (with_reducible refine (impl_SortList.calls kj2 _ _ y716 t719 _ ?side1 ?side2 A21.out).mono ?_); (case side1 => exact ce_ ((Kd.R_reads' HO718.out).2.2)); (case side2 => exact (Kd.R_reads' HO718.out).2.1); rintro e w28 ⟨v720, rfl, ho0, hb⟩; refine ⟨_, rfl, ?_⟩; have HO721 := Aside0.mk (Kd.R_lower (Kd.R_new' ho0 (Kd.R_lt (re_ HO718.out))) (below_size (bq_ HB))); replace HO718 := Aside0.mk (Kd.R_elder' (re_ HO718.out) (Kd.R_base ho0) hb); replace BK709 := bk_ BK709 hb; replace BK710 := bk_ BK710 hb; replace HB := bp_ HB hb; (try clear hb); (try clear ho0); obtain ⟨Ao29, co29, eo29⟩ := Kd.R_slice HO721.out; subst eo29) | ((with_reducible refine gate_callee (f := 60) rfl ?_); refine gL_ (some 23) Try.func60 #[.slice Ao29 t719.length co29] ?_; (with_reducible refine (impl_FromGaps.calls kj2 _ _ t719 t722 t725 _ ?side1 ?side2 A22.out).mono ?_); (case side1 => exact ce_ ((Kd.R_reads' HO721.out).2.2)); (case side2 => exact (Kd.R_reads' HO721.out).2.1); rintro e w30 ⟨v723, rfl, ho0, hb⟩; refine ⟨_, rfl, ?_⟩; have HO724 := Aside0.mk (Kd.R_lower (Kd.R_new' (Kd.R_new' ho0 (Kd.R_lt (re_ HO718.out))) (Kd.R_lt (re_ HO721.out))) (below_size (bq_ HB))); replace HO718 := Aside0.mk (Kd.R_elder' (re_ HO718.out) (Kd.R_base ho0) hb); replace HO721 := Aside0.mk (Kd.R_elder' (re_ HO721.out) (Kd.R_base ho0) hb); replace BK709 := bk_ BK709 hb; replace BK710 := bk_ BK710 hb; replace HB := bp_ HB hb; (try clear hb); (try clear ho0); obtain ⟨Ao31, co31, eo31⟩ := Kd.R_slice HO724.out; subst eo31; have hcz32_0 := cz_ BK710; have hfz32_0 := blk_frozen BK710.out 0))
   refine bodyPost_ret (results_ct rfl _ _ gb710 26 #[.slice Ao31 t722.length co31] (0, 0) _ rfl (bz_ BK710) Try.underlying26 rfl (by kernel_rfl)) rfl ?_
   exact ⟨_, rf_, by (with_reducible repeat (first | apply Kd.R_alloc | apply Kd.R_drewN | apply Kd.R_drew)); exact Kd.R_mono (Kd.R_far (p := ⟨gb710, 0, none⟩) (Kd.R_types HO724.out BK710.out (by decide)) (fun _ hk => hk.2) (.slice Ao31 t722.length co31)) (fun _ hk => trivial), bq_ HB⟩
def impl_ChildrenOf.l0 : Nat → Int → List (S26) → List Int → Int → Int → List Int → Option ((List (S26)) × Bool)
 | 0, _, _, _, _, _, _ => none
 | k + 1, x4, x5, x17, x18, x19, x727000 => if x19 < x18 then (if 0 ≤ x19 then (if x19 < (x17.length : Int) then (if (rd x17 x19) ≤ x4 then (impl_ChildrenOf.l0 k x4 x5 x17 x18 (wrap64 (x19 + 1)) x727000) else ((impl_RemoveGenerator.f k x727000 (rd x17 x19)).bind fun bt733 => (if bt733.2 = true then (if x5.length < 5864062014805 then (impl_ChildrenOf.l0 k x4 (x5 ++ [(⟨bt733.1⟩ : S26)]) x17 x18 (wrap64 (x19 + 1)) x727000) else (none)) else (some (([] : List (S26)), false))))) else (none)) else (none)) else (some (x5, true))
def impl_ChildrenOf.f (k : Nat) (l0_0 : List Int) : Option ((List (S26)) × Bool) := (impl_IsSemigroup.f k l0_0).bind fun t727 => (if t727 = true then ((impl_FrobeniusOf.f k l0_0).bind fun t728 => (impl_ChildrenOf.l0 k t728 (([] : List (S26))) l0_0 (l0_0.length : Int) 0 l0_0)) else (some (([] : List (S26)), false)))
theorem impl_ChildrenOf.calls (k : Nat) (A0_0 : Option Addr) (c0_0 : Nat) (l0_0 : List Int) (r1 : List (S26)) (r2 : Bool) (w : World) (hr0_0 : Kd.C (Kd.int .i64) w A0_0 l0_0.length l0_0) (hc0_0 : l0_0.length ≤ c0_0) (h : impl_ChildrenOf.f k l0_0 = some (r1, r2)) :
 Calls Try.prog 44 #[.agg #[.slice A0_0 l0_0.length c0_0]] w fun e w' => ∃ v0_ : Value, e = .returned (.tuple #[v0_, .bool r2]) ∧ Kd.S k26 26 w' w.heap.size (fun _ => True) v0_ r1 ∧ Below w.heap.size w w' := by
 have hu26 := Try.underlying26
 have HR0_0 := Aside0.mk hr0_0
 have HC0_0 := Aside0.mk hc0_0
 clear hr0_0 hc0_0
 have HB := Aside0.mk (Below.refl w.heap.size w)
 have H := h
 clear h
 unfold impl_ChildrenOf.f at H
 obtain ⟨t727, A2, H⟩ := ob_ H
 by_cases c3 : t727 = true
 rotate_left
 · replace c3 := Bool.eq_false_iff.mpr c3
   subst c3
   rw [if_neg (show ¬ (false = true) by decide)] at H
   simp only [Option.some.injEq, Prod.mk.injEq] at H
   obtain ⟨rfl, rfl⟩ := H
   go_enter Try.func44, Try.ntmps44
   go_wp2_with (first | ((with_reducible refine gate_dst (N := 1) rfl ?_); refine bx_ 1 #[.slice A0_0 l0_0.length c0_0] 26 ?_; intro gb726 hg w35 hbox hb; have BK726 := Aside0.mk (hbox); have GW726 := gw_ hg HB; have GE726 := gw_ hg HB; replace HB := bo_ HB hb; clear hb hbox hg; have hcz36_0 := cz_ BK726; have hfz36_0 := blk_frozen BK726.out 0) | ((with_reducible refine gate_callee (f := 28) rfl ?_); refine gL_ (some 11) Try.func28 #[.agg #[.slice A0_0 l0_0.length c0_0]] ?_; (with_reducible refine (impl_IsSemigroup.calls k _ _ l0_0 false _ ?side1 ?side2 A2.out).mono ?_); (case side1 => exact ch_ HR0_0 HB); (case side2 => exact HC0_0.out); rintro e w37 ⟨rfl, hb⟩; refine ⟨_, rfl, ?_⟩; replace BK726 := bk_ BK726 hb; replace HB := bp_ HB hb; (try clear hb)))
   go_ret2
   exact ⟨_, rf_, by first | exact Kd.S_nil _ _ _ _ _ | exact Kd.N_nil _ _ _ _ _ | exact Kd.V_nil _ _ _ _ _ | exact Kd.Q_nil _ _ _ _ _ | exact Kd.R_nil _ _ _ _ _, bq_ HB⟩
 subst c3
 rw [if_pos rfl] at H
 obtain ⟨t728, A4, H⟩ := ob_ H
 obtain ⟨y729, hy729⟩ : ∃ y_ : List (S26), y_ = (([] : List (S26))) := ⟨_, rfl⟩
 replace H : (impl_ChildrenOf.l0 k t728 y729 l0_0 (l0_0.length : Int) 0 l0_0) = some (r1, r2) := by subst hy729; exact H
 have Ny729 := Aside0.mk hy729
 clear hy729
 have H' := Aside0.mk H
 clear H
 go_enter Try.func44, Try.ntmps44
 go_wp2_with (first | ((with_reducible refine gate_dst (N := 1) rfl ?_); refine bx_ 1 #[.slice A0_0 l0_0.length c0_0] 26 ?_; intro gb726 hg w5 hbox hb; have BK726 := Aside0.mk (hbox); have GW726 := gw_ hg HB; have GE726 := gw_ hg HB; replace HB := bo_ HB hb; clear hb hbox hg; have hcz6_0 := cz_ BK726; have hfz6_0 := blk_frozen BK726.out 0) | ((with_reducible refine gate_callee (f := 28) rfl ?_); refine gL_ (some 11) Try.func28 #[.agg #[.slice A0_0 l0_0.length c0_0]] ?_; (with_reducible refine (impl_IsSemigroup.calls k _ _ l0_0 true _ ?side1 ?side2 A2.out).mono ?_); (case side1 => exact ch_ HR0_0 HB); (case side2 => exact HC0_0.out); rintro e w7 ⟨rfl, hb⟩; refine ⟨_, rfl, ?_⟩; replace BK726 := bk_ BK726 hb; replace HB := bp_ HB hb; (try clear hb); have hcz8_0 := cz_ BK726; have hfz8_0 := blk_frozen BK726.out 0) | ((with_reducible refine gate_callee (f := 75) rfl ?_); refine gL_ (some 14) Try.func75 #[.agg #[.slice A0_0 l0_0.length c0_0]] ?_; (with_reducible refine (impl_FrobeniusOf.calls k _ _ l0_0 t728 _ ?side1 ?side2 A4.out).mono ?_); (case side1 => exact ch_ HR0_0 HB); (case side2 => exact HC0_0.out); rintro e w9 ⟨rfl, hb⟩; refine ⟨_, rfl, ?_⟩; replace BK726 := bk_ BK726 hb; replace HB := bp_ HB hb; (try clear hb)) | ((with_reducible refine gate_dst (N := 15) rfl ?_); refine Kd.S_lit k26 _ 26 ?hg (N := 15) ?hd (xs := ([] : List (S26))) (inner := []) (ok := fun _ => True) (okp := fun _ => True) ?hr ?hp (fun _ hk => hk) trivial (Below.refl _ _) (Nat.le_refl _) (by simp) ?_; (case hd => rfl); (case hg => rfl); (case hr => first | (go_simp; done) | (go_simp; rfl)); (case hp => exact (Reps.none _ _)); intro v730 w10 ho11 hb hg_ hnew_; clear hg_ hnew_; (first | rw [← Ny729.out] at ho11 | (simp only [Int.reduceToNat] at ho11; rw [← Ny729.out] at ho11)); have HO731 := Aside0.mk (Kd.S_lower (Kd.S_newB ho11 (g := gb726) (o := .cells #[.slice A0_0 l0_0.length c0_0] 26 (0, 0)) (be_ BK726.out)) (below_size (bq_ HB))); replace BK726 := bk_ BK726 hb; replace HB := bp_ HB hb; clear hb ho11; have hcz12_0 := cz_ BK726; have hfz12_0 := blk_frozen BK726.out 0))
 go_loopg [5, 19] k (fun kq v5 v19 w' => ∃ (x5_1 : List (S26)) (x19_1 : Int), v19 = .int .i64 x19_1 ∧ Aside0 (impl_ChildrenOf.l0 kq t728 x5_1 l0_0 (l0_0.length : Int) x19_1 l0_0 = some (r1, r2)) ∧ Aside0 (kq ≤ k) ∧ Aside0 (Kd.S k26 26 w' w.heap.size (fun k_ => k_ ≠ gb726) v5 x5_1) ∧ Aside0 (w'.heap[gb726]? = some (.cells #[(.slice A0_0 l0_0.length c0_0)] 26 (0, 0))) ∧ Aside0 (Below w.heap.size w w'))
 case atStart => exact ⟨(y729), (0), rs_, H', ⟨Nat.le_refl _⟩, ⟨by (with_reducible repeat (first | apply Kd.S_alloc | apply Kd.S_drewN | apply Kd.S_drew)); exact Kd.S_mono HO731.out (fun _ hk => hk.2)⟩, ⟨be_ BK726.out⟩, ⟨bq_ HB⟩⟩
 case round =>
  clear H'
  try clear hcz12_0
  try clear hcz6_0
  try clear hcz8_0
  try clear hfz12_0
  try clear hfz6_0
  try clear hfz8_0
  obtain ⟨x5_1, x19_1, rfl, HA, HK1, HO_5, BK726, HB⟩ := hrel
  cases gk with
  | zero => exact absurd HA.out (by simp [impl_ChildrenOf.l0])
  | succ k1 =>
   have H := HA.out
   clear HA
   simp only [impl_ChildrenOf.l0] at H
   by_cases c13 : x19_1 < (l0_0.length : Int)
   rotate_left
   · rw [if_neg c13] at H
     have c13b0 : decide (x19_1 < (l0_0.length : Int)) = false := decide_eq_false c13
     clear c13
     simp only [Option.some.injEq, Prod.mk.injEq] at H
     obtain ⟨rfl, rfl⟩ := H
     go_wp2
     go_ret2
     exact ⟨_, rf_, by (with_reducible repeat (first | apply Kd.S_alloc | apply Kd.S_drewN | apply Kd.S_drew)); exact Kd.S_mono HO_5.out (fun _ hk => trivial), bq_ HB⟩
   rw [if_pos c13] at H
   have c13b0 : decide (x19_1 < (l0_0.length : Int)) = true := decide_eq_true c13
   clear c13
   obtain ⟨c14b0, H⟩ := ipd_ H
   obtain ⟨c15b0, H⟩ := ipd_ H
   by_cases c16 : (rd l0_0 x19_1) ≤ t728
   · rw [if_pos c16] at H
     have c16b0 : decide ((rd l0_0 x19_1) ≤ t728) = true := decide_eq_true c16
     clear c16
     have H' := Aside0.mk H
     clear H
     have p732 : 0 ≤ (x19_1 : Int) := od_
     have q732 : x19_1 < (l0_0.length : Int) := od_
     obtain ⟨ad732, e732, hx732_0⟩ := Kd.at_int HR0_0.out x19_1 p732 q732
     cases e732
     (try replace hx732_0 := (HB.out.cell (World.block_lt_of_cell? w _ hx732_0)).trans hx732_0)
     replace p732 := eq_true p732
     replace q732 := eq_true q732
     go_wp2
     go_roundg k1
     case measure => have := HK1.out; omega
     case rel => exact ⟨(x5_1), (wrap64 (x19_1 + 1)), rs_, H', ⟨by have := HK1.out; omega⟩, ⟨by (with_reducible repeat (first | apply Kd.S_alloc | apply Kd.S_drewN | apply Kd.S_drew)); exact HO_5.out⟩, ⟨be_ BK726.out⟩, ⟨bq_ HB⟩⟩
   rw [if_neg c16] at H
   have c16b0 : decide ((rd l0_0 x19_1) ≤ t728) = false := decide_eq_false c16
   clear c16
   obtain ⟨⟨t733, t736⟩, A17, H⟩ := ob_ H
   (try dsimp only at H)
   by_cases c18 : t736 = true
   rotate_left
   · replace c18 := Bool.eq_false_iff.mpr c18
     subst c18
     rw [if_neg (show ¬ (false = true) by decide)] at H
     simp only [Option.some.injEq, Prod.mk.injEq] at H
     obtain ⟨rfl, rfl⟩ := H
     have p732 : 0 ≤ (x19_1 : Int) := od_
     have q732 : x19_1 < (l0_0.length : Int) := od_
     obtain ⟨ad732, e732, hx732_0⟩ := Kd.at_int HR0_0.out x19_1 p732 q732
     cases e732
     (try replace hx732_0 := (HB.out.cell (World.block_lt_of_cell? w _ hx732_0)).trans hx732_0)
     replace p732 := eq_true p732
     replace q732 := eq_true q732
     have hcz29_0 := cz_ BK726
     have hfz29_0 := blk_frozen BK726.out 0
     go_wp2_with (first | ((with_reducible refine gate_callee (f := 76) rfl ?_); refine gL_ (some 29) Try.func76 #[.agg #[.slice (some ad732) l0_0.length c0_0], .int .i64 (rd l0_0 x19_1)] ?_; (with_reducible refine (impl_RemoveGenerator.calls k1 _ _ l0_0 (rd l0_0 x19_1) t733 false _ ?side1 ?side2 A17.out).mono ?_); (case side1 => exact ch_ HR0_0 HB); (case side2 => exact HC0_0.out); rintro e w30 ⟨v734, rfl, ho0, hb⟩; refine ⟨_, rfl, ?_⟩; replace HO_5 := Aside0.mk (Kd.S_elder' (by (with_reducible repeat (first | apply Kd.S_alloc | apply Kd.S_drewN | apply Kd.S_drew)); exact HO_5.out) (Kd.R_base ho0) hb); have HO735 := Aside0.mk (Kd.R_lower ho0 (below_size (bq_ HB))); replace BK726 := bk_ BK726 hb; replace HB := bp_ HB hb; (try clear hb); (try clear ho0)) | ((with_reducible refine gate_dst (N := 8) rfl ?_); refine bx_ 8 #[.slice none 0 0] 26 ?_; intro gb737 hg w31 hbox hb; replace HO_5 := Aside0.mk (Kd.S_below (Kd.S_elderB (by (with_reducible repeat (first | apply Kd.S_alloc | apply Kd.S_drewN | apply Kd.S_drew)); exact HO_5.out) gb737 (Nat.le_of_eq hg.symm)) hb); replace HO735 := Aside0.mk (Kd.R_below (re_ HO735.out) hb); have BK737 := Aside0.mk (hbox); have GW737 := gq_ hg (bq_ HB); have GE737 := gq_ hg (bq_ HB); replace HB := bp_ HB hb; have NB726_737 := nl_ hg BK726; have NB737_726 := ng_ hg BK726; replace BK726 := bk_ BK726 hb; clear hb hbox hg; obtain ⟨Ao32, co32, eo32⟩ := Kd.R_slice HO735.out; subst eo32; have hnb33 := NB737_726.out; have hnc33 := NB726_737.out; have hcz34_0 := cz_ BK737; have hfz34_0 := blk_frozen BK737.out 0))
     go_ret2
     exact ⟨_, rf_, by first | exact Kd.S_nil _ _ _ _ _ | exact Kd.N_nil _ _ _ _ _ | exact Kd.V_nil _ _ _ _ _ | exact Kd.Q_nil _ _ _ _ _ | exact Kd.R_nil _ _ _ _ _, bq_ HB⟩
   subst c18
   rw [if_pos rfl] at H
   obtain ⟨c19, H⟩ := ip_ H
   have LMc19 := Aside0.mk c19
   clear c19
   obtain ⟨y738, hy738⟩ : ∃ y_ : List (S26), y_ = (x5_1 ++ [(⟨t733⟩ : S26)]) := ⟨_, rfl⟩
   replace H : (impl_ChildrenOf.l0 k1 t728 y738 l0_0 (l0_0.length : Int) (wrap64 (x19_1 + 1)) l0_0) = some (r1, r2) := by subst hy738; exact H
   have Ny738 := Aside0.mk hy738
   clear hy738
   have H' := Aside0.mk H
   clear H
   have p732 : 0 ≤ (x19_1 : Int) := od_
   have q732 : x19_1 < (l0_0.length : Int) := od_
   obtain ⟨ad732, e732, hx732_0⟩ := Kd.at_int HR0_0.out x19_1 p732 q732
   cases e732
   (try replace hx732_0 := (HB.out.cell (World.block_lt_of_cell? w _ hx732_0)).trans hx732_0)
   replace p732 := eq_true p732
   replace q732 := eq_true q732
   have hcz20_0 := cz_ BK726
   have hfz20_0 := blk_frozen BK726.out 0
   go_wp2_with (first | ((with_reducible refine gate_callee (f := 76) rfl ?_); refine gL_ (some 29) Try.func76 #[.agg #[.slice (some ad732) l0_0.length c0_0], .int .i64 (rd l0_0 x19_1)] ?_; (with_reducible refine (impl_RemoveGenerator.calls k1 _ _ l0_0 (rd l0_0 x19_1) t733 true _ ?side1 ?side2 A17.out).mono ?_); (case side1 => exact ch_ HR0_0 HB); (case side2 => exact HC0_0.out); rintro e w21 ⟨v734, rfl, ho0, hb⟩; refine ⟨_, rfl, ?_⟩; replace HO_5 := Aside0.mk (Kd.S_elder' (by (with_reducible repeat (first | apply Kd.S_alloc | apply Kd.S_drewN | apply Kd.S_drew)); exact HO_5.out) (Kd.R_base ho0) hb); have HO735 := Aside0.mk (Kd.R_lower ho0 (below_size (bq_ HB))); replace BK726 := bk_ BK726 hb; replace HB := bp_ HB hb; (try clear hb); (try clear ho0)) | ((with_reducible refine gate_dst (N := 8) rfl ?_); refine bx_ 8 #[.slice none 0 0] 26 ?_; intro gb737 hg w22 hbox hb; replace HO_5 := Aside0.mk (Kd.S_below (Kd.S_elderB (by (with_reducible repeat (first | apply Kd.S_alloc | apply Kd.S_drewN | apply Kd.S_drew)); exact HO_5.out) gb737 (Nat.le_of_eq hg.symm)) hb); replace HO735 := Aside0.mk (Kd.R_below (re_ HO735.out) hb); have BK737 := Aside0.mk (hbox); have GW737 := gq_ hg (bq_ HB); have GE737 := gq_ hg (bq_ HB); replace HB := bp_ HB hb; have NB726_737 := nl_ hg BK726; have NB737_726 := ng_ hg BK726; replace BK726 := bk_ BK726 hb; clear hb hbox hg; obtain ⟨Ao23, co23, eo23⟩ := Kd.R_slice HO735.out; subst eo23; have hnb24 := NB737_726.out; have hnc24 := NB726_737.out; have hcz25_0 := cz_ BK737; have hfz25_0 := blk_frozen BK737.out 0) | ((with_reducible refine gate_store (t := 26) (p := 8) rfl ?_); refine store_event (t := 26) (p := 8) (v := ?vo_w26) (w1 := (w22.setCell ⟨gb737, 0, none⟩ (.slice Ao23 t733.length co23))) ?hg ?ho ?hn ?hr ?_; (case ho => rfl); (case hg => rfl); (case hn => rfl); (case hr => first | (go_simp; done) | (go_simp; rfl)); intro w26 hw; have n0_ : Aside0 (Kd.S k26 26 w26 w.heap.size (fun k_ => some k_ ≠ (.slice Ao23 t733.length co23 : Value).ownBlock ∧ k_ ≠ gb726 ∧ k_ ≠ gb737) u5 x5_1) := ⟨(by rw [hw]; exact (by (with_reducible repeat (first | apply Kd.S_alloc | apply Kd.S_drewN | apply Kd.S_drew)); exact Kd.S_mono (Kd.S_far (p := ⟨gb737, 0, none⟩) (Kd.S_mono HO_5.out (fun k_ hk => (⟨hk, hk.2⟩ : _ ∧ k_ ≠ gb737))) (fun _ hk => hk.2) (.slice Ao23 t733.length co23)) (fun _ hk => ⟨hk.1.1.2, ⟨hk.1.1.1, hk.1.2⟩⟩)))⟩; have n1_ : Aside0 (Kd.R (Kd.int .i64) 3 w26 w.heap.size (fun _ => True) (.slice Ao23 t733.length co23) t733) := ⟨(by rw [hw]; exact (by (with_reducible repeat (first | apply Kd.R_alloc | apply Kd.R_drewN | apply Kd.R_drew)); exact Kd.R_mono (Kd.R_far (p := ⟨gb737, 0, none⟩) (Kd.R_types HO735.out BK737.out (by decide)) (fun _ hk => hk.2) (.slice Ao23 t733.length co23)) (fun _ hk => trivial)))⟩; have n2_ : Aside0 (w26.heap[gb726]? = some (.cells #[.slice (some ad732) l0_0.length c0_0] 26 (0, 0))) := ⟨(by rw [hw]; exact (ba_ BK726))⟩; have n3_ : Aside0 (w26.heap[gb737]? = some (.cells #[.slice Ao23 t733.length co23] 26 (0, 0))) := ⟨(by rw [hw]; exact (bz_ BK737))⟩; have n4_ : Aside0 (Below w.heap.size w w26) := ⟨(by rw [hw]; exact (bq_ HB))⟩; clear hw; clear HO_5; clear HO735; clear BK726; clear BK737; clear HB; have HO_5 := n0_; have HO735 := n1_; have BK726 := n2_; have BK737 := n3_; have HB := n4_; clear n0_ n1_ n2_ n3_ n4_; have hcz27_0 := cz_ BK737; have hfz27_0 := blk_frozen BK737.out 0) | ((with_reducible refine gate_builtin (b := .append) (xs := #[.tmp 34, .tmp 36]) rfl ?_); at_builtin; refine Kd.S_append k26 (w0 := w) w.heap.size rfl (.tmp 34) (.tmp 36) 29 26 (.agg #[(.slice none 0 0)]) 24 rfl Try.underlying29 info26 rfl (by decide) (by omega) u5 x5_1 (⟨t733⟩ : S26) [.slice Ao23 t733.length co23] (fun k_ => k_ ≠ gb726 ∧ k_ ≠ gb737) (fun k_ => some k_ = (.slice Ao23 t733.length co23 : Value).ownBlock) rfl rfl ?aP (fun k_ hk_ => ((Kd.R_mono (ok' := fun k_ => ((fun k_ => k_ ≠ gb726 ∧ k_ ≠ gb737)) k_ ∧ some k_ ≠ (u5 : Value).ownBlock) (Kd.R_types (Kd.R_types (Kd.R_apart' (HO735.out) (Kd.S_typed HO_5.out) (by decide)) BK726.out (by decide)) BK737.out (by decide)) (fun k_ hk => ⟨⟨hk.1.2, hk.2⟩, hk.1.1.2⟩))).1 k_ hk_.symm) ?aF ?aO ?aB ?aS ?aL ?_; (case aP => exact k26_mkM _ _ _ (⟨t733⟩ : S26) (Kd.R_mono (Kd.R_tight rfl (Kd.R_mono (ok' := fun k_ => ((fun k_ => k_ ≠ gb726 ∧ k_ ≠ gb737)) k_ ∧ some k_ ≠ (u5 : Value).ownBlock) (Kd.R_types (Kd.R_types (Kd.R_apart' (HO735.out) (Kd.S_typed HO_5.out) (by decide)) BK726.out (by decide)) BK737.out (by decide)) (fun k_ hk => ⟨⟨hk.1.2, hk.2⟩, hk.1.1.2⟩))) (fun _ h_ => h_))); (case aB => exact (bq_ HB)); (case aF => exact (fun k_ hk => ⟨Kd.freshB (g := gb726) (o := .cells #[.slice (some ad732) l0_0.length c0_0] 26 (0, 0)) (be_ BK726.out) k_ hk, Kd.freshB (g := gb737) (o := .cells #[.slice Ao23 t733.length co23] 26 (0, 0)) (be_ BK737.out) k_ hk⟩)); (case aO => exact (by (with_reducible repeat (first | apply Kd.S_alloc | apply Kd.S_drewN | apply Kd.S_drew)); exact Kd.S_mono HO_5.out (fun k_ hk => ⟨⟨hk.2.1, hk.2.2⟩, fun e_ => hk.1 e_⟩))); (case aS => exact (below_size (bq_ HB))); (case aL => have := LMc19.out; omega); intro v739 w28 ho hb hg hat; rw [← Ny738.out] at ho; replace BK726 := Aside0.mk (blk_grown (be_ BK726.out) hg (Kd.S_away HO_5.out (fun _ hk => hk.2.1))); replace BK737 := Aside0.mk (blk_grown (be_ BK737.out) hg (Kd.S_away HO_5.out (fun _ hk => hk.2.2))); replace HB := Aside0.mk (hb); have HO740 := Aside0.mk (ho); clear HO_5 HO735; clear ho hb hg hat))
   go_roundg k1
   case measure => have := HK1.out; omega
   case rel => exact ⟨(y738), (wrap64 (x19_1 + 1)), rs_, H', ⟨by have := HK1.out; omega⟩, ⟨by (with_reducible repeat (first | apply Kd.S_alloc | apply Kd.S_drewN | apply Kd.S_drew)); exact Kd.S_mono HO740.out (fun _ hk => hk.1)⟩, ⟨be_ BK726.out⟩, ⟨bq_ HB⟩⟩
def InOrd (l0 : List S26) : Prop := l0.length < 4611686018427387904 ∧ ∃ cf : List Int → List Int → Int, Go.Sort.SWO (Go.Proofs.ltOf cf) ∧ (∀ a ∈ ([] : List Int) :: l0.map (·.f0), ∀ b ∈ ([] : List Int) :: l0.map (·.f0), ∃ k, impl_inOrderCmp.f k a b = some (cf a b)) ∧ l0.Pairwise (fun a b => cf a.f0 b.f0 < 0)
noncomputable def impl_inOrder.f (l0 : List S26) : Option Unit := @ite _ (InOrd l0) (Classical.propDecidable _) (some ()) none
theorem impl_inOrder.yes {l0 : List S26} (h : InOrd l0) : impl_inOrder.f l0 = some () := by unfold impl_inOrder.f; exact if_pos h
theorem inOrder_id {n : Nat} {lt : Nat → Nat → Bool} (hlt : ∀ i j, i < j → j < n → lt i j = true) {d' : Array Nat} (hp : Go.Sort.PermIn 0 n (Array.range n) d') (hs : Go.Sort.SortedIn lt 0 n d') : d' = Array.range n := by
 obtain ⟨h1, _, h2⟩ := hp
 rw [Array.size_range] at h1
 have e1 : d'.extract 0 n = d' := by rw [← h1]; exact Array.extract_size
 have e2 : (Array.range n).extract 0 n = Array.range n := by
  have := Array.extract_size (xs := Array.range n); rwa [Array.size_range] at this
 rw [e1, e2] at h2
 apply Array.toList_inj.1
 refine List.Perm.eq_of_pairwise (le := fun a b => a ≤ b) (fun a b _ _ h k => Nat.le_antisymm h k) ?_ ?_ h2
 · rw [List.pairwise_iff_getElem]
   intro i j hi hj hij
   have hi' : i < d'.size := hi
   have hj' : j < d'.size := hj
   have mi : d'.toList[i] < n := by
    have : d'.toList[i] ∈ (Array.range n).toList := h2.mem_iff.1 (List.getElem_mem hi)
    simpa using this
   have hf := hs i j (Nat.zero_le _) hij (by omega)
   rw [getElem!_pos d' j hj', getElem!_pos d' i hi'] at hf
   show d'.toList[i] ≤ d'.toList[j]
   refine Nat.le_of_not_lt fun hl => ?_
   have := hlt _ _ hl mi
   rw [Array.getElem_toList, Array.getElem_toList] at this
   rw [this] at hf
   cases hf
 · rw [Array.toList_range]
   exact List.pairwise_le_range
theorem sortW_old {enc : Nat → List Value} {w : World} {g m : Nat} {dk : Array Nat} {os : Array Obj} {k : Nat} (hk : k ≠ g) (hlt : k < w.heap.size) : (Go.Proofs.sortWorldK enc 1 w g 0 m dk os).heap[k]? = w.heap[k]? := by
 unfold Go.Proofs.sortWorldK Go.Sort.grow Go.Sort.putRowK Go.Sort.putRow Go.Sort.mapBlock Go.Sort.ahead
 simp only
 rw [Array.getElem?_append, if_pos (by simpa using hlt), Array.getElem?_modify, if_neg (fun e => hk e.symm)]
theorem sorts_ (A0 : Option Addr) (c0 : Nat) (l0 : List S26) (w : World) (hN : ∃ base ok, Kd.N k26 26 w base ok (.slice A0 l0.length c0) l0) (hI : InOrd l0) :
 Calls Try.prog 77 #[.slice A0 l0.length c0, .func (.func 78) #[] #[]] w fun e w' => e = .returned (.tuple #[]) ∧ Below w.heap.size w w' := by
 obtain ⟨base, ok, hN⟩ := hN
 obtain ⟨hsz, cf, hO, hcall, hord⟩ := hI
 rcases Nat.eq_zero_or_pos l0.length with h0 | hp
 · have hc := Go.Proofs.AnyF.slices_SortFunc_none Try.laysF A0 c0 (.func (.func 78) #[] #[]) w
   change Calls Try.prog 77 _ _ _ at hc
   rw [h0]
   exact hc.mono fun e w' ⟨he, hw⟩ => ⟨he, by rw [hw]; exact Below.refl _ _⟩
 · obtain ⟨g, cap, hv, hbase, hg, cells, hblk⟩ := Kd.N_form hN hp
   injection hv with e1 e2 e3
   subst e1 e3
   obtain ⟨n, hn⟩ : ∃ n, n = l0.length := ⟨_, rfl⟩
   obtain ⟨lst, hlst⟩ : ∃ lst : Nat → List Int, lst = fun i => (l0.getD i ⟨[]⟩).f0 := ⟨_, rfl⟩
   have hx : ∀ i : Nat, ∃ h : Option Addr × Nat, (lst i).length ≤ h.2 ∧ Kd.F (Kd.int .i64) w (fun k => ok k ∧ k ≠ g) h.1 (lst i).length (lst i) ∧ (i < n → w.cell? ⟨g, i, none⟩ = some (.slice h.1 (lst i).length h.2) ∧ w.frozen? ⟨g, i, none⟩ = false) := fun i => by
    by_cases hi : i < n
    · obtain ⟨c, hcl, hF, hcc, hfr⟩ := Kd.N_elem hN (⟨[]⟩ : S26) (i : Int) (by omega) (by omega)
      obtain ⟨A, c', rfl, hle, hR⟩ := k26_openF hF
      have k1 : k26.sz = 1 := rfl
      rw [Int.toNat_natCast] at hle hR hcc hfr
      refine ⟨(A, c'), by rw [hlst]; exact hle, by rw [hlst]; exact hR, fun _ => ⟨?_, ?_⟩⟩
      · have := hcc 0 _ rfl
        rw [k1, Nat.mul_one, Nat.add_zero] at this
        rw [hlst]; exact this
      · have := hfr 0
        rw [k1, Nat.mul_one, Nat.add_zero] at this
        exact this
    · have hl : lst i = [] := by
       rw [hlst]
       show (l0.getD i ⟨[]⟩).f0 = []
       rw [List.getD_eq_getElem?_getD, List.getElem?_eq_none (by omega)]; rfl
      rw [hl]
      exact ⟨(none, 0), Nat.le_refl _, Kd.F_nil _ _ _, fun h => absurd h hi⟩
   obtain ⟨hd, hH⟩ := Classical.axiomOfChoice hx
   have hmem : ∀ i, lst i ∈ ([] : List Int) :: l0.map (·.f0) := fun i => by
    rw [hlst]
    show (l0.getD i ⟨[]⟩).f0 ∈ _
    rw [List.getD_eq_getElem?_getD]
    cases e : l0[i]? with
    | none => exact List.mem_cons_self
    | some x => exact List.mem_cons_of_mem _ (List.mem_map.2 ⟨x, List.mem_of_getElem? e, rfl⟩)
   obtain ⟨enc, henc⟩ : ∃ enc : Nat → List Value, enc = fun i => [.slice (hd i).1 (lst i).length (hd i).2] := ⟨_, rfl⟩
   have hk1 : ∀ x, (enc x).length = 1 := fun x => by rw [henc]; rfl
   have h1 : ∀ x, ∀ v ∈ enc x, v.oneCell' = true := fun x v hv => by
    rw [henc] at hv
    rw [List.mem_singleton.1 hv]; rfl
   have hO' : Go.Sort.SWO (Go.Proofs.ltOf fun i j : Nat => cf (lst i) (lst j)) := ⟨fun x => hO.irrefl (lst x), fun x y z => hO.trans (lst x) (lst y) (lst z), fun x y z => hO.ntrans (lst x) (lst y) (lst z)⟩
   have eg : ∀ args w, (callFunc 78 args).run Try.prog w = .ok (.enter 78 args) w := enters_of Try.func78 (by kernel_rfl) rfl
   have hcmp : Go.Proofs.CmpLays Try.prog 78 #[] enc 1 (fun i j : Nat => cf (lst i) (lst j)) g 0 (Array.range n).size w := by
    unfold Go.Proofs.CmpLays
    intro m os dk hs x y
    obtain ⟨k, hk⟩ := hcall (lst x) (hmem x) (lst y) (hmem y)
    have rd_ : ∀ i, Kd.C (Kd.int .i64) (Go.Proofs.sortWorldK enc 1 w g 0 m dk os) (hd i).1 (lst i).length (lst i) := fun i => Kd.F_now (Kd.F_step (hH i).2.1 (fun k hk hlt => sortW_old hk.2 hlt))
    have hc := E.calls_drawn (impl_inOrderCmp.calls k _ _ (lst x) _ _ (lst y) _ _ (rd_ x) (hH x).1 (rd_ y) (hH y).1 hk)
    have e1 : ∀ z, (enc z).toArray = #[.slice (hd z).1 (lst z).length (hd z).2] := fun z => by rw [henc]
    rw [e1, e1, Array.append_empty]
    dsimp only
    refine hc.mono ?_
    intro e w' h
    exact ⟨h.1.1, E.grow_of_below h.1.2 (h.2 ⟨_, h.1.1⟩)⟩
   have hHold : Go.Sort.HoldsK enc 1 w g 0 (Array.range n) := fun j hj => by
    rw [Go.Sort.size_flatK, Array.size_range, Nat.mul_one] at hj
    rw [Go.Sort.get_flatK enc 1 _ j (by rw [Array.size_range]; omega), Nat.div_one, Nat.mod_one, getElem!_pos (Array.range n) j (by simpa using hj), Nat.zero_add, Array.getElem_range, henc]
    exact (hH j).2.2 hj
   have hs := Go.Proofs.AnyQ.slices_SortFunc (P := Try.prog) Try.laysF 1 Try.isAgg26 Try.sizeOf26 enc hk1 h1 (fun i j : Nat => cf (lst i) (lst j)) hO' 78 #[] g 0 c0 (Array.range n) w eg hcmp hHold hg (by rw [Array.size_range]; omega)
   change Calls Try.prog 77 _ _ _ at hs
   rw [Array.size_range, hn] at hs
   refine hs.mono ?_
   rintro e w' ⟨he, d', q, os, hpm, hst, rfl⟩
   refine ⟨he, ?_⟩
   have hd' : d' = Array.range n := by
    rw [← hn] at hpm hst
    refine inOrder_id (fun i j hij hj => ?_) hpm hst
    have := (List.pairwise_iff_getElem.1 hord) i j (by omega) (by omega) hij
    unfold Go.Proofs.ltOf
    rw [decide_eq_true_iff, hlst]
    show cf (l0.getD i ⟨[]⟩).f0 (l0.getD j ⟨[]⟩).f0 < 0
    rw [List.getD_eq_getElem?_getD, List.getElem?_eq_getElem (show i < l0.length by omega), List.getD_eq_getElem?_getD, List.getElem?_eq_getElem (show j < l0.length by omega)]
    exact this
   rw [hd']
   unfold Go.Proofs.sortWorldK
   rw [Go.Sort.putRowK_self enc 1 _ g 0 _ (Go.Sort.holdsK_ahead enc 1 w q g 0 _ hHold)]
   refine ⟨rfl, rfl, rfl, by rw [Go.Sort.size_grow]; exact Nat.le_add_right _ _, fun k hk => ?_⟩
   show (w.heap ++ os)[k]? = _
   rw [Array.getElem?_append, if_pos hk]
theorem impl_inOrder.calls (A0 : Option Addr) (c0 : Nat) (l0 : List S26) (w : World) (hN : ∃ base ok, Kd.N k26 26 w base ok (.slice A0 l0.length c0) l0) (hc0 : l0.length ≤ c0) (h : impl_inOrder.f l0 = some ()) :
 Calls Try.prog 45 #[.slice A0 l0.length c0] w fun e w' => e = .returned (.tuple #[]) ∧ Below w.heap.size w w' := by
 have hI : InOrd l0 := by
  unfold impl_inOrder.f at h
  refine Classical.byContradiction fun c => ?_
  rw [if_neg c] at h
  cases h
 have hcon := sorts_ A0 c0 l0 w hN hI
 clear hN hI h
 go_enter Try.func45, Try.ntmps45
 go_wp2_with (go_at_call 77; refine hcon.mono ?_; rintro e w' ⟨rfl, hb⟩)
 go_end0
 exact ⟨rfl, hb⟩
mutual
noncomputable def impl_AllOfGenus.l0 : Nat → List (S26) → Int → Int → Option ((List (S26)))
 | 0, _, _, _ => none
 | k + 1, x3, x15, x16 => if x16 < x15 then (impl_AllOfGenus.l1 k (([] : List (S26))) x15 x16 x3 (x3.length : Int) 0) else ((impl_inOrder.f x3).bind fun _ => (some x3))
noncomputable def impl_AllOfGenus.l1 : Nat → List (S26) → Int → Int → List (S26) → Int → Int → Option ((List (S26)))
 | 0, _, _, _, _, _, _ => none
 | k + 1, x4, x15, x16, x19, x20, x21 => if x21 < x20 then (if 0 ≤ x21 then (if x21 < (x19.length : Int) then ((impl_ChildrenOf.f k ((rd_T26 x19 x21).f0)).bind fun bt756 => (if x4.length + bt756.1.length < 5864062014805 then (impl_AllOfGenus.l1 k (x4 ++ bt756.1) x15 x16 x19 x20 (wrap64 (x21 + 1))) else (none))) else (none)) else (none)) else (impl_AllOfGenus.l0 k x4 x15 (wrap64 (x16 + 1)))
end
noncomputable def impl_AllOfGenus.f (k : Nat) (a0 : Int) : Option ((List (S26))) := (impl_within.f a0 0 8).bind fun t744 => (if t744 = true then (impl_AllOfGenus.l0 k (([(⟨(([1] : List Int))⟩ : S26)] : List (S26))) a0 0) else (some ([] : List (S26))))
theorem impl_AllOfGenus.calls (k : Nat) (a0 : Int) (r : List (S26)) (w : World) (h : impl_AllOfGenus.f k a0 = some r) :
 Calls Try.prog 24 #[.int .i64 a0] w fun e w' => ∃ v0_ : Value, e = .returned (v0_) ∧ Kd.N k26 26 w' w.heap.size (fun k_ => (w.heap.size ≤ k_)) v0_ r ∧ Below w.heap.size w w' := by
 have hu26 := Try.underlying26
 have HB := Aside0.mk (Below.refl w.heap.size w)
 have H := h
 clear h
 unfold impl_AllOfGenus.f at H
 obtain ⟨t744, A2, H⟩ := ob_ H
 by_cases c3 : t744 = true
 rotate_left
 · replace c3 := Bool.eq_false_iff.mpr c3
   subst c3
   rw [if_neg (show ¬ (false = true) by decide)] at H
   obtain rfl := Option.some.inj H
   go_enter Try.func24, Try.ntmps24
   go_wp2_with (first | ((with_reducible refine gate_callee (f := 40) rfl ?_); refine gL_ (some 10) Try.func40 #[.int .i64 a0, .int .i64 0, .int .i64 8] ?_; (with_reducible refine (impl_within.calls a0 0 8 false _ A2.out).mono ?_); rintro e w' ⟨rfl, ⟨nd, rfl⟩⟩; refine ⟨_, rfl, ?_⟩))
   go_ret
   exact ⟨_, rf_, by first | exact Kd.S_nil _ _ _ _ _ | exact Kd.N_nil _ _ _ _ _ | exact Kd.V_nil _ _ _ _ _ | exact Kd.Q_nil _ _ _ _ _ | exact Kd.R_nil _ _ _ _ _, bl_ HB.out⟩
 subst c3
 rw [if_pos rfl] at H
 obtain ⟨y745, hy745⟩ : ∃ y_ : List Int, y_ = (([1] : List Int)) := ⟨_, rfl⟩
 replace H : (impl_AllOfGenus.l0 k (([(⟨y745⟩ : S26)] : List (S26))) a0 0) = some r := by subst hy745; exact H
 have Ny745 := Aside0.mk hy745
 clear hy745
 obtain ⟨y748, hy748⟩ : ∃ y_ : List (S26), y_ = (([(⟨y745⟩ : S26)] : List (S26))) := ⟨_, rfl⟩
 replace H : (impl_AllOfGenus.l0 k y748 a0 0) = some r := by subst hy748; exact H
 have Ny748 := Aside0.mk hy748
 clear hy748
 have H' := Aside0.mk H
 clear H
 go_enter Try.func24, Try.ntmps24
 go_wp2_with (first | ((with_reducible refine gate_callee (f := 40) rfl ?_); refine gL_ (some 10) Try.func40 #[.int .i64 a0, .int .i64 0, .int .i64 8] ?_; (with_reducible refine (impl_within.calls a0 0 8 true _ A2.out).mono ?_); rintro e w' ⟨rfl, ⟨nd, rfl⟩⟩; refine ⟨_, rfl, ?_⟩) | ((with_reducible refine gate_dst (N := 12) rfl ?_); refine Kd.R_lit (Kd.int .i64) _ 3 ?hg (N := 12) ?hd (xs := ([1] : List Int)) (inner := [.int .i64 1]) (ok := fun _ => True) (okp := fun _ => True) ?hr ?hp (fun _ hk => hk) trivial (Below.refl _ _) (Nat.le_refl _) (by simp) ?_; (case hd => rfl); (case hg => rfl); (case hr => first | (go_simp; done) | (go_simp; rfl)); (case hp => exact (Reps.one (show Kd.M (Kd.int .i64) _ _ _ 1 [.int .i64 1] from rfl) (Reps.none _ _))); intro v746 w4 ho5 hb hg_ hnew_; clear hg_ hnew_; (first | rw [← Ny745.out] at ho5 | (simp only [Int.reduceToNat] at ho5; rw [← Ny745.out] at ho5)); have HO747 := Aside0.mk (Kd.R_lower (Kd.R_newM (M := fun k_ => (w.heap.size ≤ k_)) ho5 (below_size (bl_ HB.out)) (fun k_ h_ => h_)) (below_size (bl_ HB.out))); replace HB := bo_ HB hb; clear hb ho5; obtain ⟨Ao6, co6, eo6⟩ := Kd.R_slice HO747.out; subst eo6) | ((with_reducible refine gate_dst (N := 14) rfl ?_); refine Kd.N_lit k26 _ 26 ?hg (N' := 14) ?hd (xs := ([(⟨y745⟩ : S26)] : List (S26))) (inner := [.slice Ao6 y745.length co6]) (ok := (fun k_ => (w.heap.size ≤ k_))) (okp := (fun k_ => (w.heap.size ≤ k_))) ?hr ?hp (fun _ hk => hk) ((show ∀ k_, w4.heap.size ≤ k_ → (fun k_ => (w.heap.size ≤ k_)) k_ from fun k_ hk => (Nat.le_trans (below_size (bl_ HB.out)) hk)) _ (Nat.le_refl _)) (Below.refl _ _) (Nat.le_refl _) (by simp) ?_; (case hd => rfl); (case hg => rfl); (case hr => first | (go_simp; done) | (go_simp; rfl)); (case hp => exact (Reps.one (show Kd.FK k26 _ _ (⟨y745⟩ : S26) [.slice Ao6 y745.length co6] from (k26_mkF _ _ (⟨y745⟩ : S26) (Kd.R_reads' (Kd.R_mono (ok' := (fun k_ => (w.heap.size ≤ k_))) (HO747.out) (fun k_ hk => hk.1))).2.1 (Kd.R_F (Kd.R_mono (ok' := (fun k_ => (w.heap.size ≤ k_))) (HO747.out) (fun k_ hk => hk.1))))) (Reps.none _ _))); intro v749 w7 ho8 hb hg_ hnew_; clear hg_ hnew_; (first | rw [← Ny748.out] at ho8 | (simp only [Int.reduceToNat] at ho8; rw [← Ny748.out] at ho8)); have HO750 := Aside0.mk (Kd.N_lower ho8 (below_size (bl_ HB.out))); replace HB := bo_ HB hb; clear HO747; clear hb ho8))
 go_loopg [3, 16] k (fun kq v3 v16 w' => ∃ (x3_1 : List (S26)) (x16_1 : Int), v16 = .int .i64 x16_1 ∧ Aside0 (impl_AllOfGenus.l0 kq x3_1 a0 x16_1 = some r) ∧ Aside0 (kq ≤ k) ∧ Aside0 (Kd.N k26 26 w' w.heap.size (fun k_ => (w.heap.size ≤ k_)) v3 x3_1) ∧ Aside0 (Below w.heap.size w w'))
 case atStart => exact ⟨(y748), (0), rs_, H', ⟨Nat.le_refl _⟩, ⟨by (with_reducible repeat (first | apply Kd.N_alloc | apply Kd.N_drewN | apply Kd.N_drew)); exact HO750.out⟩, ⟨bl_ HB.out⟩⟩
 case round =>
  clear H'
  obtain ⟨x3_1, x16_1, rfl, HA, HK1, HO_3, HB⟩ := hrel
  cases gk with
  | zero => exact absurd HA.out (by simp [impl_AllOfGenus.l0])
  | succ k1 =>
   have H := HA.out
   clear HA
   simp only [impl_AllOfGenus.l0] at H
   by_cases c9 : x16_1 < a0
   rotate_left
   · rw [if_neg c9] at H
     have c9b0 : decide (x16_1 < a0) = false := decide_eq_false c9
     clear c9
     obtain ⟨_, A23, H⟩ := ob_ H
     obtain rfl := Option.some.inj H
     obtain ⟨Ao24, co24, eo24⟩ := Kd.N_slice HO_3.out
     subst eo24
     go_wp2_with (first | ((with_reducible refine gate_callee (f := 45) rfl ?_); refine gL_ (some 37) Try.func45 #[.slice Ao24 x3_1.length co24] ?_; (with_reducible refine (impl_inOrder.calls _ _ x3_1 _ ?side1 ?side2 A23.out).mono ?_); (case side1 => exact ⟨_, _, HO_3.out⟩); (case side2 => exact (Kd.N_reads' HO_3.out).2.1); rintro e w25 ⟨rfl, hb⟩; refine ⟨_, rfl, ?_⟩; replace HO_3 := Aside0.mk (Kd.N_below (by (with_reducible repeat (first | apply Kd.N_alloc | apply Kd.N_drewN | apply Kd.N_drew)); exact HO_3.out) hb); replace HB := bo_ HB hb; (try clear hb)))
     go_ret
     exact ⟨_, rf_, by (with_reducible repeat (first | apply Kd.N_alloc | apply Kd.N_drewN | apply Kd.N_drew)); exact HO_3.out, bl_ HB.out⟩
   rw [if_pos c9] at H
   have c9b0 : decide (x16_1 < a0) = true := decide_eq_true c9
   clear c9
   obtain ⟨y751, hy751⟩ : ∃ y_ : List (S26), y_ = (([] : List (S26))) := ⟨_, rfl⟩
   replace H : (impl_AllOfGenus.l1 k1 y751 a0 x16_1 x3_1 (x3_1.length : Int) 0) = some r := by subst hy751; exact H
   have Ny751 := Aside0.mk hy751
   clear hy751
   have H' := Aside0.mk H
   clear H
   go_wp2_with (first | ((with_reducible refine gate_dst (N := 18) rfl ?_); refine Kd.N_lit k26 _ 26 ?hg (N' := 18) ?hd (xs := ([] : List (S26))) (inner := []) (ok := (fun k_ => (w.heap.size ≤ k_) ∧ some k_ ≠ (u3 : Value).ownBlock)) (okp := (fun k_ => (w.heap.size ≤ k_) ∧ some k_ ≠ (u3 : Value).ownBlock)) ?hr ?hp (fun _ hk => hk) ((show ∀ k_, wr.heap.size ≤ k_ → (fun k_ => (w.heap.size ≤ k_) ∧ some k_ ≠ (u3 : Value).ownBlock) k_ from fun k_ hk => ⟨(Nat.le_trans (below_size (bl_ HB.out)) hk), Kd.fresh' (Kd.N_lt (by (with_reducible repeat (first | apply Kd.N_alloc | apply Kd.N_drewN | apply Kd.N_drew)); exact HO_3.out)) k_ hk⟩) _ (Nat.le_refl _)) (Below.refl _ _) (Nat.le_refl _) (by simp) ?_; (case hd => rfl); (case hg => rfl); (case hr => first | (go_simp; done) | (go_simp; rfl)); (case hp => exact (Reps.none _ _)); intro v752 w10 ho11 hb hg_ hnew_; clear hg_ hnew_; (first | rw [← Ny751.out] at ho11 | (simp only [Int.reduceToNat] at ho11; rw [← Ny751.out] at ho11)); replace HO_3 := Aside0.mk (Kd.N_elder' (by (with_reducible repeat (first | apply Kd.N_alloc | apply Kd.N_drewN | apply Kd.N_drew)); exact HO_3.out) (Kd.N_base ho11) hb); have HO753 := Aside0.mk (Kd.N_lower ho11 (below_size (bl_ HB.out))); replace HB := bo_ HB hb; clear hb ho11; obtain ⟨Ao12, co12, eo12⟩ := Kd.N_slice HO_3.out; subst eo12))
   go_loopg [4, 21] k1 (fun kq v4 v21 w' => ∃ (x4_2 : List (S26)) (x21_2 : Int), v21 = .int .i64 x21_2 ∧ Aside0 (impl_AllOfGenus.l1 kq x4_2 a0 x16_1 x3_1 (x3_1.length : Int) x21_2 = some r) ∧ Aside0 (kq ≤ k1) ∧ Aside0 (Kd.N k26 26 w' w.heap.size (fun k_ => (w.heap.size ≤ k_) ∧ some k_ ≠ ((.slice Ao12 x3_1.length co12) : Value).ownBlock) v4 x4_2) ∧ Aside0 (Kd.N k26 26 w' w.heap.size (fun k_ => (w.heap.size ≤ k_) ∧ some k_ ≠ (v4 : Value).ownBlock) (.slice Ao12 x3_1.length co12) x3_1) ∧ Aside0 (Below w.heap.size w w'))
   case atStart => exact ⟨(y751), (0), rs_, H', ⟨Nat.le_refl _⟩, ⟨by (with_reducible repeat (first | apply Kd.N_alloc | apply Kd.N_drewN | apply Kd.N_drew)); exact HO753.out⟩, ⟨by (with_reducible repeat (first | apply Kd.N_alloc | apply Kd.N_drewN | apply Kd.N_drew)); exact HO_3.out⟩, ⟨bl_ HB.out⟩⟩
   case round =>
    clear H'
    try clear c9b0
    obtain ⟨x4_2, x21_2, rfl, HA, HK2, HO_4, HO_19, HB⟩ := hrel
    cases gk with
    | zero => exact absurd HA.out (by simp [impl_AllOfGenus.l1])
    | succ k2 =>
     have H := HA.out
     clear HA
     simp only [impl_AllOfGenus.l1] at H
     by_cases c13 : x21_2 < (x3_1.length : Int)
     rotate_left
     · rw [if_neg c13] at H
       have c13b0 : decide (x21_2 < (x3_1.length : Int)) = false := decide_eq_false c13
       clear c13
       have H' := Aside0.mk H
       clear H
       go_wp2
       go_roundg k2
       case measure => have := HK1.out; have := HK2.out; omega
       case rel => exact ⟨(x4_2), (wrap64 (x16_1 + 1)), rs_, H', ⟨by have := HK1.out; have := HK2.out; omega⟩, ⟨by (with_reducible repeat (first | apply Kd.N_alloc | apply Kd.N_drewN | apply Kd.N_drew)); exact Kd.N_mono HO_4.out (fun _ hk => hk.1)⟩, ⟨bl_ HB.out⟩⟩
     rw [if_pos c13] at H
     have c13b0 : decide (x21_2 < (x3_1.length : Int)) = true := decide_eq_true c13
     clear c13
     obtain ⟨c14b0, H⟩ := ipd_ H
     obtain ⟨c15b0, H⟩ := ipd_ H
     obtain ⟨⟨t756, t759⟩, A16, H⟩ := ob_ H
     (try dsimp only at H)
     obtain ⟨c17, H⟩ := ip_ H
     have LMc17 := Aside0.mk c17
     clear c17
     obtain ⟨y760, hy760⟩ : ∃ y_ : List (S26), y_ = (x4_2 ++ t756) := ⟨_, rfl⟩
     replace H : (impl_AllOfGenus.l1 k2 y760 a0 x16_1 x3_1 (x3_1.length : Int) (wrap64 (x21_2 + 1))) = some r := by subst hy760; exact H
     have Ny760 := Aside0.mk hy760
     clear hy760
     have H' := Aside0.mk H
     clear H
     have p754 : 0 ≤ (x21_2 : Int) := od_
     have q754 : x21_2 < (x3_1.length : Int) := od_
     obtain ⟨ad754, A754_0, c754_0, e754, hx754_0, hl754_0, hi754_0⟩ := at_T26 (Kd.N_reads' HO_19.out).2.2 x21_2 p754 q754
     cases e754
     obtain ⟨ce754, hce754, hMe754, hcc754⟩ := Kd.N_get HO_19.out z26 x21_2 p754 (by first | exact q754 | exact od_ | (have e_ := (Kd.N_reads' HO_19.out).1; omega))
     obtain ⟨ua754_0, uc754_0, rfl, ul754_0, ge754_0⟩ := k26_openF hMe754
     have hv754_0 := hcc754 0 _ rfl
     rw [Nat.add_zero, show (k26).sz = 1 from rfl, Nat.mul_one] at hv754_0
     replace hv754_0 := Option.some.inj (hv754_0.symm.trans hx754_0)
     injection hv754_0 with hva_ hvn_ hvc_
     rw [hva_] at ge754_0
     rw [hvc_] at ul754_0
     have HL754_0 := Aside0.mk (show Kd.V (Kd.int .i64) 3 _ w.heap.size _ _ ((rd_T26 x3_1 x21_2).f0) from Kd.V_mk ul754_0 ge754_0)
     clear hva_ hvn_ hvc_ ge754_0 ul754_0
     clear hcc754 hce754
     have HR754_0 := Aside0.mk hi754_0
     have HC754_0 := Aside0.mk hl754_0
     clear hi754_0 hl754_0
     replace p754 := eq_true p754
     replace q754 := eq_true q754
     go_wp2_with (first | ((with_reducible refine gate_dst (N := 6) rfl ?_); refine bx_ 6 #[.slice none 0 0] 26 ?_; intro gb755 hg w18 hbox hb; replace HO_4 := Aside0.mk (Kd.N_below (Kd.N_elderB (by (with_reducible repeat (first | apply Kd.N_alloc | apply Kd.N_drewN | apply Kd.N_drew)); exact HO_4.out) gb755 (Nat.le_of_eq hg.symm)) hb); replace HO_19 := Aside0.mk (Kd.N_below (Kd.N_elderB (by (with_reducible repeat (first | apply Kd.N_alloc | apply Kd.N_drewN | apply Kd.N_drew)); exact HO_19.out) gb755 (Nat.le_of_eq hg.symm)) hb); replace HL754_0 := Aside0.mk (Kd.V_below (Kd.V_elderB (by (with_reducible repeat (first | apply Kd.V_alloc | apply Kd.V_drewN | apply Kd.V_drew)); exact HL754_0.out) gb755 (Nat.le_of_eq hg.symm)) hb); replace HR754_0 := Aside0.mk (Kd.C_below (by repeat (first | (with_reducible exact HR754_0.out) | (with_reducible refine Kd.C_alloc ?_ _) | (with_reducible refine Kd.C_drewN ?_ _) | (with_reducible refine Kd.C_drew ?_) | exact HR754_0.out)) hb); have BK755 := Aside0.mk (hbox); have GW755 := gw_ hg HB; have GE755 := gw_ hg HB; replace HB := bo_ HB hb; clear hb hbox hg; have hcz19_0 := cz_ BK755; have hfz19_0 := blk_frozen BK755.out 0) | ((with_reducible refine gate_callee (f := 44) rfl ?_); refine gL_ (some 27) Try.func44 #[.agg #[.slice A754_0 ((rd_T26 x3_1 x21_2).f0).length c754_0]] ?_; (with_reducible refine (impl_ChildrenOf.calls k2 _ _ ((rd_T26 x3_1 x21_2).f0) t756 t759 _ ?side1 ?side2 A16.out).mono ?_); (case side1 => repeat (first | exact ((Kd.V_reads' (by (with_reducible repeat (first | apply Kd.V_alloc | apply Kd.V_drewN | apply Kd.V_drew)); exact (Kd.V_mono (Kd.V_far (p := ⟨gb755, 0, none⟩) (Kd.V_mono HL754_0.out (fun k_ hk => (⟨hk, hk.2⟩ : _ ∧ k_ ≠ gb755))) (fun _ hk => hk.2) (.slice A754_0 ((rd_T26 x3_1 x21_2).f0).length c754_0)) (fun _ h_ => h_.1)))).2.2) | (with_reducible refine Kd.C_alloc ?_ _) | (with_reducible refine Kd.C_drewN ?_ _) | (with_reducible refine Kd.C_drew ?_))); (case side2 => exact HC754_0.out); rintro e w20 ⟨v757, rfl, ho0, hb⟩; refine ⟨_, rfl, ?_⟩; have HO758 := Aside0.mk (Kd.N_lower (Kd.N_mono (ok' := fun k_ => (w.heap.size ≤ k_) ∧ some k_ ≠ (u4 : Value).ownBlock ∧ some k_ ≠ (.slice (some ad754) x3_1.length co12 : Value).ownBlock ∧ k_ ≠ gb755) (Kd.S_N (Kd.S_bound ho0)) (fun k_ hk_ => ⟨(Nat.le_trans (below_size (bq_ HB)) hk_.2.1), (Kd.fresh' (Kd.N_lt (by (with_reducible repeat (first | apply Kd.N_alloc | apply Kd.N_drewN | apply Kd.N_drew)); exact (Kd.N_mono (Kd.N_far (p := ⟨gb755, 0, none⟩) (Kd.N_mono HO_4.out (fun k_ hk => (⟨hk, hk.2⟩ : _ ∧ k_ ≠ gb755))) (fun _ hk => hk.2) (.slice A754_0 ((rd_T26 x3_1 x21_2).f0).length c754_0)) (fun _ h_ => h_.1)))) k_ hk_.2.1), (Kd.fresh' (Kd.N_lt (by (with_reducible repeat (first | apply Kd.N_alloc | apply Kd.N_drewN | apply Kd.N_drew)); exact (Kd.N_mono (Kd.N_far (p := ⟨gb755, 0, none⟩) (Kd.N_mono HO_19.out (fun k_ hk => (⟨hk, hk.2⟩ : _ ∧ k_ ≠ gb755))) (fun _ hk => hk.2) (.slice A754_0 ((rd_T26 x3_1 x21_2).f0).length c754_0)) (fun _ h_ => h_.1)))) k_ hk_.2.1), (Kd.freshB (g := gb755) (o := .cells #[.slice A754_0 ((rd_T26 x3_1 x21_2).f0).length c754_0] 26 (0, 0)) (bz_ BK755) k_ hk_.2.1)⟩)) (below_size (bq_ HB))); replace HO_4 := Aside0.mk (Kd.N_elder' (by (with_reducible repeat (first | apply Kd.N_alloc | apply Kd.N_drewN | apply Kd.N_drew)); exact (Kd.N_mono (Kd.N_far (p := ⟨gb755, 0, none⟩) (Kd.N_mono HO_4.out (fun k_ hk => (⟨hk, hk.2⟩ : _ ∧ k_ ≠ gb755))) (fun _ hk => hk.2) (.slice A754_0 ((rd_T26 x3_1 x21_2).f0).length c754_0)) (fun _ h_ => h_.1))) (Kd.N_base (Kd.S_N ho0)) hb); replace HO_19 := Aside0.mk (Kd.N_elder' (by (with_reducible repeat (first | apply Kd.N_alloc | apply Kd.N_drewN | apply Kd.N_drew)); exact (Kd.N_mono (Kd.N_far (p := ⟨gb755, 0, none⟩) (Kd.N_mono HO_19.out (fun k_ hk => (⟨hk, hk.2⟩ : _ ∧ k_ ≠ gb755))) (fun _ hk => hk.2) (.slice A754_0 ((rd_T26 x3_1 x21_2).f0).length c754_0)) (fun _ h_ => h_.1))) (Kd.N_base (Kd.S_N ho0)) hb); replace HR754_0 := Aside0.mk (Kd.C_below ((Kd.V_reads' (by (with_reducible repeat (first | apply Kd.V_alloc | apply Kd.V_drewN | apply Kd.V_drew)); exact (Kd.V_mono (Kd.V_far (p := ⟨gb755, 0, none⟩) (Kd.V_mono HL754_0.out (fun k_ hk => (⟨hk, hk.2⟩ : _ ∧ k_ ≠ gb755))) (fun _ hk => hk.2) (.slice A754_0 ((rd_T26 x3_1 x21_2).f0).length c754_0)) (fun _ h_ => h_.1)))).2.2) hb); replace HL754_0 := Aside0.mk (Kd.V_elder' (by (with_reducible repeat (first | apply Kd.V_alloc | apply Kd.V_drewN | apply Kd.V_drew)); exact (Kd.V_mono (Kd.V_far (p := ⟨gb755, 0, none⟩) (Kd.V_mono HL754_0.out (fun k_ hk => (⟨hk, hk.2⟩ : _ ∧ k_ ≠ gb755))) (fun _ hk => hk.2) (.slice A754_0 ((rd_T26 x3_1 x21_2).f0).length c754_0)) (fun _ h_ => h_.1))) (Kd.N_base (Kd.S_N ho0)) hb); replace BK755 := Aside0.mk (blk_below (g := gb755) (o := .cells #[.slice A754_0 ((rd_T26 x3_1 x21_2).f0).length c754_0] 26 (0, 0)) (bz_ BK755) hb); replace HB := bp_ HB hb; (try clear hb); (try clear ho0); obtain ⟨Ao22, co22, eo22⟩ := Kd.N_slice HO758.out; subst eo22) | ((with_reducible refine gate_builtin (b := .append) (xs := #[.tmp 30, .tmp 31]) rfl ?_); at_builtin; refine Kd.N_append_rows k26 (w0 := w) w.heap.size rfl (.tmp 30) (.tmp 31) 29 26 (.agg #[(.slice none 0 0)]) 24 rfl Try.underlying29 info26 rfl (by decide) (by omega) u4 x4_2 t756 _ _ _ (fun k_ => (w.heap.size ≤ k_) ∧ some k_ ≠ (.slice (some ad754) x3_1.length co12 : Value).ownBlock ∧ k_ ≠ gb755) (fun k_ => ((fun k_ => (w.heap.size ≤ k_) ∧ some k_ ≠ (.slice (some ad754) x3_1.length co12 : Value).ownBlock ∧ k_ ≠ gb755)) k_ ∧ some k_ ≠ (u4 : Value).ownBlock) rfl rfl ?aO ?aR (fun _ hk => hk) ?aF ?aB ?aS ?aL ?_; (case aR => exact (by skip; exact Kd.N_F (Kd.N_mono (ok' := (fun k_ => ((fun k_ => (w.heap.size ≤ k_) ∧ some k_ ≠ (.slice (some ad754) x3_1.length co12 : Value).ownBlock ∧ k_ ≠ gb755)) k_ ∧ some k_ ≠ (u4 : Value).ownBlock)) (HO758.out) (fun k_ hk => ⟨⟨hk.1, ⟨hk.2.2.1, hk.2.2.2⟩⟩, hk.2.1⟩)))); (case aB => exact (bq_ HB)); (case aF => exact (fun k_ hk => ⟨(Nat.le_trans (below_size (bq_ HB)) hk), Kd.fresh' (Kd.N_lt (by (with_reducible repeat (first | apply Kd.N_alloc | apply Kd.N_drewN | apply Kd.N_drew)); exact HO_19.out)) k_ hk, Kd.freshB (g := gb755) (o := .cells #[.slice A754_0 ((rd_T26 x3_1 x21_2).f0).length c754_0] 26 (0, 0)) (be_ BK755.out) k_ hk⟩)); (case aO => exact (by (with_reducible repeat (first | apply Kd.N_alloc | apply Kd.N_drewN | apply Kd.N_drew)); exact Kd.N_mono HO_4.out (fun _ hk => ⟨hk.1.1.1, ⟨hk.1.1.2, hk.1.2⟩⟩))); (case aS => exact (below_size (bq_ HB))); (case aL => have := LMc17.out; omega); intro v761 w21 ho hb hg hat; rw [← Ny760.out] at ho; replace HO_19 := Aside0.mk (Kd.N_afterv (ok := (fun k_ => (w.heap.size ≤ k_) ∧ some k_ ≠ (.slice Ao22 t756.length co22 : Value).ownBlock ∧ k_ ≠ gb755)) (by (with_reducible repeat (first | apply Kd.N_alloc | apply Kd.N_drewN | apply Kd.N_drew)); exact Kd.N_mono HO_19.out (fun _ hk => ⟨⟨hk.1.1.1, ⟨hk.2, hk.1.2⟩⟩, hk.1.1.2⟩)) hg hat); replace HL754_0 := Aside0.mk (Kd.V_afterv (ok := (fun k_ => (w.heap.size ≤ k_) ∧ some k_ ≠ (.slice (some ad754) x3_1.length co12 : Value).ownBlock ∧ some k_ ≠ (.slice Ao22 t756.length co22 : Value).ownBlock ∧ k_ ≠ gb755)) (by (with_reducible repeat (first | apply Kd.V_alloc | apply Kd.V_drewN | apply Kd.V_drew)); exact Kd.V_mono HL754_0.out (fun _ hk => ⟨⟨hk.1.1.1.1, ⟨hk.1.1.2, ⟨hk.2, hk.1.2⟩⟩⟩, hk.1.1.1.2⟩)) hg hat); replace BK755 := Aside0.mk (blk_grown (be_ BK755.out) hg (Kd.N_away HO_4.out (fun _ hk => hk.1.2))); replace HO758 := Aside0.mk (Kd.N_afterv (ok := (fun k_ => (w.heap.size ≤ k_) ∧ some k_ ≠ (.slice (some ad754) x3_1.length co12 : Value).ownBlock ∧ k_ ≠ gb755)) (by (with_reducible repeat (first | apply Kd.N_alloc | apply Kd.N_drewN | apply Kd.N_drew)); exact Kd.N_mono HO758.out (fun _ hk => ⟨⟨hk.1, ⟨hk.2.2.1, hk.2.2.2⟩⟩, hk.2.1⟩)) hg hat); replace HB := Aside0.mk (hb); have HO762 := Aside0.mk (ho); clear HO_4; clear ho hb hg hat))
     go_roundg k2
     case measure => have := HK1.out; have := HK2.out; omega
     case rel => exact ⟨(y760), (wrap64 (x21_2 + 1)), rs_, H', ⟨by have := HK1.out; have := HK2.out; omega⟩, ⟨by (with_reducible repeat (first | apply Kd.N_alloc | apply Kd.N_drewN | apply Kd.N_drew)); exact Kd.N_mono HO762.out (fun _ hk => ⟨hk.1, hk.2.1⟩)⟩, ⟨by (with_reducible repeat (first | apply Kd.N_alloc | apply Kd.N_drewN | apply Kd.N_drew)); exact Kd.N_mono HO_19.out (fun _ hk => ⟨hk.1.1, hk.2⟩)⟩, ⟨bq_ HB⟩⟩
noncomputable def impl_CountGenus.f (k : Nat) (a0 : Int) : Option (Int) := (impl_within.f a0 0 8).bind fun t763 => (if t763 = true then ((impl_AllOfGenus.f k a0).bind fun t764 => (some (t764.length : Int))) else (some (-1)))
theorem impl_CountGenus.calls (k : Nat) (a0 : Int) (r : Int) (w : World) (h : impl_CountGenus.f k a0 = some r) :
 Calls Try.prog 22 #[.int .i64 a0] w fun e w' => e = .returned (.int .i64 r) ∧ Below w.heap.size w w' := by
 have HB := Aside0.mk (Below.refl w.heap.size w)
 have H := h
 clear h
 unfold impl_CountGenus.f at H
 obtain ⟨t763, A2, H⟩ := ob_ H
 by_cases c3 : t763 = true
 rotate_left
 · replace c3 := Bool.eq_false_iff.mpr c3
   subst c3
   rw [if_neg (show ¬ (false = true) by decide)] at H
   obtain rfl := Option.some.inj H
   go_enter Try.func22, Try.ntmps22
   go_wp2_with (first | ((with_reducible refine gate_callee (f := 40) rfl ?_); refine gL_ (some 4) Try.func40 #[.int .i64 a0, .int .i64 0, .int .i64 8] ?_; (with_reducible refine (impl_within.calls a0 0 8 false _ A2.out).mono ?_); rintro e w' ⟨rfl, ⟨nd, rfl⟩⟩; refine ⟨_, rfl, ?_⟩))
   go_ret
   exact ⟨rf_, bl_ HB.out⟩
 subst c3
 rw [if_pos rfl] at H
 obtain ⟨t764, A4, H⟩ := ob_ H
 obtain rfl := Option.some.inj H
 go_enter Try.func22, Try.ntmps22
 go_wp2_with (first | ((with_reducible refine gate_callee (f := 40) rfl ?_); refine gL_ (some 4) Try.func40 #[.int .i64 a0, .int .i64 0, .int .i64 8] ?_; (with_reducible refine (impl_within.calls a0 0 8 true _ A2.out).mono ?_); rintro e w' ⟨rfl, ⟨nd, rfl⟩⟩; refine ⟨_, rfl, ?_⟩) | ((with_reducible refine gate_callee (f := 24) rfl ?_); refine gL_ (some 7) Try.func24 #[.int .i64 a0] ?_; (with_reducible refine (impl_AllOfGenus.calls k a0 t764 _ A4.out).mono ?_); rintro e w5 ⟨v765, rfl, ho0, hb⟩; refine ⟨_, rfl, ?_⟩; have HO766 := Aside0.mk (Kd.N_lower (Kd.N_mono (ok' := fun k_ => True) ho0 (fun k_ hk_ => trivial)) (below_size (bl_ HB.out))); replace HB := bo_ HB hb; (try clear hb); (try clear ho0); obtain ⟨Ao6, co6, eo6⟩ := Kd.N_slice HO766.out; subst eo6))
 go_ret
 exact ⟨rf_, bl_ HB.out⟩
noncomputable def laws_FnExactCountGenus.f (k : Nat) (a0 : Int) : Option (Bool) := (spec_CountGenus.f k a0).bind fun t767 => ((impl_CountGenus.f k a0).bind fun t768 => (if t768 = t767 then (some true) else (some false)))
theorem laws_FnExactCountGenus.calls (k : Nat) (a0 : Int) (r : Bool) (w : World) (h : laws_FnExactCountGenus.f k a0 = some r) :
 Calls Try.prog 5 #[.int .i64 a0] w fun e w' => e = .returned (.bool r) ∧ Below w.heap.size w w' := by
 have HB := Aside0.mk (Below.refl w.heap.size w)
 have H := h
 clear h
 unfold laws_FnExactCountGenus.f at H
 obtain ⟨t767, A2, H⟩ := ob_ H
 obtain ⟨t768, A3, H⟩ := ob_ H
 by_cases c4 : t768 = t767
 rotate_left
 · rw [if_neg c4] at H
   have c4b0 : (t768 == t767) = false := beq_eq_false_iff_ne.mpr c4
   have c4b1 : (t768 != t767) = true := bne_iff_ne.mpr c4
   obtain rfl := Option.some.inj H
   go_enter Try.func5, Try.ntmps5
   go_wp2_with (first | ((with_reducible refine gate_callee (f := 21) rfl ?_); refine gL_ (some 6) Try.func21 #[.int .i64 a0] ?_; (with_reducible refine (spec_CountGenus.calls k a0 t767 _ A2.out).mono ?_); rintro e w7 ⟨rfl, hb⟩; refine ⟨_, rfl, ?_⟩; replace HB := bo_ HB hb; (try clear hb)) | ((with_reducible refine gate_callee (f := 22) rfl ?_); refine gL_ (some 8) Try.func22 #[.int .i64 a0] ?_; (with_reducible refine (impl_CountGenus.calls k a0 t768 _ A3.out).mono ?_); rintro e w8 ⟨rfl, hb⟩; refine ⟨_, rfl, ?_⟩; replace HB := bo_ HB hb; (try clear hb)))
   go_ret
   exact ⟨rf_, bl_ HB.out⟩
 rw [if_pos c4] at H
 have c4b0 : (t768 == t767) = true := beq_iff_eq.mpr c4
 have c4b1 : (t768 != t767) = false := bne_eq_false_iff_eq.mpr c4
 clear c4
 obtain rfl := Option.some.inj H
 go_enter Try.func5, Try.ntmps5
 go_wp2_with (first | ((with_reducible refine gate_callee (f := 21) rfl ?_); refine gL_ (some 6) Try.func21 #[.int .i64 a0] ?_; (with_reducible refine (spec_CountGenus.calls k a0 t767 _ A2.out).mono ?_); rintro e w5 ⟨rfl, hb⟩; refine ⟨_, rfl, ?_⟩; replace HB := bo_ HB hb; (try clear hb)) | ((with_reducible refine gate_callee (f := 22) rfl ?_); refine gL_ (some 8) Try.func22 #[.int .i64 a0] ?_; (with_reducible refine (impl_CountGenus.calls k a0 t768 _ A3.out).mono ?_); rintro e w6 ⟨rfl, hb⟩; refine ⟨_, rfl, ?_⟩; replace HB := bo_ HB hb; (try clear hb)))
 go_ret
 exact ⟨rf_, bl_ HB.out⟩
def laws_FnExactCountGenus.Pure : Prop := ∀ (a0 : Int), (Lit.int .i64 a0).wf = true → ∃ k, laws_FnExactCountGenus.f k a0 = some true
theorem laws_FnExactCountGenus.walk (P : laws_FnExactCountGenus.Pure) (a0 : Int) (w : World) (w0 : (Lit.int .i64 a0).wf = true) :
 Calls Try.prog 5 #[.int .i64 a0] w fun e w' => e = .returned (.bool true) ∧ Below w.heap.size w w' := by
 obtain ⟨k, h⟩ := P a0 w0
 refine (laws_FnExactCountGenus.calls k a0 true w h).mono ?_
 rintro e w' ⟨rfl, hd⟩
 exact ⟨rfl, hd⟩
end Go.Proofs.Ytonknpgfbkgbjaa.PB
end
section
namespace Go.Proofs.Ytonknpgfbkgbjaa.E
open Go.RowKit Go.Proofs.Ytonknpgfbkgbjaa.PB Go.Proofs.YtonknpgfbkgbjaaW.PrintWords Go.Proofs.YtonknpgfbkgbjaaW.PrintLast Go.Proofs.YtonknpgfbkgbjaaW.PrintMore
set_option linter.unusedVariables false
set_option linter.unusedSimpArgs false
theorem l1In_eq (n lo hi : Int) : spec_l1In.f n lo hi = some (decide (lo ≤ n ∧ n ≤ hi)) := by
 unfold spec_l1In.f; by_cases h : n ≥ lo
 · rw [if_pos h]; simp [h]
 · rw [if_neg h]; simp [show ¬ lo ≤ n from h]
theorem within_eq (n lo hi : Int) : impl_within.f n lo hi = some (decide (lo ≤ n ∧ n ≤ hi)) := l1In_eq n lo hi
theorem allWithin_l {l : List Int} {lo hi : Int} (hl : l.length ≤ 1099511627776) (d : Nat) : ∀ (i : Int), 0 ≤ i → i + d = l.length → Ev (fun k => impl_allWithin.l0 k lo hi l l.length i) (decide (∀ x ∈ l.drop i.toNat, lo ≤ x ∧ x ≤ hi)) := by
 induction d with
 | zero =>
  intro i h0 h1
  refine Ev.step (fun k => by rw [impl_allWithin.l0]) ?_
  simp (disch := omega) only [if_neg]
  refine ev_to (Ev.now _) ?_
  rw [List.drop_of_length_le (by omega)]; simp
 | succ d ih =>
  intro i h0 h1
  refine Ev.step (fun k => by rw [impl_allWithin.l0]) ?_
  simp (disch := omega) only [if_pos, w64, within_eq, Option.bind_some]
  rw [drop_rd h0 (by omega)]
  by_cases h : lo ≤ rd l i ∧ rd l i ≤ hi
  · refine ev_ifp (by simpa using h) (ev_to (ih (i + 1) (by omega) (by omega)) ?_)
    simp [h]
  · refine ev_ifn (by simpa using h) (ev_to (Ev.now _) ?_)
    simp only [List.mem_cons, forall_eq_or_imp, h, false_and, decide_false]
theorem allWithin_ev {l : List Int} (lo hi : Int) (hl : l.length ≤ 1099511627776) : Ev (fun k => impl_allWithin.f k l lo hi) (decide (∀ x ∈ l, lo ≤ x ∧ x ≤ hi)) :=
 ev_to (allWithin_l hl l.length 0 (by omega) (by omega)) (by simp)
def Asc (l : List Int) : Prop := ∀ i : Int, 0 < i → i < l.length → rd l (i - 1) < rd l i
noncomputable instance (l : List Int) : Decidable (Asc l) := Classical.propDecidable _
theorem asc_l {l : List Int} (hl : l.length ≤ 1099511627776) (d : Nat) : ∀ (i : Int), 0 < i → i + d = max 1 l.length → (∀ j, 0 < j → j < i → rd l (j - 1) < rd l j) → Ev (fun k => impl_IsAscending.l0 k l i) (decide (Asc l)) ∧ Ev (fun k => spec_IsAscending.l0 k l i) (decide (Asc l)) := by
 induction d with
 | zero =>
  intro i h0 h1 h2
  have ha : Asc l := fun j hj hj' => h2 j hj (by omega)
  constructor
  · refine Ev.step (fun k => by rw [impl_IsAscending.l0]) ?_
    simp (disch := omega) only [if_neg]
    exact ev_to (Ev.now _) (by simp [ha])
  · refine Ev.step (fun k => by rw [spec_IsAscending.l0]) ?_
    simp (disch := omega) only [if_neg]
    exact ev_to (Ev.now _) (by simp [ha])
 | succ d ih =>
  intro i h0 h1 h2
  by_cases h : rd l (i - 1) < rd l i
  · obtain ⟨a, b⟩ := ih (i + 1) (by omega) (by omega) (fun j hj hj' => by
     by_cases e : j = i
     · subst e; exact h
     · exact h2 j hj (by omega))
    constructor
    · refine Ev.step (fun k => by rw [impl_IsAscending.l0]) ?_
      simp (disch := omega) only [if_pos, if_neg, w64]
      exact a
    · refine Ev.step (fun k => by rw [spec_IsAscending.l0]) ?_
      simp (disch := omega) only [if_pos, if_neg, w64]
      exact b
  · have hn : ¬ Asc l := fun ha => h (ha i h0 (by omega))
    constructor
    · refine Ev.step (fun k => by rw [impl_IsAscending.l0]) ?_
      simp (disch := omega) only [if_pos, w64]
      exact ev_to (Ev.now _) (by simp [hn])
    · refine Ev.step (fun k => by rw [spec_IsAscending.l0]) ?_
      simp (disch := omega) only [if_pos, w64]
      exact ev_to (Ev.now _) (by simp [hn])
theorem ascI_ev {l : List Int} (hl : l.length ≤ 1099511627776) : Ev (fun k => impl_IsAscending.f k l) (decide (Asc l)) :=
 (asc_l hl (l.length - 1) 1 (by omega) (by omega) (fun j h h' => by omega)).1
theorem ascS_ev {l : List Int} (hl : l.length ≤ 1099511627776) : Ev (fun k => spec_IsAscending.f k l) (decide (Asc l)) :=
 (asc_l hl (l.length - 1) 1 (by omega) (by omega) (fun j h h' => by omega)).2
end Go.Proofs.Ytonknpgfbkgbjaa.E
end
section
namespace Go.Proofs.Ytonknpgfbkgbjaa.E
open Go.RowKit Go.Proofs.YtonknpgfbkgbjaaW.PrintWords Go.Proofs.YtonknpgfbkgbjaaW.PrintLast Go.Proofs.YtonknpgfbkgbjaaW.PrintMore
set_option linter.unusedVariables false
set_option linter.unusedSimpArgs false
theorem asc_lt {g : List Int} (h : Asc g) (d : Nat) : ∀ i j : Int, 0 ≤ i → j = i + d + 1 → j < g.length → rd g i < rd g j := by
 induction d with
 | zero =>
  intro i j h0 h1 h2
  have := h j (by omega) h2
  rwa [show j - 1 = i from by omega] at this
 | succ d ih =>
  intro i j h0 h1 h2
  have a := ih i (j - 1) h0 (by omega) (by omega)
  have b := h j (by omega) h2
  omega
inductive Way (v : List Int) : Int → Int → Prop
 | zero : Way v 0 0
 | add {x k c : Int} : x ∈ v → Way v k c → Way v (k + x) (c + 1)
theorem Way.mono {v u : List Int} (h : ∀ x ∈ v, x ∈ u) {k c : Int} (w : Way v k c) : Way u k c := by
 induction w with
 | zero => exact .zero
 | add hx _ ih => exact .add (h _ hx) ih
theorem Way.pos {v : List Int} (h : ∀ x ∈ v, 1 ≤ x) {k c : Int} (w : Way v k c) : 0 ≤ c ∧ c ≤ k := by
 induction w with
 | zero => omega
 | add hx _ ih => have := h _ hx; omega
theorem Way.plus {v : List Int} {k c : Int} (w : Way v k c) {k' c' : Int} (w' : Way v k' c') : Way v (k + k') (c + c') := by
 induction w' with
 | zero => simpa using w
 | @add x k1 c1 hx _ ih =>
  rw [← Int.add_assoc, ← Int.add_assoc]
  exact .add hx ih
theorem Way.times {v : List Int} {x : Int} (hx : x ∈ v) (j : Nat) : Way v (j * x) j := by
 induction j with
 | zero => simpa using Way.zero
 | succ j ih =>
  have := Way.add hx ih
  rw [show ((j + 1 : Nat) : Int) * x = j * x + x from by rw [Int.natCast_add, Int.add_mul]; simp]
  exact this
theorem Way.part {v u : List Int} {k c : Int} (w : Way v k c) : Way u k c ∨ ∃ y ∈ v, y ∉ u ∧ Way v (k - y) (c - 1) := by
 induction w with
 | zero => exact .inl .zero
 | @add x k c hx hw ih =>
  by_cases hu : x ∈ u
  · rcases ih with h | ⟨y, hy, hyu, h⟩
    · exact .inl (.add hu h)
    · refine .inr ⟨y, hy, hyu, ?_⟩
      have := Way.add hx h
      rwa [show k - y + x = k + x - y from by omega, show c - 1 + 1 = c + 1 - 1 from by omega] at this
  · exact .inr ⟨x, hx, hu, by rwa [show k + x - x = k from by omega, show c + 1 - 1 = c from by omega]⟩
theorem Way.last {v : List Int} {k c : Int} (w : Way v k c) : (k = 0 ∧ c = 0) ∨ ∃ x ∈ v, Way v (k - x) (c - 1) := by
 cases w with
 | zero => exact .inl ⟨rfl, rfl⟩
 | @add x k c hx hw => exact .inr ⟨x, hx, by rwa [show k + x - x = k from by omega, show c + 1 - 1 = c from by omega]⟩
theorem Way.split {u : List Int} {x : Int} {k c : Int} (w : Way (u ++ [x]) k c) : ∃ j : Nat, Way u (k - j * x) (c - j) := by
 induction w with
 | zero => exact ⟨0, by simpa using Way.zero⟩
 | @add y k c hy _ ih =>
  obtain ⟨j, h⟩ := ih
  rcases List.mem_append.1 hy with hu | hx
  · refine ⟨j, ?_⟩
    have := Way.add hu h
    rwa [show k - j * x + y = k + y - j * x from by omega, show c - (j : Int) + 1 = c + 1 - j from by omega] at this
  · obtain rfl : y = x := by simpa using hx
    refine ⟨j + 1, ?_⟩
    rw [show ((j + 1 : Nat) : Int) * y = j * y + y from by rw [Int.natCast_add, Int.add_mul]; simp, show k + y - (j * y + y) = k - j * y from by omega, show c + 1 - ((j + 1 : Nat) : Int) = c - j from by omega]
    exact h
def Fw (v : List Int) (k m : Int) : Prop := (m = -1 ∧ ∀ c, ¬ Way v k c) ∨ (Way v k m ∧ ∀ c, Way v k c → m ≤ c)
theorem Fw.one {v : List Int} (hv : ∀ x ∈ v, 1 ≤ x) {k m m' : Int} (h : Fw v k m) (h' : Fw v k m') : m = m' := by
 rcases h with ⟨h1, h2⟩ | ⟨h1, h2⟩ <;> rcases h' with ⟨h3, h4⟩ | ⟨h3, h4⟩
 · omega
 · exact absurd h3 (h2 _)
 · exact absurd h1 (h4 _)
 · have := h2 _ h3; have := h4 _ h1; omega
theorem Fw.neg {v : List Int} (hv : ∀ x ∈ v, 1 ≤ x) {k m : Int} (h : Fw v k m) : m < 0 ↔ ∀ c, ¬ Way v k c := by
 rcases h with ⟨h1, h2⟩ | ⟨h1, h2⟩
 · exact ⟨fun _ => h2, fun _ => by omega⟩
 · have := h1.pos hv
   exact ⟨fun h => by omega, fun h => absurd h1 (h _)⟩
theorem Fw.ge {v : List Int} (hv : ∀ x ∈ v, 1 ≤ x) {k m : Int} (h : Fw v k m) : -1 ≤ m := by
 rcases h with ⟨h1, h2⟩ | ⟨h1, h2⟩
 · omega
 · have := h1.pos hv; omega
theorem Fw.le {v : List Int} (hv : ∀ x ∈ v, 1 ≤ x) {k m : Int} (h : Fw v k m) (hk : 0 ≤ k) : m ≤ k := by
 rcases h with ⟨h1, h2⟩ | ⟨h1, h2⟩
 · omega
 · have := h1.pos hv; omega
theorem Fw.way {v : List Int} {k m : Int} (h : Fw v k m) (hm : 0 ≤ m) : Way v k m ∧ ∀ c, Way v k c → m ≤ c := by
 rcases h with ⟨h1, h2⟩ | h
 · omega
 · exact h
theorem Fw.nil {k : Int} (hk : 0 ≤ k) : Fw [] k (if k = 0 then 0 else -1) := by
 by_cases h : k = 0
 · subst h
   exact .inr ⟨.zero, fun c w => (w.pos (by simp)).1⟩
 · rw [if_neg h]
   refine .inl ⟨rfl, fun c w => ?_⟩
   rcases w.last with ⟨h1, _⟩ | ⟨x, hx, _⟩
   · exact h h1
   · simp at hx
theorem Fw.below {u : List Int} {x k m : Int} (hu : ∀ y ∈ u, 1 ≤ y) (hk : k < x) (h : Fw u k m) (h0 : 0 ≤ k) : Fw (u ++ [x]) k m := by
 have hv : ∀ y ∈ u ++ [x], 1 ≤ y := by
  intro y hy
  rcases List.mem_append.1 hy with hy | hy
  · exact hu y hy
  · have : y = x := by simpa using hy
    omega
 have key : ∀ c, Way (u ++ [x]) k c → Way u k c := by
  intro c w
  obtain ⟨j, hj⟩ := w.split
  by_cases h : j = 0
  · subst h; simpa using hj
  · exfalso
    have := hj.pos hu
    have hj1 : x ≤ (j : Int) * x := by
     have := Int.mul_le_mul_of_nonneg_right (show (1 : Int) ≤ j from by omega) (show 0 ≤ x from by omega)
     omega
    omega
 rcases h with ⟨h1, h2⟩ | ⟨h1, h2⟩
 · exact .inl ⟨h1, fun c w => h2 c (key c w)⟩
 · exact .inr ⟨h1.mono (fun y hy => List.mem_append.2 (.inl hy)), fun c w => h2 c (key c w)⟩
theorem Fw.next {u : List Int} {x k m p : Int} (hu : ∀ y ∈ u, 1 ≤ y) (hx : 1 ≤ x) (h : Fw u k m) (hp : Fw (u ++ [x]) (k - x) p) :
 Fw (u ++ [x]) k (if p ≥ 0 then (if m < 0 then p + 1 else if p + 1 < m then p + 1 else m) else m) := by
 have hv : ∀ y ∈ u ++ [x], 1 ≤ y := by
  intro y hy
  rcases List.mem_append.1 hy with hy | hy
  · exact hu y hy
  · have : y = x := by simpa using hy
    omega
 have key : ∀ c, Way (u ++ [x]) k c → Way u k c ∨ Way (u ++ [x]) (k - x) (c - 1) := by
  intro c w
  rcases w.part (u := u) with h | ⟨y, hy, hyu, h⟩
  · exact .inl h
  · rcases List.mem_append.1 hy with hy | hy
    · exact absurd hy hyu
    · obtain rfl : y = x := by simpa using hy
      exact .inr h
 have hup : ∀ c, Way u k c → Way (u ++ [x]) k c := fun c w => w.mono (fun y hy => List.mem_append.2 (.inl hy))
 have hone : ∀ c, Way (u ++ [x]) (k - x) c → Way (u ++ [x]) k (c + 1) := fun c w => by
  have := Way.add (show x ∈ u ++ [x] by simp) w
  rwa [show k - x + x = k from by omega] at this
 have hm := h.neg hu
 have hpn := hp.neg hv
 by_cases c1 : p ≥ 0
 · rw [if_pos c1]
   obtain ⟨p1, p2⟩ := hp.way c1
   by_cases c2 : m < 0
   · rw [if_pos c2]
     refine .inr ⟨hone _ p1, fun c w => ?_⟩
     rcases key c w with h1 | h1
     · exact absurd h1 (hm.1 c2 c)
     · have := p2 _ h1; omega
   · rw [if_neg c2]
     obtain ⟨m1, m2⟩ := h.way (by omega)
     by_cases c3 : p + 1 < m
     · rw [if_pos c3]
       refine .inr ⟨hone _ p1, fun c w => ?_⟩
       rcases key c w with h1 | h1
       · have := m2 _ h1; omega
       · have := p2 _ h1; omega
     · rw [if_neg c3]
       refine .inr ⟨hup _ m1, fun c w => ?_⟩
       rcases key c w with h1 | h1
       · exact m2 _ h1
       · have := p2 _ h1; omega
 · rw [if_neg c1]
   rcases h with ⟨h1, h2⟩ | ⟨h1, h2⟩
   · refine .inl ⟨h1, fun c w => ?_⟩
     rcases key c w with h3 | h3
     · exact h2 _ h3
     · exact hpn.1 (by omega) _ h3
   · refine .inr ⟨hup _ h1, fun c w => ?_⟩
     rcases key c w with h3 | h3
     · exact h2 _ h3
     · exact absurd h3 (hpn.1 (by omega) _)
structure Lst (v : List Int) (a G : Int) (t : List Int) : Prop where
 len : (t.length : Int) = a
 ge : ∀ r, 0 ≤ r → r < a → -1 ≤ rd t r
 way : ∀ r, 0 ≤ r → r < a → 0 ≤ rd t r → (∃ c, Way v (rd t r) c) ∧ rd t r % a = r
 least : ∀ n c, Way v n c → 0 ≤ rd t (n % a) ∧ rd t (n % a) ≤ n
 bound : ∀ r, 0 ≤ r → r < a → rd t r ≤ (a - 1) * G
def sets (t : List Int) : Nat := t.countP (fun x => decide (0 ≤ x))
theorem sets_le (t : List Int) : sets t ≤ t.length := List.countP_le_length
def weight (B : Int) (t : List Int) : Int := (t.map fun x => if x < 0 then B else x).sum
theorem weight_nonneg {B : Int} (hB : 0 ≤ B) (t : List Int) : 0 ≤ weight B t := by
 induction t with
 | nil => simp [weight]
 | cons x t ih =>
  unfold weight at *
  rw [List.map_cons, List.sum_cons]
  by_cases h : x < 0
  · rw [if_pos h]; omega
  · rw [if_neg h]; omega
theorem weight_set (B : Int) (t : List Int) (i : Nat) (h : i < t.length) (x : Int) : weight B (t.set i x) + (if t[i] < 0 then B else t[i]) = weight B t + (if x < 0 then B else x) := by
 induction t generalizing i with
 | nil => simp at h
 | cons y t ih =>
  unfold weight at *
  cases i with
  | zero => simp only [z2_, List.map_cons, List.sum_cons, List.getElem_cons_zero]; omega
  | succ i =>
   have := ih i (by simpa using h)
   simp only [z3_, List.map_cons, List.sum_cons, List.getElem_cons_succ]
   omega
theorem sets_set (t : List Int) (i : Nat) (h : i < t.length) (x : Int) (hx : 0 ≤ x) : sets (t.set i x) + (if 0 ≤ t[i] then 1 else 0) = sets t + 1 := by
 induction t generalizing i with
 | nil => simp at h
 | cons y t ih =>
  unfold sets at *
  cases i with
  | zero =>
   simp only [z2_, List.countP_cons, List.getElem_cons_zero]
   by_cases e : 0 ≤ y <;> simp [e, hx]
  | succ i =>
   have := ih i (by simpa using h)
   simp only [z3_, List.countP_cons, List.getElem_cons_succ]
   omega
structure LInv (v : List Int) (a G : Int) (t : List Int) : Prop where
 len : (t.length : Int) = a
 zero : rd t 0 = 0
 ge : ∀ r, 0 ≤ r → r < a → -1 ≤ rd t r
 way : ∀ r, 0 ≤ r → r < a → 0 ≤ rd t r → (∃ c, Way v (rd t r) c) ∧ rd t r % a = r
 bound : ∀ r, 0 ≤ r → r < a → rd t r ≤ ((sets t : Int) - 1) * G
theorem mul_le_of {x y G : Int} (hG : 0 ≤ G) (h : x ≤ y) : x * G ≤ y * G := Int.mul_le_mul_of_nonneg_right h hG
theorem LInv.top {v : List Int} {a G : Int} {t : List Int} (hG : 0 ≤ G) (h : LInv v a G t) {r : Int} (h0 : 0 ≤ r) (h1 : r < a) : rd t r ≤ (a - 1) * G := by
 have := h.bound r h0 h1
 have := sets_le t
 have := h.len
 have := mul_le_of (x := (sets t : Int) - 1) (y := a - 1) hG (by omega)
 omega
theorem LInv.step {v : List Int} {a G : Int} {t : List Int} (hv : ∀ x ∈ v, 1 ≤ x ∧ x ≤ G) (ha : 1 ≤ a) (h : LInv v a G t) {r g : Int} (hr0 : 0 ≤ r) (hr1 : r < a) (hg : g ∈ v) (hs : 0 ≤ rd t r)
 (hc : rd t ((rd t r + g) % a) < 0 ∨ rd t r + g < rd t ((rd t r + g) % a)) :
 LInv v a G (t.set ((rd t r + g) % a).toNat (rd t r + g)) ∧ weight (a * G + 1) (t.set ((rd t r + g) % a).toNat (rd t r + g)) < weight (a * G + 1) t ∧ rd t r + g ≤ a * G ∧ (rd t r + g) % a ≠ r := by
 have hgv := hv g hg
 have hG : 0 ≤ G := by omega
 have q0 := Int.emod_nonneg (rd t r + g) (b := a) (by omega)
 have q1 := Int.emod_lt_of_pos (rd t r + g) (b := a) (by omega)
 generalize hto : (rd t r + g) % a = y0 at *
 have hl := h.len
 have hb := h.bound r hr0 hr1
 have hbt := h.bound y0 q0 q1
 have hsl := sets_le t
 have hne : y0 ≠ r := by rintro rfl; omega
 have h00 : y0 ≠ 0 := by rintro rfl; rw [h.zero] at hc; omega
 have hrd : rd t y0 = t[y0.toNat]'(by omega) := rd_lt q0 (by omega)
 have hss := sets_set t y0.toNat (by omega) (rd t r + g) (by omega)
 have hws := weight_set (a * G + 1) t y0.toNat (by omega) (rd t r + g)
 rw [← hrd] at hss hws
 have hset0 : (sets (t.set y0.toNat (rd t r + g)) : Int) + (if 0 ≤ rd t y0 then 1 else 0) = sets t + 1 := by
  split at hss <;> omega
 have hm : a * G = (a - 1) * G + G := by rw [Int.sub_mul]; omega
 have hm2 : ((sets t : Int)) * G = ((sets t : Int) - 1) * G + G := by rw [Int.sub_mul]; omega
 have hm3 := mul_le_of (x := (sets t : Int) - 1) (y := a - 1) hG (by omega)
 obtain ⟨⟨c, hw⟩, hmod⟩ := h.way r hr0 hr1 hs
 have hset : (sets (t.set y0.toNat (rd t r + g)) : Int) = if rd t y0 < 0 then (sets t : Int) + 1 else sets t := by
  by_cases e : rd t y0 < 0
  · rw [if_pos e]; rw [if_neg (by omega)] at hset0; omega
  · rw [if_neg e]; rw [if_pos (by omega)] at hset0; omega
 have hsets : (sets t : Int) ≤ sets (t.set y0.toNat (rd t r + g)) := by rw [hset]; split <;> omega
 have hup : ((sets t : Int) - 1) * G ≤ ((sets (t.set y0.toNat (rd t r + g)) : Int) - 1) * G := mul_le_of hG (by omega)
 have hy : rd t r + g ≤ ((sets (t.set y0.toNat (rd t r + g)) : Int) - 1) * G := by
  by_cases e : rd t y0 < 0
  · rw [hset, if_pos e, show (sets t : Int) + 1 - 1 = sets t from by omega]; omega
  · omega
 refine ⟨⟨by simpa using hl, ?_, ?_, ?_, ?_⟩, ?_, by omega, hne⟩
 · have := rd_set (l := t) (rd t r + g) q0 (by omega) (show (0 : Int) ≤ 0 by omega)
   rw [this, if_neg (fun e => h00 e.symm)]; exact h.zero
 · intro s hs0 hs1
   rw [rd_set _ q0 (by omega) hs0]
   by_cases e : s = y0
   · rw [if_pos e]; omega
   · rw [if_neg e]; exact h.ge s hs0 hs1
 · intro s hs0 hs1 hpos
   rw [rd_set _ q0 (by omega) hs0] at hpos ⊢
   by_cases e : s = y0
   · rw [if_pos e] at hpos ⊢
     exact ⟨⟨c + 1, .add hg hw⟩, by rw [hto, e]⟩
   · rw [if_neg e] at hpos ⊢; exact h.way s hs0 hs1 hpos
 · intro s hs0 hs1
   rw [rd_set _ q0 (by omega) hs0]
   by_cases e : s = y0
   · rw [if_pos e]; exact hy
   · rw [if_neg e]; have := h.bound s hs0 hs1; omega
 · rw [if_neg (show ¬ rd t r + g < 0 by omega)] at hws
   by_cases e : rd t y0 < 0
   · rw [if_pos e] at hws; omega
   · rw [if_neg e] at hws; omega
def Closed (v : List Int) (a : Int) (t : List Int) : Prop := ∀ r, 0 ≤ r → r < a → 0 ≤ rd t r → ∀ g ∈ v, 0 ≤ rd t ((rd t r + g) % a) ∧ rd t ((rd t r + g) % a) ≤ rd t r + g
theorem LInv.done {v : List Int} {a G : Int} {t : List Int} (hv : ∀ x ∈ v, 1 ≤ x ∧ x ≤ G) (hG : 0 ≤ G) (ha : 1 ≤ a) (h : LInv v a G t) (hc : Closed v a t) : Lst v a G t := by
 refine ⟨h.len, h.ge, h.way, fun n c w => ?_, fun r h0 h1 => h.top hG h0 h1⟩
 induction w with
 | zero => simp [h.zero]
 | @add g k c hg hw ih =>
  have q0 := Int.emod_nonneg k (b := a) (by omega)
  have q1 := Int.emod_lt_of_pos k (b := a) (by omega)
  obtain ⟨c1, c2⟩ := hc (k % a) q0 q1 ih.1 g hg
  have hmod := (h.way (k % a) q0 q1 ih.1).2
  have e : (rd t (k % a) + g) % a = (k + g) % a := by
   rw [Int.add_emod, hmod, ← Int.add_emod]
  rw [e] at c1 c2
  exact ⟨c1, by omega⟩
theorem Lst.one {v : List Int} {a G G' : Int} {t u : List Int} (h : Lst v a G t) (k : Lst v a G' u) : t = u := by
 refine rd_ext (by have := h.len; have := k.len; omega) fun r h0 h1 => ?_
 have ha : r < a := by have := h.len; omega
 have g1 := h.ge r h0 ha
 have g2 := k.ge r h0 ha
 have l1 : 0 ≤ rd t r → 0 ≤ rd u r ∧ rd u r ≤ rd t r := fun hs => by
  obtain ⟨⟨c, w⟩, e⟩ := h.way r h0 ha hs
  have := k.least _ _ w
  rwa [e] at this
 have l2 : 0 ≤ rd u r → 0 ≤ rd t r ∧ rd t r ≤ rd u r := fun hs => by
  obtain ⟨⟨c, w⟩, e⟩ := k.way r h0 ha hs
  have := h.least _ _ w
  rwa [e] at this
 by_cases e1 : 0 ≤ rd t r
 · have := l1 e1; have := l2 (by omega); omega
 · by_cases e2 : 0 ≤ rd u r
   · have := l2 e2; omega
   · omega
theorem LInv.first {v : List Int} {a G : Int} (ha : 1 ≤ a) (hG : 0 ≤ G) : LInv v a G ((List.replicate a.toNat (-1)).set 0 0) := by
 have hl : ((List.replicate a.toNat (-1 : Int)).length : Int) = a := by simp; omega
 have hr : ∀ r, 0 ≤ r → r < a → rd ((List.replicate a.toNat (-1)).set 0 0) r = if r = 0 then 0 else -1 := fun r h0 h1 => by
  have := rd_set (l := List.replicate a.toNat (-1)) (i := 0) (j := r) 0 (by omega) (by omega) h0
  rw [show (0 : Int).toNat = 0 from rfl] at this
  rw [this]
  by_cases e : r = 0
  · rw [if_pos e, if_pos e]
  · rw [if_neg e, if_neg e, rd_rep h0 (by omega)]
 have hs : 1 ≤ sets ((List.replicate a.toNat (-1)).set 0 0) := by
  have := sets_set (List.replicate a.toNat (-1)) 0 (by simp; omega) 0 (by omega)
  simp at this
  omega
 have hp : 0 ≤ ((sets ((List.replicate a.toNat (-1)).set 0 0) : Int) - 1) * G := Int.mul_nonneg (by omega) hG
 refine ⟨by simp; omega, by rw [hr 0 (by omega) (by omega)]; rfl, fun r h0 h1 => ?_, fun r h0 h1 h2 => ?_, fun r h0 h1 => ?_⟩
 · rw [hr r h0 h1]; split <;> omega
 · rw [hr r h0 h1] at h2 ⊢
   by_cases e : r = 0
   · rw [if_pos e]; exact ⟨⟨0, .zero⟩, by rw [e]; rfl⟩
   · rw [if_neg e] at h2; omega
 · rw [hr r h0 h1]; split <;> omega
def Su (v : List Int) (n : Int) : Prop := ∃ c, Way v n c
noncomputable instance (v : List Int) (n : Int) : Decidable (Su v n) := Classical.propDecidable _
theorem Su.zero (v : List Int) : Su v 0 := ⟨0, .zero⟩
theorem Su.add {v : List Int} {n m : Int} (h : Su v n) (k : Su v m) : Su v (n + m) := by
 obtain ⟨c, h⟩ := h; obtain ⟨d, k⟩ := k; exact ⟨c + d, h.plus k⟩
theorem Su.mem {v : List Int} {x : Int} (h : x ∈ v) : Su v x := ⟨0 + 1, by have := Way.add h Way.zero; rwa [Int.zero_add] at this⟩
theorem Su.pos {v : List Int} (hv : ∀ x ∈ v, 1 ≤ x) {n : Int} (h : Su v n) : 0 ≤ n := by
 obtain ⟨c, h⟩ := h; have := h.pos hv; omega
theorem Su.mono {v u : List Int} (h : ∀ x ∈ v, x ∈ u) {n : Int} (k : Su v n) : Su u n := by
 obtain ⟨c, k⟩ := k; exact ⟨c, k.mono h⟩
theorem Su.last {v : List Int} {n : Int} (hn : n ≠ 0) : Su v n ↔ ∃ x ∈ v, Su v (n - x) := by
 constructor
 · rintro ⟨c, w⟩
   rcases w.last with h | ⟨x, hx, h⟩
   · exact absurd h.1 hn
   · exact ⟨x, hx, _, h⟩
 · rintro ⟨x, hx, h⟩
   have := h.add (Su.mem hx)
   rwa [show n - x + x = n from by omega] at this
theorem Su.times {v : List Int} {x : Int} (h : Su v x) (j : Nat) : Su v (j * x) := by
 induction j with
 | zero => simpa using Su.zero v
 | succ j ih =>
  have := ih.add h
  rwa [show (j : Int) * x + x = ((j + 1 : Nat) : Int) * x from by rw [Int.natCast_add, Int.add_mul]; simp] at this
theorem Su.up {v : List Int} {a : Int} (ha : 1 ≤ a) (h : Su v a) {n m : Int} (hn : Su v n) (hle : n ≤ m) (hm : n % a = m % a) : Su v m := by
 have e1 := Int.mul_ediv_add_emod n a
 have e2 := Int.mul_ediv_add_emod m a
 have hq : n / a ≤ m / a := Int.ediv_le_ediv (by omega) hle
 have := hn.add (h.times (m / a - n / a).toNat)
 rw [show (((m / a - n / a).toNat : Nat) : Int) = m / a - n / a from by omega] at this
 rwa [show n + (m / a - n / a) * a = m from by rw [Int.sub_mul, Int.mul_comm (m / a), Int.mul_comm (n / a)]; omega] at this
theorem Lst.su {v : List Int} {a G : Int} {t : List Int} (h : Lst v a G t) (ha : 1 ≤ a) (hav : Su v a) {n : Int} : Su v n ↔ 0 ≤ rd t (n % a) ∧ rd t (n % a) ≤ n := by
 have q0 := Int.emod_nonneg n (b := a) (by omega)
 have q1 := Int.emod_lt_of_pos n (b := a) (by omega)
 constructor
 · rintro ⟨c, w⟩; exact h.least _ _ w
 · rintro ⟨h1, h2⟩
   obtain ⟨w, e⟩ := h.way _ q0 q1 h1
   exact Su.up ha hav w h2 (by omega)
def UL (v : List Int) : Prop := (1 ≤ (v.length : Int) ∧ (v.length : Int) ≤ 20) ∧ ∀ x ∈ v, 1 ≤ x ∧ x ≤ 60
noncomputable instance (v : List Int) : Decidable (UL v) := Classical.propDecidable _
theorem UL.pos {v : List Int} (h : UL v) : ∀ x ∈ v, 1 ≤ x := fun x hx => (h.2 x hx).1
theorem UL.first {v : List Int} (h : UL v) : rd v 0 ∈ v ∧ 1 ≤ rd v 0 ∧ rd v 0 ≤ 60 := by
 have := rd_mem (l := v) (i := 0) (by omega) (by have := h.1; omega)
 exact ⟨this, h.2 _ this⟩
theorem UL.ne {v : List Int} (h : UL v) : v ≠ [] := by rintro rfl; have := h.1; simp at this
end Go.Proofs.Ytonknpgfbkgbjaa.E
end
section
namespace Go.Proofs.Ytonknpgfbkgbjaa.E
open Go.RowKit Go.Proofs.Ytonknpgfbkgbjaa.PB Go.Proofs.YtonknpgfbkgbjaaW.PrintWords Go.Proofs.YtonknpgfbkgbjaaW.PrintLast Go.Proofs.YtonknpgfbkgbjaaW.PrintMore
set_option linter.unusedVariables false
set_option linter.unusedSimpArgs false
theorem rdb_set {l : List Bool} {i j : Int} (x : Bool) (hi : 0 ≤ i) (hi' : i < l.length) (hj : 0 ≤ j) : rdOf false (l.set i.toNat x) j = if j = i then x else rdOf false l j := by
 unfold rdOf
 rw [List.getD_eq_getElem?_getD, List.getD_eq_getElem?_getD, List.getElem?_set]
 by_cases h : j = i
 · subst h; rw [if_pos rfl, if_pos rfl, if_pos (by omega)]; rfl
 · rw [if_neg h, if_neg (by omega)]
theorem rdb_rep {n : Nat} {i : Int} : rdOf false (List.replicate n false) i = false := by
 unfold rdOf
 rw [List.getD_eq_getElem?_getD, List.getElem?_replicate]
 split <;> rfl
def TabAt (v : List Int) (n : Int) (t : List Bool) : Prop := (∀ j, 0 ≤ j → j < n → (rdOf false t j = true ↔ Su v j)) ∧ ∀ j, n ≤ j → rdOf false t j = false
theorem tab_l1 {v : List Int} (hl : v.length ≤ 1048576) (hv : ∀ x ∈ v, 1 ≤ x ∧ x ≤ 1048576) {most n : Int} (hm : most ≤ 1048576) (hn : 1 ≤ n) (hn' : n ≤ most) {r : List Bool}
 (H : ∀ t : List Bool, (t.length : Int) = most + 1 → TabAt v (n + 1) t → Ev (fun k => spec_l3Table.l0 k v most t (n + 1)) r → True) (d : Nat) :
 ∀ (i : Int) (t : List Bool), 0 ≤ i → i + d = v.length → (t.length : Int) = most + 1 → (∀ j, 0 ≤ j → j < n → (rdOf false t j = true ↔ Su v j)) → (∀ j, n < j → rdOf false t j = false) → (rdOf false t n = true ↔ ∃ j, 0 ≤ j ∧ j < i ∧ rd v j ≤ n ∧ Su v (n - rd v j)) →
  ∃ t' : List Bool, (t'.length : Int) = most + 1 ∧ TabAt v (n + 1) t' ∧ ∀ r, Ev (fun k => spec_l3Table.l0 k v most t' (n + 1)) r → Ev (fun k => spec_l3Table.l1 k v most t n i) r := by
 have hv1 : ∀ x ∈ v, 1 ≤ x := fun x hx => (hv x hx).1
 induction d with
 | zero =>
  intro i t h0 h1 h2 h3 h4 h5
  refine ⟨t, h2, ⟨fun j hj hj' => ?_, fun j hj => h4 j (by omega)⟩, fun r hr => Ev.step (fun k => by rw [spec_l3Table.l1]) (ev_ifn (by omega) ?_)⟩
  · by_cases e : j = n
    · subst e
      rw [h5, Su.last (by omega)]
      constructor
      · rintro ⟨q, a, b, _, c⟩; exact ⟨_, rd_mem a (by omega), c⟩
      · rintro ⟨x, hx, c⟩
        obtain ⟨q, a, b, rfl⟩ := mem_rd hx
        have := c.pos hv1
        exact ⟨q, a, by omega, by omega, c⟩
    · exact h3 j hj (by omega)
  · rw [w64 (by omega) (by omega)]; exact hr
 | succ d ih =>
  intro i t h0 h1 h2 h3 h4 h5
  have hx := hv _ (rd_mem (l := v) h0 (by omega))
  by_cases c : n ≥ rd v i
  · have e := h3 (n - rd v i) (by omega) (by omega)
    by_cases b : rdOf false t (n - rd v i) = true
    · obtain ⟨t', a1, a2, a3⟩ := ih (i + 1) (t.set n.toNat true) (by omega) (by omega) (by simpa using h2) (fun j hj hj' => by rw [rdb_set _ (by omega) (by omega) hj, if_neg (by omega)]; exact h3 j hj hj') (fun j hj => by rw [rdb_set _ (by omega) (by omega) (by omega), if_neg (by omega)]; exact h4 j hj)
       (by rw [rdb_set _ (by omega) (by omega) (by omega), if_pos rfl]; exact ⟨fun _ => ⟨i, h0, by omega, c, e.1 b⟩, fun _ => rfl⟩)
      refine ⟨t', a1, a2, fun r hr => Ev.step (fun k => by rw [spec_l3Table.l1]) ?_⟩
      rw [w64 (x := n - rd v i) (by omega) (by omega), w64 (x := i + 1) (by omega) (by omega)]
      exact ev_ifp (by omega) (ev_ifp h0 (ev_ifp c (ev_ifp (by omega) (ev_ifp (by omega) (ev_ifp b (ev_ifp (by omega) (ev_ifp (by omega) (a3 r hr))))))))
    · obtain ⟨t', a1, a2, a3⟩ := ih (i + 1) t (by omega) (by omega) h2 h3 h4 (by
       rw [h5]
       constructor
       · rintro ⟨q, u1, u2, u3⟩; exact ⟨q, u1, by omega, u3⟩
       · rintro ⟨q, u1, u2, u3, u4⟩
         by_cases eq : q = i
         · subst eq; exact absurd (e.2 u4) b
         · exact ⟨q, u1, by omega, u3, u4⟩)
      refine ⟨t', a1, a2, fun r hr => Ev.step (fun k => by rw [spec_l3Table.l1]) ?_⟩
      rw [w64 (x := n - rd v i) (by omega) (by omega), w64 (x := i + 1) (by omega) (by omega)]
      exact ev_ifp (by omega) (ev_ifp h0 (ev_ifp c (ev_ifp (by omega) (ev_ifp (by omega) (ev_ifn b (a3 r hr))))))
  · obtain ⟨t', a1, a2, a3⟩ := ih (i + 1) t (by omega) (by omega) h2 h3 h4 (by
     rw [h5]
     constructor
     · rintro ⟨q, u1, u2, u3⟩; exact ⟨q, u1, by omega, u3⟩
     · rintro ⟨q, u1, u2, u3, u4⟩
       by_cases eq : q = i
       · subst eq; omega
       · exact ⟨q, u1, by omega, u3, u4⟩)
    refine ⟨t', a1, a2, fun r hr => Ev.step (fun k => by rw [spec_l3Table.l1]) ?_⟩
    rw [w64 (x := i + 1) (by omega) (by omega)]
    exact ev_ifp (by omega) (ev_ifp h0 (ev_ifn c (a3 r hr)))
theorem tab_l0 {v : List Int} (hl : v.length ≤ 1048576) (hv : ∀ x ∈ v, 1 ≤ x ∧ x ≤ 1048576) {most : Int} (hm : most ≤ 1048576) (d : Nat) : ∀ (n : Int) (t : List Bool), 1 ≤ n → n + d = most + 1 → (t.length : Int) = most + 1 → TabAt v n t →
 ∃ t' : List Bool, (t'.length : Int) = most + 1 ∧ (∀ j, 0 ≤ j → j ≤ most → (rdOf false t' j = true ↔ Su v j)) ∧ Ev (fun k => spec_l3Table.l0 k v most t n) t' := by
 induction d with
 | zero =>
  intro n t h0 h1 h2 h3
  exact ⟨t, h2, fun j hj hj' => h3.1 j hj (by omega), Ev.step (fun k => by rw [spec_l3Table.l0]) (ev_ifn (by omega) (Ev.now _))⟩
 | succ d ih =>
  intro n t h0 h1 h2 h3
  obtain ⟨t', a1, a2, a3⟩ := tab_l1 (r := t) hl hv hm h0 (by omega) (fun _ _ _ _ => trivial) v.length 0 t (by omega) (by omega) h2 h3.1 (fun j hj => h3.2 j (by omega)) (by
   rw [h3.2 n (Int.le_refl _)]
   exact ⟨fun h => (by cases h), fun ⟨j, u1, u2, _⟩ => by omega⟩)
  obtain ⟨t'', b1, b2, b3⟩ := ih (n + 1) t' (by omega) (by omega) a1 a2
  refine ⟨t'', b1, b2, Ev.step (fun k => by rw [spec_l3Table.l0]) ?_⟩
  exact ev_ifp (by omega) (a3 _ b3)
theorem tabG_ev {v : List Int} (hl : v.length ≤ 1048576) (hv : ∀ x ∈ v, 1 ≤ x ∧ x ≤ 1048576) {most : Int} (hm0 : 0 ≤ most) (hm : most ≤ 1048576) :
 ∃ t : List Bool, (t.length : Int) = most + 1 ∧ (∀ j, 0 ≤ j → j ≤ most → (rdOf false t j = true ↔ Su v j)) ∧ Ev (fun k => spec_l3Table.f k v most) t := by
 have e0 : ((List.replicate (most + 1).toNat false).length : Int) = most + 1 := by simp; omega
 obtain ⟨t, a, b, c⟩ := tab_l0 hl hv hm most.toNat 1 ((List.replicate (most + 1).toNat false).set (0 : Int).toNat true) (by omega) (by omega) (by rw [List.length_set]; exact e0) ⟨fun j hj hj' => by
  rw [rdb_set _ (by omega) (by omega) hj, if_pos (by omega), show j = 0 from by omega]
  exact ⟨fun _ => Su.zero v, fun _ => rfl⟩, fun j hj => by
  rw [rdb_set _ (by omega) (by omega) (by omega), if_neg (by omega)]; exact rdb_rep⟩
 refine ⟨t, a, b, ?_⟩
 unfold spec_l3Table.f
 rw [w64 (by omega) (by omega)]
 simp only [Option.bind_some]
 exact ev_ifp (by omega) (ev_ifp (by omega) (ev_ifp (by omega) c))
theorem tabS_ev {v : List Int} (hl : v.length ≤ 20) (hv : ∀ x ∈ v, 1 ≤ x ∧ x ≤ 60) {most : Int} (hm0 : 0 ≤ most) (hm : most ≤ 1048576) :
 ∃ t : List Bool, (t.length : Int) = most + 1 ∧ (∀ j, 0 ≤ j → j ≤ most → (rdOf false t j = true ↔ Su v j)) ∧ Ev (fun k => spec_l3Table.f k v most) t :=
 tabG_ev (by omega) (fun x hx => ⟨(hv x hx).1, by have := (hv x hx).2; omega⟩) hm0 hm
end Go.Proofs.Ytonknpgfbkgbjaa.E
end
section
namespace Go.Proofs.Ytonknpgfbkgbjaa.E
open Go.RowKit Go.Proofs.YtonknpgfbkgbjaaW.PrintWords Go.Proofs.YtonknpgfbkgbjaaW.PrintLast Go.Proofs.YtonknpgfbkgbjaaW.PrintMore
set_option linter.unusedVariables false
set_option linter.unusedSimpArgs false
def fl (p : Int → Bool) (i : Int) : Nat → List Int
 | 0 => []
 | d + 1 => if p i = true then i :: fl p (i + 1) d else fl p (i + 1) d
theorem fl_yes {p : Int → Bool} {i : Int} {d : Nat} (h : p i = true) : fl p i (d + 1) = i :: fl p (i + 1) d := by rw [fl, if_pos h]
theorem fl_no {p : Int → Bool} {i : Int} {d : Nat} (h : ¬ p i = true) : fl p i (d + 1) = fl p (i + 1) d := by rw [fl, if_neg h]
theorem fl_app (p : Int → Bool) (d e : Nat) : ∀ i : Int, fl p i (d + e) = fl p i d ++ fl p (i + d) e := by
 induction d with
 | zero => intro i; simp [fl]
 | succ d ih =>
  intro i
  rw [show d + 1 + e = (d + e) + 1 from by omega, show i + ((d + 1 : Nat) : Int) = i + 1 + d from by omega]
  by_cases h : p i = true
  · rw [fl_yes h, fl_yes h, ih, List.cons_append]
  · rw [fl_no h, fl_no h, ih]
theorem fl_mem {p : Int → Bool} {x : Int} (d : Nat) : ∀ i : Int, x ∈ fl p i d ↔ i ≤ x ∧ x < i + d ∧ p x = true := by
 induction d with
 | zero => intro i; simp [fl]; omega
 | succ d ih =>
  intro i
  by_cases h : p i = true
  · rw [fl_yes h, List.mem_cons, ih]
    constructor
    · rintro (rfl | ⟨a, b, c⟩)
      · exact ⟨Int.le_refl _, by omega, h⟩
      · exact ⟨by omega, by omega, c⟩
    · rintro ⟨a, b, c⟩
      by_cases e : x = i
      · exact .inl e
      · exact .inr ⟨by omega, by omega, c⟩
  · rw [fl_no h, ih]
    constructor
    · rintro ⟨a, b, c⟩; exact ⟨by omega, by omega, c⟩
    · rintro ⟨a, b, c⟩
      by_cases e : x = i
      · subst e; exact absurd c h
      · exact ⟨by omega, by omega, c⟩
theorem fl_len (p : Int → Bool) (d : Nat) : ∀ i : Int, (fl p i d).length ≤ d := by
 induction d with
 | zero => intro i; simp [fl]
 | succ d ih =>
  intro i
  have := ih (i + 1)
  by_cases h : p i = true
  · rw [fl_yes h, List.length_cons]; omega
  · rw [fl_no h]; omega
theorem fl_congr {p q : Int → Bool} (d : Nat) : ∀ i : Int, (∀ x, i ≤ x → x < i + d → p x = q x) → fl p i d = fl q i d := by
 induction d with
 | zero => intro i _; rfl
 | succ d ih =>
  intro i h
  rw [fl, fl, h i (Int.le_refl _) (by omega), ih (i + 1) (fun x a b => h x (by omega) (by omega))]
theorem fl_none {p : Int → Bool} (d : Nat) : ∀ i : Int, (∀ x, i ≤ x → x < i + d → ¬ p x = true) → fl p i d = [] := by
 induction d with
 | zero => intro i _; rfl
 | succ d ih => intro i h; rw [fl_no (h i (Int.le_refl _) (by omega)), ih (i + 1) (fun x a b => h x (by omega) (by omega))]
theorem asc_cons {x : Int} {l : List Int} (h : ∀ y ∈ l, x < y) (ha : Asc l) : Asc (x :: l) := by
 intro i h0 h1
 rw [List.length_cons] at h1
 have e : ∀ j : Int, 0 < j → rd (x :: l) j = rd l (j - 1) := fun j hj => by
  unfold rd; rw [show j.toNat = (j - 1).toNat + 1 from by omega, List.getD_cons_succ]
 by_cases c : i = 1
 · subst c
   rw [e 1 (by omega)]
   exact h _ (rd_mem (by omega) (by omega))
 · rw [e i h0, e (i - 1) (by omega)]
   exact ha (i - 1) (by omega) (by omega)
theorem fl_asc (p : Int → Bool) (d : Nat) : ∀ i : Int, Asc (fl p i d) := by
 induction d with
 | zero => intro i j h0 h1; simp [fl] at h1; omega
 | succ d ih =>
  intro i
  by_cases h : p i = true
  · rw [fl_yes h]
    exact asc_cons (fun y hy => by have := (fl_mem d (i + 1)).1 hy; omega) (ih _)
  · rw [fl_no h]; exact ih _
theorem fl_last {p : Int → Bool} {i : Int} {d : Nat} (h : fl p i d ≠ []) : ∃ x, i ≤ x ∧ x < i + d ∧ p x = true ∧ (∀ y, x < y → y < i + d → ¬ p y = true) ∧ rd (fl p i d) ((fl p i d).length - 1) = x := by
 induction d with
 | zero => exact absurd rfl h
 | succ d ih =>
  rw [show d + 1 = d + 1 from rfl, fl_app p d 1 i] at h ⊢
  by_cases c : p (i + d) = true
  · refine ⟨i + d, by omega, by omega, c, fun y a b => by omega, ?_⟩
    rw [show fl p (i + d) 1 = [i + d] from by rw [show (1 : Nat) = 0 + 1 from rfl, fl_yes c]; rfl]
    rw [rd_append (by simp), if_neg (by simp)]
    simp [rd]
  · have e : fl p (i + d) 1 = [] := by rw [show (1 : Nat) = 0 + 1 from rfl, fl_no c]; rfl
    rw [e, List.append_nil] at h ⊢
    obtain ⟨x, a, b, q, r, s⟩ := ih h
    refine ⟨x, a, by omega, q, fun y hy hy' => ?_, s⟩
    by_cases ey : y = i + d
    · rw [ey]; exact c
    · exact r y hy (by omega)
end Go.Proofs.Ytonknpgfbkgbjaa.E
end
section
namespace Go.Proofs.Ytonknpgfbkgbjaa.E
open Go.RowKit Go.Proofs.Ytonknpgfbkgbjaa.PB Go.Proofs.YtonknpgfbkgbjaaW.PrintWords Go.Proofs.YtonknpgfbkgbjaaW.PrintLast Go.Proofs.YtonknpgfbkgbjaaW.PrintMore
set_option linter.unusedVariables false
set_option linter.unusedSimpArgs false
theorem l2Small_eq (n : Int) : spec_l2Small.f n = some (decide (-1000000 ≤ n ∧ n ≤ 1000000)) := by
 unfold spec_l2Small.f; rw [l1In_eq]; rfl
theorem l1Max_eq (a b : Int) : spec_l1Max.f a b = some (max a b) := by
 unfold spec_l1Max.f
 by_cases h : a > b
 · rw [if_pos h, Int.max_eq_left (by omega)]
 · rw [if_neg h, Int.max_eq_right (by omega)]
theorem mx_eq (a b : Int) : mx a b = max a b := by unfold mx; omega
theorem gcdI_l (m : Nat) : ∀ n : Nat, Ev (fun k => impl_GcdOf.l0 k (m : Int) (n : Int)) (Nat.gcd m n : Int) := by
 induction m using Nat.strongRecOn with
 | _ m ih =>
  intro n
  refine Ev.step (fun k => by rw [impl_GcdOf.l0]) ?_
  by_cases h : m = 0
  · subst h
    refine ev_ifp (by rfl) (ev_to (Ev.now _) (by simp))
  · refine ev_ifn (by omega) ?_
    rw [show Int.tmod (n : Int) (m : Int) = ((n % m : Nat) : Int) from rfl, Nat.gcd_rec]
    exact ih _ (Nat.mod_lt _ (by omega)) m
theorem gcdS_l (n : Nat) : ∀ m : Nat, Ev (fun k => spec_GcdOf.l0 k (m : Int) (n : Int)) (Nat.gcd m n : Int) := by
 induction n using Nat.strongRecOn with
 | _ n ih =>
  intro m
  refine Ev.step (fun k => by rw [spec_GcdOf.l0]) ?_
  by_cases h : n = 0
  · subst h
    refine ev_ifn (by simp) (ev_to (Ev.now _) (by simp))
  · refine ev_ifp (by omega) (ev_ifn (by omega) ?_)
    rw [show Int.tmod (m : Int) (n : Int) = ((m % n : Nat) : Int) from rfl, Nat.gcd_comm, Nat.gcd_rec, Nat.gcd_comm]
    exact ih _ (Nat.mod_lt _ (by omega)) n
def gcdOf (a b : Int) : Int := if (-1000000 ≤ a ∧ a ≤ 1000000) ∧ -1000000 ≤ b ∧ b ≤ 1000000 then (Int.gcd a b : Int) else 0
theorem abs_cast (a : Int) : max a (-a) = ((a.natAbs : Nat) : Int) := by omega
theorem gcdI_ev (a b : Int) : Ev (fun k => impl_GcdOf.f k a b) (gcdOf a b) := by
 unfold impl_GcdOf.f gcdOf
 refine ev_bind _ (allWithin_ev _ _ (by simp)) ?_
 by_cases h : (-1000000 ≤ a ∧ a ≤ 1000000) ∧ -1000000 ≤ b ∧ b ≤ 1000000
 · rw [if_pos h]
   refine ev_ifp (by simpa using h) ?_
   obtain ⟨h1, h2⟩ := h
   rw [w64 (by omega) (by omega), w64 (by omega) (by omega), mx_eq, mx_eq, abs_cast, abs_cast]
   exact gcdI_l _ _
 · rw [if_neg h]
   refine ev_ifn (by simpa using h) (Ev.now _)
theorem gcdS_ev (a b : Int) : Ev (fun k => spec_GcdOf.f k a b) (gcdOf a b) := by
 unfold spec_GcdOf.f gcdOf
 simp only [l2Small_eq, Option.bind_some]
 by_cases h1 : -1000000 ≤ a ∧ a ≤ 1000000
 · refine ev_ifp (by simpa using h1) (Ev.step (fun k => by rw [spec_GcdOf.j0]) ?_)
   by_cases h2 : -1000000 ≤ b ∧ b ≤ 1000000
   · rw [if_pos ⟨h1, h2⟩]
     refine ev_ifn (by simpa using h2) ?_
     simp only [l1Max_eq, Option.bind_some]
     rw [w64 (by omega) (by omega), w64 (by omega) (by omega), abs_cast, abs_cast]
     exact gcdS_l _ _
   · rw [if_neg (fun h => h2 h.2)]
     exact ev_ifp (nd_t h2) (Ev.now _)
 · rw [if_neg (fun h => h1 h.1)]
   refine ev_ifn (by simpa using h1) (Ev.step (fun k => by rw [spec_GcdOf.j0]) ?_)
   exact ev_ifp rfl (Ev.now _)
def gl (l : List Int) : Int := l.foldl gcdOf 0
theorem gcdListI_l {l : List Int} (hl : l.length ≤ 1099511627776) (d : Nat) : ∀ (i acc : Int), 0 ≤ i → i + d = l.length → Ev (fun k => impl_GcdOfList.l0 k acc l l.length i) ((l.drop i.toNat).foldl gcdOf acc) := by
 induction d with
 | zero =>
  intro i acc h0 h1
  refine Ev.step (fun k => by rw [impl_GcdOfList.l0]) ?_
  rw [List.drop_of_length_le (by omega)]
  exact ev_ifn (by omega) (Ev.now _)
 | succ d ih =>
  intro i acc h0 h1
  refine Ev.step (fun k => by rw [impl_GcdOfList.l0]) ?_
  rw [drop_rd h0 (by omega), List.foldl_cons, w64 (by omega) (by omega)]
  exact ev_ifp (by omega) (ev_ifp h0 (ev_ifp (by omega) (ev_bind _ (gcdI_ev _ _) (ih (i + 1) _ (by omega) (by omega)))))
theorem gcdListI_ev {l : List Int} (hl : l.length ≤ 1099511627776) : Ev (fun k => impl_GcdOfList.f k l) (gl l) := by
 unfold impl_GcdOfList.f
 have := gcdListI_l hl l.length 0 0 (by omega) (by omega)
 simpa [gl] using this
theorem gcdListS_l {l : List Int} (hl : l.length ≤ 1099511627776) (d : Nat) : ∀ (i acc : Int), 0 ≤ i → i + d = l.length → Ev (fun k => spec_GcdOfList.l0 k l acc i) ((l.drop i.toNat).foldl gcdOf acc) := by
 induction d with
 | zero =>
  intro i acc h0 h1
  refine Ev.step (fun k => by rw [spec_GcdOfList.l0]) ?_
  rw [List.drop_of_length_le (by omega)]
  exact ev_ifn (by omega) (Ev.now _)
 | succ d ih =>
  intro i acc h0 h1
  refine Ev.step (fun k => by rw [spec_GcdOfList.l0]) ?_
  rw [drop_rd h0 (by omega), List.foldl_cons, w64 (by omega) (by omega)]
  exact ev_ifp (by omega) (ev_ifp h0 (ev_bind _ (gcdS_ev _ _) (ih (i + 1) _ (by omega) (by omega))))
theorem gcdListS_ev {l : List Int} (hl : l.length ≤ 1099511627776) : Ev (fun k => spec_GcdOfList.f k l) (gl l) := by
 unfold spec_GcdOfList.f
 have := gcdListS_l hl l.length 0 0 (by omega) (by omega)
 simpa [gl] using this
theorem gcdOf_small {a x : Int} (h0 : 0 ≤ a) (h1 : a ≤ 60) (hx : 1 ≤ x ∧ x ≤ 60) : 1 ≤ gcdOf a x ∧ gcdOf a x ≤ 60 ∧ gcdOf a x ∣ a ∧ gcdOf a x ∣ x := by
 have e : gcdOf a x = (Int.gcd a x : Int) := by unfold gcdOf; rw [if_pos ⟨⟨by omega, by omega⟩, by omega, by omega⟩]
 have d1 := Int.gcd_dvd_left a x
 have d2 := Int.gcd_dvd_right a x
 have p : 0 < Int.gcd a x := Int.gcd_pos_of_ne_zero_right _ (by omega)
 have le := Int.le_of_dvd (by omega) d2
 rw [e]
 exact ⟨by omega, by omega, d1, d2⟩
end Go.Proofs.Ytonknpgfbkgbjaa.E
end
section
namespace Go.Proofs.Ytonknpgfbkgbjaa.E
open Go.RowKit Go.Proofs.YtonknpgfbkgbjaaW.PrintWords Go.Proofs.YtonknpgfbkgbjaaW.PrintLast Go.Proofs.YtonknpgfbkgbjaaW.PrintMore
set_option linter.unusedVariables false
set_option linter.unusedSimpArgs false
def Dn (v : List Int) (a z : Int) : Prop := ∃ n, Su v n ∧ n % a = z % a
theorem Dn.add {v : List Int} {a z y : Int} (h : Dn v a z) (k : Dn v a y) : Dn v a (z + y) := by
 obtain ⟨n, h1, h2⟩ := h; obtain ⟨m, k1, k2⟩ := k
 exact ⟨n + m, h1.add k1, by rw [Int.add_emod, h2, k2, ← Int.add_emod]⟩
theorem Dn.mul {v : List Int} {a z : Int} (ha : 1 ≤ a) (h : Dn v a z) (k : Int) : Dn v a (z * k) := by
 obtain ⟨n, h1, h2⟩ := h
 have q := Int.emod_nonneg k (b := a) (by omega)
 have := h1.times (k % a).toNat
 rw [show (((k % a).toNat : Nat) : Int) = k % a from by omega] at this
 refine ⟨_, this, ?_⟩
 rw [Int.mul_comm, Int.mul_emod, h2, Int.emod_emod_of_dvd _ (Int.dvd_refl a), ← Int.mul_emod]
theorem Dn.gcd {v : List Int} {a : Int} (ha : 1 ≤ a) (m : Nat) : ∀ n : Nat, Dn v a m → Dn v a n → Dn v a (Nat.gcd m n : Int) := by
 induction m using Nat.strongRecOn with
 | _ m ih =>
  intro n hm hn
  by_cases h : m = 0
  · subst h; simpa using hn
  · rw [Nat.gcd_rec]
    refine ih _ (Nat.mod_lt _ (by omega)) m ?_ hm
    have := hn.add (hm.mul ha (-((n / m : Nat) : Int)))
    have e : (n : Int) + (m : Int) * -((n / m : Nat) : Int) = ((n % m : Nat) : Int) := by
     have := Nat.div_add_mod n m
     have e2 : ((m * (n / m) + n % m : Nat) : Int) = (n : Int) := by rw [this]
     rw [Int.natCast_add, Int.natCast_mul] at e2
     rw [Int.mul_neg]; omega
    rwa [e] at this
theorem Dn.fold {v : List Int} {a : Int} (ha : 1 ≤ a) {l : List Int} (hl : ∀ x ∈ l, (1 ≤ x ∧ x ≤ 60) ∧ Dn v a x) : ∀ acc : Int, 0 ≤ acc → acc ≤ 60 → Dn v a acc → Dn v a (l.foldl gcdOf acc) := by
 induction l with
 | nil => intro acc _ _ h; exact h
 | cons x l ih =>
  intro acc h0 h1 h
  have hx := hl x (by simp)
  have g := gcdOf_small h0 h1 hx.1
  rw [List.foldl_cons]
  refine ih (fun y hy => hl y (by simp [hy])) _ (by omega) g.2.1 ?_
  have e : gcdOf acc x = (Int.gcd acc x : Int) := by unfold gcdOf; rw [if_pos ⟨⟨by omega, by omega⟩, by omega, by omega⟩]
  rw [e, show Int.gcd acc x = Nat.gcd acc.toNat x.toNat from by unfold Int.gcd; congr 1 <;> omega]
  refine Dn.gcd ha _ _ ?_ ?_
  · rwa [show ((acc.toNat : Nat) : Int) = acc from by omega]
  · rw [show ((x.toNat : Nat) : Int) = x from by omega]; exact hx.2
theorem all_classes {v : List Int} {a : Int} (ha : 1 ≤ a) (hv : ∀ x ∈ v, 1 ≤ x ∧ x ≤ 60) (hg : gl v = 1) (z : Int) : Dn v a z := by
 have h1 : Dn v a 1 := by
  rw [← hg]
  exact Dn.fold ha (fun x hx => ⟨hv x hx, x, Su.mem hx, rfl⟩) 0 (by omega) (by omega) ⟨0, Su.zero v, rfl⟩
 have := h1.mul ha z
 rwa [Int.one_mul] at this
end Go.Proofs.Ytonknpgfbkgbjaa.E
end
