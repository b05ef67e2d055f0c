-- Bundled by shake.py from this session's printed and written texts; Lean checks it.
import Derived.Test.YteaiehpgigaoaaaGreatDoorZFnExactDescribeExamplex1
import Derived.Test.YteaiehpgigaoaaaGreatDoorZFnExactDescribeExamplex10
import Derived.Test.YteaiehpgigaoaaaGreatDoorZFnExactDescribeExamplex11
import Derived.Test.YteaiehpgigaoaaaGreatDoorZFnExactDescribeExamplex9
section
namespace Go.Proofs.YteaiehpgigaoaaaGreatDoor.PA
open Go.RowKit Go.Proofs.YteaiehpgigaoaaaGreatDoorW.PrintWords Go.Proofs.YteaiehpgigaoaaaGreatDoorW.PrintLast Go.Proofs.YteaiehpgigaoaaaGreatDoorW.PrintMore
attribute [local go_sem] max2_int min2_int max_two min_two max_three min_three max_four min_four
set_option linter.unusedVariables false
set_option linter.unusedSimpArgs false
def impl_DescribeSemigroup.j0 : Nat → ByteArray → List Int → Option (ByteArray)
 | 0, _, _ => none
 | k + 1, x3, x657000 => (impl_FrobeniusOf.f k x657000).bind fun t660 => ((impl_FormatI.f k t660).bind fun t661 => ((impl_GenusOf.f k x657000).bind fun t662 => ((impl_FormatI.f k t662).bind fun t663 => ((impl_TypeOf.f k x657000).bind fun t664 => ((impl_FormatI.f k t664).bind fun t665 => ((impl_GapText.f k x657000).bind fun t666 => (if 0 < (x657000.length : Int) then ((impl_AperySet.f k x657000 (rd x657000 0)).bind fun t668 => ((impl_ListText.f k t668).bind fun t671 => ((impl_WilfNumber.f k x657000).bind fun t672 => ((impl_FormatI.f k t672).bind fun t673 => ((impl_Join.f k (([(⟨#[102, 114, 111, 98, 101, 110, 105, 117, 115]⟩ : ByteArray), t661, (⟨#[103, 101, 110, 117, 115]⟩ : ByteArray), t663, (⟨#[116, 121, 112, 101]⟩ : ByteArray), t665, x3, (⟨#[103, 97, 112, 115]⟩ : ByteArray), t666, (⟨#[108, 101, 97, 115, 116]⟩ : ByteArray), t671, (⟨#[119, 105, 108, 102]⟩ : ByteArray), t673] : List ByteArray)) (⟨#[32]⟩ : ByteArray)).bind fun t677 => (some t677)))))) else (none))))))))
def impl_DescribeSemigroup.f (k : Nat) (l0_0 : List Int) : Option (ByteArray) := (impl_IsSemigroup.f k l0_0).bind fun t657 => (if t657 = true then ((impl_IsSymmetric.f k l0_0).bind fun t658 => (if t658 = true then (impl_DescribeSemigroup.j0 k (⟨#[115, 121, 109, 109, 101, 116, 114, 105, 99]⟩ : ByteArray) l0_0) else ((impl_IsPseudoSymmetric.f k l0_0).bind fun t659 => (if t659 = true then (impl_DescribeSemigroup.j0 k (⟨#[112, 115, 101, 117, 100, 111, 45, 115, 121, 109, 109, 101, 116, 114, 105, 99]⟩ : ByteArray) l0_0) else (impl_DescribeSemigroup.j0 k (⟨#[114, 101, 100, 117, 99, 105, 98, 108, 101]⟩ : ByteArray) l0_0))))) else (some (⟨#[]⟩ : ByteArray)))
def impl_DescribeSemigroup.T8 : Bool × List (List Nat × List Nat) := (true, [([], []), ([0], [0]), ([1, 1], [1]), ([], []), ([3, 2], [3]), ([4, 4], [4]), ([], []), ([6, 5], [6]), ([7, 7], [7]), ([], []), ([], []), ([10, 8], [10]), ([], []), ([], []), ([13], [13]), ([14], [14]), ([15], [15]), ([12, 16, 11], [12, 16]), ([17, 17], [17]), ([], []), ([19, 18], [19]), ([20, 20], [20]), ([2, 5, 8, 9, 11, 18, 21], [2, 5, 8, 9, 11, 18, 21]), ([22, 21], [22]), ([23, 23, 0, 1, 2, 3, 4, 5, 6, 7, 8, 9, 10, 11, 12, 13, 14, 15, 16, 17, 18, 19, 20, 21, 22, 23], [23])])
def impl_DescribeSemigroup.B8 : List Nat := [0, 1, 3, 0, 15, 31, 0, 127, 255, 0, 0, 1535, 0, 0, 8192, 24576, 57344, 130559, 261631, 0, 1048063, 2096639, 4194303, 8388607, 16777215]
theorem impl_DescribeSemigroup.tab8 : rtab .any (opsOf Tryz.f13 8) = impl_DescribeSemigroup.T8 := by kernel_rfl
theorem impl_DescribeSemigroup.bits8 : waitsOk impl_DescribeSemigroup.T8.2 impl_DescribeSemigroup.B8 = true := by kernel_rfl
set_option maxHeartbeats 8000000 in
set_option maxRecDepth 100000 in
theorem impl_DescribeSemigroup.calls (k : Nat) (A0_0 : Option Addr) (c0_0 : Nat) (l0_0 : List Int) (r : ByteArray) (w : World) (hr0_0 : Kd.C (Kd.int .i64) w A0_0 l0_0.length l0_0) (hc0_0 : l0_0.length ≤ c0_0) (hT : Tab_ w) (h : impl_DescribeSemigroup.f k l0_0 = some r) :
 Calls Tryz.prog 13 #[.agg #[.slice A0_0 l0_0.length c0_0]] w fun e w' => e = .returned (.string r) ∧ Below w.heap.size w w' := by
 have hTab := Aside0.mk hT
 clear hT
 have hu29 := Tryz.underlying29
 have HR0_0 := Aside0.mk hr0_0
 have HC0_0 := Aside0.mk hc0_0
 clear hr0_0 hc0_0
 have HB := Aside0.mk (Below.refl w.heap.size w)
 have H : ((impl_IsSemigroup.f k l0_0).bind fun t657 => (if t657 = true then ((impl_IsSymmetric.f k l0_0).bind fun t658 => (if t658 = true then (impl_DescribeSemigroup.j0 k (⟨#[115, 121, 109, 109, 101, 116, 114, 105, 99]⟩ : ByteArray) l0_0) else ((impl_IsPseudoSymmetric.f k l0_0).bind fun t659 => (if t659 = true then (impl_DescribeSemigroup.j0 k (⟨#[112, 115, 101, 117, 100, 111, 45, 115, 121, 109, 109, 101, 116, 114, 105, 99]⟩ : ByteArray) l0_0) else (impl_DescribeSemigroup.j0 k (⟨#[114, 101, 100, 117, 99, 105, 98, 108, 101]⟩ : ByteArray) l0_0))))) else (some (⟨#[]⟩ : ByteArray)))) = some r := h
 clear h
 replace H := Option.bind_eq_some_iff.mp H
 obtain ⟨t657, A20, H⟩ := H
 replace H : (if t657 = true then ((impl_IsSymmetric.f k l0_0).bind fun t658 => (if t658 = true then (impl_DescribeSemigroup.j0 k (⟨#[115, 121, 109, 109, 101, 116, 114, 105, 99]⟩ : ByteArray) l0_0) else ((impl_IsPseudoSymmetric.f k l0_0).bind fun t659 => (if t659 = true then (impl_DescribeSemigroup.j0 k (⟨#[112, 115, 101, 117, 100, 111, 45, 115, 121, 109, 109, 101, 116, 114, 105, 99]⟩ : ByteArray) l0_0) else (impl_DescribeSemigroup.j0 k (⟨#[114, 101, 100, 117, 99, 105, 98, 108, 101]⟩ : ByteArray) l0_0))))) else (some (⟨#[]⟩ : ByteArray))) = some r := H
 have A2 := Aside0.mk A20
 clear A20
 by_cases c3 : t657 = true
 · subst c3
   have H1 : ((impl_IsSymmetric.f k l0_0).bind fun t658 => (if t658 = true then (impl_DescribeSemigroup.j0 k (⟨#[115, 121, 109, 109, 101, 116, 114, 105, 99]⟩ : ByteArray) l0_0) else ((impl_IsPseudoSymmetric.f k l0_0).bind fun t659 => (if t659 = true then (impl_DescribeSemigroup.j0 k (⟨#[112, 115, 101, 117, 100, 111, 45, 115, 121, 109, 109, 101, 116, 114, 105, 99]⟩ : ByteArray) l0_0) else (impl_DescribeSemigroup.j0 k (⟨#[114, 101, 100, 117, 99, 105, 98, 108, 101]⟩ : ByteArray) l0_0))))) = some r := by rw [if_pos rfl] at H; exact H
   clear H
   have H := H1
   clear H1
   replace H := Option.bind_eq_some_iff.mp H
   obtain ⟨t658, A40, H⟩ := H
   replace H : (if t658 = true then (impl_DescribeSemigroup.j0 k (⟨#[115, 121, 109, 109, 101, 116, 114, 105, 99]⟩ : ByteArray) l0_0) else ((impl_IsPseudoSymmetric.f k l0_0).bind fun t659 => (if t659 = true then (impl_DescribeSemigroup.j0 k (⟨#[112, 115, 101, 117, 100, 111, 45, 115, 121, 109, 109, 101, 116, 114, 105, 99]⟩ : ByteArray) l0_0) else (impl_DescribeSemigroup.j0 k (⟨#[114, 101, 100, 117, 99, 105, 98, 108, 101]⟩ : ByteArray) l0_0)))) = some r := H
   have A4 := Aside0.mk A40
   clear A40
   have HC5 := Aside0.mk H
   clear H
   go_enter Tryz.func13, Tryz.ntmps13
   go_upto_if 8 with (first | ((with_reducible refine gate_dst (N := 1) rfl ?_); refine box_event ?hg (N := 1) ?hd (cs := #[.slice A0_0 l0_0.length c0_0]) (t := 29) ?hr ?_; (case hd => rfl); (case hg => rfl); (case hr => first | (go_simp; done) | (go_simp; rfl)); intro gb656 hg w6 hbox hb; have BK656 := Aside0.mk (hbox); have GW656 := Aside0.mk ((by rw [hg]; exact (below_size (bl_ HB.out)) : w.heap.size ≤ gb656)); have GE656 := Aside0.mk ((by rw [hg]; exact (below_size (bl_ HB.out)) : w.heap.size ≤ gb656)); replace HB := Aside0.mk (below_step (bl_ HB.out) hb); clear hb hbox hg; have hcz7_0 : w6.cell? ⟨gb656, 0, none⟩ = some (.slice A0_0 l0_0.length c0_0) := (blk_cell BK656.out 0).trans rfl; have hfz7_0 := blk_frozen BK656.out 0) | ((with_reducible refine gate_callee (f := 22) rfl ?_); refine gL_ (some 5) Tryz.func22 #[.agg #[.slice A0_0 l0_0.length c0_0]] ?_; (with_reducible refine (impl_IsSemigroup.calls k _ _ l0_0 true _ ?side1 ?side2 A2.out).mono ?_); (case side1 => exact ce_ ((Kd.C_below HR0_0.out HB.out))); (case side2 => exact HC0_0.out); rintro e w8 ⟨rfl, hb⟩; refine ⟨_, rfl, ?_⟩; replace BK656 := Aside0.mk (blk_below (be_ BK656.out) hb); replace HB := Aside0.mk (below_step (by repeat (first | (with_reducible first | exact HB.out | apply below_alloc | apply pw_below_drewN | apply below_drew1 | refine below_set ?_ GE656.out) | exact HB.out)) hb); (try clear hb); (try clear hb2); (try clear hk); (try clear hi); have hcz9_0 : w8.cell? ⟨gb656, 0, none⟩ = some (.slice A0_0 l0_0.length c0_0) := (blk_cell BK656.out 0).trans rfl; have hfz9_0 := blk_frozen BK656.out 0) | ((with_reducible refine gate_callee (f := 23) rfl ?_); refine gL_ (some 8) Tryz.func23 #[.agg #[.slice A0_0 l0_0.length c0_0]] ?_; (with_reducible refine (impl_IsSymmetric.calls k _ _ l0_0 t658 _ ?side1 ?side2 A4.out).mono ?_); (case side1 => exact ce_ ((Kd.C_below HR0_0.out HB.out))); (case side2 => exact HC0_0.out); rintro e w10 ⟨rfl, hb⟩; refine ⟨_, rfl, ?_⟩; replace BK656 := Aside0.mk (blk_below (be_ BK656.out) hb); replace HB := Aside0.mk (below_step (by repeat (first | (with_reducible first | exact HB.out | apply below_alloc | apply pw_below_drewN | apply below_drew1 | refine below_set ?_ GE656.out) | exact HB.out)) hb); (try clear hb); (try clear hb2); (try clear hk); (try clear hi)))
   (try simp only [Act.put, z1_, z2_, z3_])
   go_cut [3] (fun v3 wc => ∃ (kq : Nat) (x3_4 : ByteArray), v3 = .string x3_4 ∧ Aside0 (impl_DescribeSemigroup.j0 kq x3_4 l0_0 = some r) ∧ Aside0 (kq ≤ k) ∧ Aside0 (wc.heap[gb656]? = some (.cells #[(.slice A0_0 l0_0.length c0_0)] 29 (0, 0))) ∧ Aside0 (Below w.heap.size w wc))
   case first =>
    have H := HC5.out
    clear HC5
    by_cases c11 : t658 = true
    · subst c11
      have H1 : (impl_DescribeSemigroup.j0 k (⟨#[115, 121, 109, 109, 101, 116, 114, 105, 99]⟩ : ByteArray) l0_0) = some r := by rw [if_pos rfl] at H; exact H
      clear H
      have H := H1
      clear H1
      have H' := Aside0.mk H
      clear H
      go_wp2
      go_meet
      case rel => exact ⟨_, ((⟨#[115, 121, 109, 109, 101, 116, 114, 105, 99]⟩ : ByteArray)), (by first | rfl | (simp; done) | (simp [*]; done)), H', ⟨by first | omega | exact Nat.le_refl _⟩, ⟨be_ BK656.out⟩, ⟨by repeat (first | (with_reducible first | exact HB.out | apply below_alloc | apply pw_below_drewN | apply below_drew1 | refine below_set ?_ GE656.out) | exact HB.out)⟩⟩
    · replace c11 := Bool.eq_false_iff.mpr c11
      subst c11
      have H1 : ((impl_IsPseudoSymmetric.f k l0_0).bind fun t659 => (if t659 = true then (impl_DescribeSemigroup.j0 k (⟨#[112, 115, 101, 117, 100, 111, 45, 115, 121, 109, 109, 101, 116, 114, 105, 99]⟩ : ByteArray) l0_0) else (impl_DescribeSemigroup.j0 k (⟨#[114, 101, 100, 117, 99, 105, 98, 108, 101]⟩ : ByteArray) l0_0))) = some r := by rw [if_neg (show ¬ (false = true) by decide)] at H; exact H
      clear H
      have H := H1
      clear H1
      replace H := Option.bind_eq_some_iff.mp H
      obtain ⟨t659, A120, H⟩ := H
      replace H : (if t659 = true then (impl_DescribeSemigroup.j0 k (⟨#[112, 115, 101, 117, 100, 111, 45, 115, 121, 109, 109, 101, 116, 114, 105, 99]⟩ : ByteArray) l0_0) else (impl_DescribeSemigroup.j0 k (⟨#[114, 101, 100, 117, 99, 105, 98, 108, 101]⟩ : ByteArray) l0_0)) = some r := H
      have A12 := Aside0.mk A120
      clear A120
      by_cases c13 : t659 = true
      · subst c13
        have H1 : (impl_DescribeSemigroup.j0 k (⟨#[112, 115, 101, 117, 100, 111, 45, 115, 121, 109, 109, 101, 116, 114, 105, 99]⟩ : ByteArray) l0_0) = some r := by rw [if_pos rfl] at H; exact H
        clear H
        have H := H1
        clear H1
        have H' := Aside0.mk H
        clear H
        have hcz14_0 : w10.cell? ⟨gb656, 0, none⟩ = some (.slice A0_0 l0_0.length c0_0) := (blk_cell BK656.out 0).trans rfl
        have hfz14_0 := blk_frozen BK656.out 0
        go_wp2_with (first | ((with_reducible refine gate_callee (f := 24) rfl ?_); refine gL_ (some 10) Tryz.func24 #[.agg #[.slice A0_0 l0_0.length c0_0]] ?_; (with_reducible refine (impl_IsPseudoSymmetric.calls k _ _ l0_0 true _ ?side1 ?side2 A12.out).mono ?_); (case side1 => exact ce_ ((Kd.C_below HR0_0.out HB.out))); (case side2 => exact HC0_0.out); rintro e w15 ⟨rfl, hb⟩; refine ⟨_, rfl, ?_⟩; replace BK656 := Aside0.mk (blk_below (be_ BK656.out) hb); replace HB := Aside0.mk (below_step (by repeat (first | (with_reducible first | exact HB.out | apply below_alloc | apply pw_below_drewN | apply below_drew1 | refine below_set ?_ GE656.out) | exact HB.out)) hb); (try clear hb); (try clear hb2); (try clear hk); (try clear hi)))
        go_meet
        case rel => exact ⟨_, ((⟨#[112, 115, 101, 117, 100, 111, 45, 115, 121, 109, 109, 101, 116, 114, 105, 99]⟩ : ByteArray)), (by first | rfl | (simp; done) | (simp [*]; done)), H', ⟨by first | omega | exact Nat.le_refl _⟩, ⟨be_ BK656.out⟩, ⟨by repeat (first | (with_reducible first | exact HB.out | apply below_alloc | apply pw_below_drewN | apply below_drew1 | refine below_set ?_ GE656.out) | exact HB.out)⟩⟩
      · replace c13 := Bool.eq_false_iff.mpr c13
        subst c13
        have H1 : (impl_DescribeSemigroup.j0 k (⟨#[114, 101, 100, 117, 99, 105, 98, 108, 101]⟩ : ByteArray) l0_0) = some r := by rw [if_neg (show ¬ (false = true) by decide)] at H; exact H
        clear H
        have H := H1
        clear H1
        have H' := Aside0.mk H
        clear H
        have hcz16_0 : w10.cell? ⟨gb656, 0, none⟩ = some (.slice A0_0 l0_0.length c0_0) := (blk_cell BK656.out 0).trans rfl
        have hfz16_0 := blk_frozen BK656.out 0
        go_wp2_with (first | ((with_reducible refine gate_callee (f := 24) rfl ?_); refine gL_ (some 10) Tryz.func24 #[.agg #[.slice A0_0 l0_0.length c0_0]] ?_; (with_reducible refine (impl_IsPseudoSymmetric.calls k _ _ l0_0 false _ ?side1 ?side2 A12.out).mono ?_); (case side1 => exact ce_ ((Kd.C_below HR0_0.out HB.out))); (case side2 => exact HC0_0.out); rintro e w17 ⟨rfl, hb⟩; refine ⟨_, rfl, ?_⟩; replace BK656 := Aside0.mk (blk_below (be_ BK656.out) hb); replace HB := Aside0.mk (below_step (by repeat (first | (with_reducible first | exact HB.out | apply below_alloc | apply pw_below_drewN | apply below_drew1 | refine below_set ?_ GE656.out) | exact HB.out)) hb); (try clear hb); (try clear hb2); (try clear hk); (try clear hi)))
        go_meet
        case rel => exact ⟨_, ((⟨#[114, 101, 100, 117, 99, 105, 98, 108, 101]⟩ : ByteArray)), (by first | rfl | (simp; done) | (simp [*]; done)), H', ⟨by first | omega | exact Nat.le_refl _⟩, ⟨be_ BK656.out⟩, ⟨by repeat (first | (with_reducible first | exact HB.out | apply below_alloc | apply pw_below_drewN | apply below_drew1 | refine below_set ?_ GE656.out) | exact HB.out)⟩⟩
   case rest =>
    clear HC5
    try clear c1
    try clear c2
    try clear p2
    try clear c3
    try clear c11
    try clear c13
    try clear hcz14_0
    try clear hcz16_0
    try clear hcz7_0
    try clear hcz9_0
    try clear hfz14_0
    try clear hfz16_0
    try clear hfz7_0
    try clear hfz9_0
    obtain ⟨kq, x3_4, rfl, HA, HJ4, BK656, HB⟩ := hcut
    cases kq with
    | zero => exact absurd HA.out (by simp [impl_DescribeSemigroup.j0])
    | succ kj4 =>
     have H := HA.out
     clear HA
     simp only [impl_DescribeSemigroup.j0] at H
     replace H := Option.bind_eq_some_iff.mp H
     obtain ⟨t660, A180, H⟩ := H
     replace H : ((impl_FormatI.f kj4 t660).bind fun t661 => ((impl_GenusOf.f kj4 l0_0).bind fun t662 => ((impl_FormatI.f kj4 t662).bind fun t663 => ((impl_TypeOf.f kj4 l0_0).bind fun t664 => ((impl_FormatI.f kj4 t664).bind fun t665 => ((impl_GapText.f kj4 l0_0).bind fun t666 => (if 0 < (l0_0.length : Int) then ((impl_AperySet.f kj4 l0_0 (rd l0_0 0)).bind fun t668 => ((impl_ListText.f kj4 t668).bind fun t671 => ((impl_WilfNumber.f kj4 l0_0).bind fun t672 => ((impl_FormatI.f kj4 t672).bind fun t673 => ((impl_Join.f kj4 (([(⟨#[102, 114, 111, 98, 101, 110, 105, 117, 115]⟩ : ByteArray), t661, (⟨#[103, 101, 110, 117, 115]⟩ : ByteArray), t663, (⟨#[116, 121, 112, 101]⟩ : ByteArray), t665, x3_4, (⟨#[103, 97, 112, 115]⟩ : ByteArray), t666, (⟨#[108, 101, 97, 115, 116]⟩ : ByteArray), t671, (⟨#[119, 105, 108, 102]⟩ : ByteArray), t673] : List ByteArray)) (⟨#[32]⟩ : ByteArray)).bind fun t677 => (some t677)))))) else (none)))))))) = some r := H
     have A18 := Aside0.mk A180
     clear A180
     replace H := Option.bind_eq_some_iff.mp H
     obtain ⟨t661, A190, H⟩ := H
     replace H : ((impl_GenusOf.f kj4 l0_0).bind fun t662 => ((impl_FormatI.f kj4 t662).bind fun t663 => ((impl_TypeOf.f kj4 l0_0).bind fun t664 => ((impl_FormatI.f kj4 t664).bind fun t665 => ((impl_GapText.f kj4 l0_0).bind fun t666 => (if 0 < (l0_0.length : Int) then ((impl_AperySet.f kj4 l0_0 (rd l0_0 0)).bind fun t668 => ((impl_ListText.f kj4 t668).bind fun t671 => ((impl_WilfNumber.f kj4 l0_0).bind fun t672 => ((impl_FormatI.f kj4 t672).bind fun t673 => ((impl_Join.f kj4 (([(⟨#[102, 114, 111, 98, 101, 110, 105, 117, 115]⟩ : ByteArray), t661, (⟨#[103, 101, 110, 117, 115]⟩ : ByteArray), t663, (⟨#[116, 121, 112, 101]⟩ : ByteArray), t665, x3_4, (⟨#[103, 97, 112, 115]⟩ : ByteArray), t666, (⟨#[108, 101, 97, 115, 116]⟩ : ByteArray), t671, (⟨#[119, 105, 108, 102]⟩ : ByteArray), t673] : List ByteArray)) (⟨#[32]⟩ : ByteArray)).bind fun t677 => (some t677)))))) else (none))))))) = some r := H
     have A19 := Aside0.mk A190
     clear A190
     replace H := Option.bind_eq_some_iff.mp H
     obtain ⟨t662, A200, H⟩ := H
     replace H : ((impl_FormatI.f kj4 t662).bind fun t663 => ((impl_TypeOf.f kj4 l0_0).bind fun t664 => ((impl_FormatI.f kj4 t664).bind fun t665 => ((impl_GapText.f kj4 l0_0).bind fun t666 => (if 0 < (l0_0.length : Int) then ((impl_AperySet.f kj4 l0_0 (rd l0_0 0)).bind fun t668 => ((impl_ListText.f kj4 t668).bind fun t671 => ((impl_WilfNumber.f kj4 l0_0).bind fun t672 => ((impl_FormatI.f kj4 t672).bind fun t673 => ((impl_Join.f kj4 (([(⟨#[102, 114, 111, 98, 101, 110, 105, 117, 115]⟩ : ByteArray), t661, (⟨#[103, 101, 110, 117, 115]⟩ : ByteArray), t663, (⟨#[116, 121, 112, 101]⟩ : ByteArray), t665, x3_4, (⟨#[103, 97, 112, 115]⟩ : ByteArray), t666, (⟨#[108, 101, 97, 115, 116]⟩ : ByteArray), t671, (⟨#[119, 105, 108, 102]⟩ : ByteArray), t673] : List ByteArray)) (⟨#[32]⟩ : ByteArray)).bind fun t677 => (some t677)))))) else (none)))))) = some r := H
     have A20 := Aside0.mk A200
     clear A200
     replace H := Option.bind_eq_some_iff.mp H
     obtain ⟨t663, A210, H⟩ := H
     replace H : ((impl_TypeOf.f kj4 l0_0).bind fun t664 => ((impl_FormatI.f kj4 t664).bind fun t665 => ((impl_GapText.f kj4 l0_0).bind fun t666 => (if 0 < (l0_0.length : Int) then ((impl_AperySet.f kj4 l0_0 (rd l0_0 0)).bind fun t668 => ((impl_ListText.f kj4 t668).bind fun t671 => ((impl_WilfNumber.f kj4 l0_0).bind fun t672 => ((impl_FormatI.f kj4 t672).bind fun t673 => ((impl_Join.f kj4 (([(⟨#[102, 114, 111, 98, 101, 110, 105, 117, 115]⟩ : ByteArray), t661, (⟨#[103, 101, 110, 117, 115]⟩ : ByteArray), t663, (⟨#[116, 121, 112, 101]⟩ : ByteArray), t665, x3_4, (⟨#[103, 97, 112, 115]⟩ : ByteArray), t666, (⟨#[108, 101, 97, 115, 116]⟩ : ByteArray), t671, (⟨#[119, 105, 108, 102]⟩ : ByteArray), t673] : List ByteArray)) (⟨#[32]⟩ : ByteArray)).bind fun t677 => (some t677)))))) else (none))))) = some r := H
     have A21 := Aside0.mk A210
     clear A210
     replace H := Option.bind_eq_some_iff.mp H
     obtain ⟨t664, A220, H⟩ := H
     replace H : ((impl_FormatI.f kj4 t664).bind fun t665 => ((impl_GapText.f kj4 l0_0).bind fun t666 => (if 0 < (l0_0.length : Int) then ((impl_AperySet.f kj4 l0_0 (rd l0_0 0)).bind fun t668 => ((impl_ListText.f kj4 t668).bind fun t671 => ((impl_WilfNumber.f kj4 l0_0).bind fun t672 => ((impl_FormatI.f kj4 t672).bind fun t673 => ((impl_Join.f kj4 (([(⟨#[102, 114, 111, 98, 101, 110, 105, 117, 115]⟩ : ByteArray), t661, (⟨#[103, 101, 110, 117, 115]⟩ : ByteArray), t663, (⟨#[116, 121, 112, 101]⟩ : ByteArray), t665, x3_4, (⟨#[103, 97, 112, 115]⟩ : ByteArray), t666, (⟨#[108, 101, 97, 115, 116]⟩ : ByteArray), t671, (⟨#[119, 105, 108, 102]⟩ : ByteArray), t673] : List ByteArray)) (⟨#[32]⟩ : ByteArray)).bind fun t677 => (some t677)))))) else (none)))) = some r := H
     have A22 := Aside0.mk A220
     clear A220
     replace H := Option.bind_eq_some_iff.mp H
     obtain ⟨t665, A230, H⟩ := H
     replace H : ((impl_GapText.f kj4 l0_0).bind fun t666 => (if 0 < (l0_0.length : Int) then ((impl_AperySet.f kj4 l0_0 (rd l0_0 0)).bind fun t668 => ((impl_ListText.f kj4 t668).bind fun t671 => ((impl_WilfNumber.f kj4 l0_0).bind fun t672 => ((impl_FormatI.f kj4 t672).bind fun t673 => ((impl_Join.f kj4 (([(⟨#[102, 114, 111, 98, 101, 110, 105, 117, 115]⟩ : ByteArray), t661, (⟨#[103, 101, 110, 117, 115]⟩ : ByteArray), t663, (⟨#[116, 121, 112, 101]⟩ : ByteArray), t665, x3_4, (⟨#[103, 97, 112, 115]⟩ : ByteArray), t666, (⟨#[108, 101, 97, 115, 116]⟩ : ByteArray), t671, (⟨#[119, 105, 108, 102]⟩ : ByteArray), t673] : List ByteArray)) (⟨#[32]⟩ : ByteArray)).bind fun t677 => (some t677)))))) else (none))) = some r := H
     have A23 := Aside0.mk A230
     clear A230
     replace H := Option.bind_eq_some_iff.mp H
     obtain ⟨t666, A240, H⟩ := H
     replace H : (if 0 < (l0_0.length : Int) then ((impl_AperySet.f kj4 l0_0 (rd l0_0 0)).bind fun t668 => ((impl_ListText.f kj4 t668).bind fun t671 => ((impl_WilfNumber.f kj4 l0_0).bind fun t672 => ((impl_FormatI.f kj4 t672).bind fun t673 => ((impl_Join.f kj4 (([(⟨#[102, 114, 111, 98, 101, 110, 105, 117, 115]⟩ : ByteArray), t661, (⟨#[103, 101, 110, 117, 115]⟩ : ByteArray), t663, (⟨#[116, 121, 112, 101]⟩ : ByteArray), t665, x3_4, (⟨#[103, 97, 112, 115]⟩ : ByteArray), t666, (⟨#[108, 101, 97, 115, 116]⟩ : ByteArray), t671, (⟨#[119, 105, 108, 102]⟩ : ByteArray), t673] : List ByteArray)) (⟨#[32]⟩ : ByteArray)).bind fun t677 => (some t677)))))) else (none)) = some r := H
     have A24 := Aside0.mk A240
     clear A240
     by_cases c25 : 0 < (l0_0.length : Int)
     · rw [if_pos c25] at H
       have c25b0 : decide (0 < (l0_0.length : Int)) = true := decide_eq_true c25
       have c25b1 : decide (0 < l0_0.length) = true := decide_eq_true (by omega)
       clear c25
       replace H := Option.bind_eq_some_iff.mp H
       obtain ⟨t668, A260, H⟩ := H
       replace H : ((impl_ListText.f kj4 t668).bind fun t671 => ((impl_WilfNumber.f kj4 l0_0).bind fun t672 => ((impl_FormatI.f kj4 t672).bind fun t673 => ((impl_Join.f kj4 (([(⟨#[102, 114, 111, 98, 101, 110, 105, 117, 115]⟩ : ByteArray), t661, (⟨#[103, 101, 110, 117, 115]⟩ : ByteArray), t663, (⟨#[116, 121, 112, 101]⟩ : ByteArray), t665, x3_4, (⟨#[103, 97, 112, 115]⟩ : ByteArray), t666, (⟨#[108, 101, 97, 115, 116]⟩ : ByteArray), t671, (⟨#[119, 105, 108, 102]⟩ : ByteArray), t673] : List ByteArray)) (⟨#[32]⟩ : ByteArray)).bind fun t677 => (some t677))))) = some r := H
       have A26 := Aside0.mk A260
       clear A260
       replace H := Option.bind_eq_some_iff.mp H
       obtain ⟨t671, A270, H⟩ := H
       replace H : ((impl_WilfNumber.f kj4 l0_0).bind fun t672 => ((impl_FormatI.f kj4 t672).bind fun t673 => ((impl_Join.f kj4 (([(⟨#[102, 114, 111, 98, 101, 110, 105, 117, 115]⟩ : ByteArray), t661, (⟨#[103, 101, 110, 117, 115]⟩ : ByteArray), t663, (⟨#[116, 121, 112, 101]⟩ : ByteArray), t665, x3_4, (⟨#[103, 97, 112, 115]⟩ : ByteArray), t666, (⟨#[108, 101, 97, 115, 116]⟩ : ByteArray), t671, (⟨#[119, 105, 108, 102]⟩ : ByteArray), t673] : List ByteArray)) (⟨#[32]⟩ : ByteArray)).bind fun t677 => (some t677)))) = some r := H
       have A27 := Aside0.mk A270
       clear A270
       replace H := Option.bind_eq_some_iff.mp H
       obtain ⟨t672, A280, H⟩ := H
       replace H : ((impl_FormatI.f kj4 t672).bind fun t673 => ((impl_Join.f kj4 (([(⟨#[102, 114, 111, 98, 101, 110, 105, 117, 115]⟩ : ByteArray), t661, (⟨#[103, 101, 110, 117, 115]⟩ : ByteArray), t663, (⟨#[116, 121, 112, 101]⟩ : ByteArray), t665, x3_4, (⟨#[103, 97, 112, 115]⟩ : ByteArray), t666, (⟨#[108, 101, 97, 115, 116]⟩ : ByteArray), t671, (⟨#[119, 105, 108, 102]⟩ : ByteArray), t673] : List ByteArray)) (⟨#[32]⟩ : ByteArray)).bind fun t677 => (some t677))) = some r := H
       have A28 := Aside0.mk A280
       clear A280
       replace H := Option.bind_eq_some_iff.mp H
       obtain ⟨t673, A290, H⟩ := H
       replace H : ((impl_Join.f kj4 (([(⟨#[102, 114, 111, 98, 101, 110, 105, 117, 115]⟩ : ByteArray), t661, (⟨#[103, 101, 110, 117, 115]⟩ : ByteArray), t663, (⟨#[116, 121, 112, 101]⟩ : ByteArray), t665, x3_4, (⟨#[103, 97, 112, 115]⟩ : ByteArray), t666, (⟨#[108, 101, 97, 115, 116]⟩ : ByteArray), t671, (⟨#[119, 105, 108, 102]⟩ : ByteArray), t673] : List ByteArray)) (⟨#[32]⟩ : ByteArray)).bind fun t677 => (some t677)) = some r := H
       have A29 := Aside0.mk A290
       clear A290
       obtain ⟨y674, hy674⟩ : ∃ y_ : List ByteArray, y_ = (([(⟨#[102, 114, 111, 98, 101, 110, 105, 117, 115]⟩ : ByteArray), t661, (⟨#[103, 101, 110, 117, 115]⟩ : ByteArray), t663, (⟨#[116, 121, 112, 101]⟩ : ByteArray), t665, x3_4, (⟨#[103, 97, 112, 115]⟩ : ByteArray), t666, (⟨#[108, 101, 97, 115, 116]⟩ : ByteArray), t671, (⟨#[119, 105, 108, 102]⟩ : ByteArray), t673] : List ByteArray)) := ⟨_, rfl⟩
       replace H : ((impl_Join.f kj4 y674 (⟨#[32]⟩ : ByteArray)).bind fun t677 => (some t677)) = some r := by subst hy674; exact H
       have Ny674 := Aside0.mk hy674
       clear hy674
       replace H := Option.bind_eq_some_iff.mp H
       obtain ⟨t677, A300, H⟩ := H
       replace H : (some t677) = some r := H
       have A30 := Aside0.mk A300
       clear A300
       obtain rfl := Option.some.inj H
       try go_wp2
       replace BK656 := Aside0.mk (blk_drew BK656.out)
       replace HB := Aside0.mk (below_drew1 HB.out)
       have p667 : 0 ≤ (0 : Int) := (by omega)
       have q667 : 0 < (l0_0.length : Int) := od_
       obtain ⟨ad667, e667, hx667_0⟩ := Kd.at_int HR0_0.out 0 p667 q667
       have hw667_0 := hx667_0
       (try rw [show ((0 : Int)).toNat = 0 from rfl] at hw667_0)
       (try rw [show 0 * 1 = 0 from rfl] at hw667_0)
       (try rw [Addr.add_zero'] at hw667_0)
       cases e667
       have qi667 : (0 < l0_0.length) = True := eq_true (by omega)
       (try rw [show ((0 : Int)).toNat = 0 from rfl] at hx667_0)
       (try rw [Addr.add_zero'] at hx667_0)
       (try replace hx667_0 := (HB.out.cell (World.block_lt_of_cell? w _ hx667_0)).trans hx667_0)
       replace p667 := eq_true p667
       replace q667 := eq_true q667
       refine start_ (n := 25) (S := fun w' => w'.cell? ⟨gb656, 0, none⟩ = some (.slice (some ad667) l0_0.length c0_0) ∧ w'.cell? ad667 = some (.int .i64 (rd l0_0 0))) (ds := []) (B_ 0 25) (by kernel_rfl) rfl rfl ⟨(blk_cell BK656.out 0).trans rfl, ((HB.out.cell (World.block_lt_of_cell? w _ hw667_0)).trans hw667_0)⟩ (fun hHeld => ?_); refine with_tabW impl_DescribeSemigroup.tab8 impl_DescribeSemigroup.bits8 (fun HT_ HW_ => ?_)
       generalize wc.drew = w31 at BK656 HB hx667_0 hHeld ⊢
       refine pu_ HT_ 9 20 (B_ 512 25) ?_
       refine pu_ HT_ 13 24 (B_ 8704 25) ?_
       refine tk2_ HT_ HW_ hHeld 0 11 (B_ 8705 25) ?_
       refine tk2_ HT_ HW_ hHeld 3 14 (B_ 8713 25) ?_
       refine tk2_ HT_ HW_ hHeld 6 17 (B_ 8777 25) ?_
       refine tk2_ HT_ HW_ hHeld 10 21 (B_ 9801 25) ?_
       refine tk2_ HT_ HW_ hHeld 12 23 (B_ 13897 25) ?_
       refine tk2_ HT_ HW_ hHeld 14 25 (B_ 30281 25) ?_
       refine pu_ HT_ 15 26 (B_ 63049 25) ?_
       refine tk2_ HT_ HW_ hHeld 16 27 (B_ 128585 25) ?_
       refine tk2_ HT_ HW_ hHeld 19 30 (B_ 652873 25) ?_
       refine one_ (i := 1) (N := some 12) (B_ 652875 25) rfl rfl (one_of HT_.out (by kernel_rfl)) (by decide) (fun K hK => ?_)
       refine goes_ Tryz.func27 (by kernel_rfl) rfl #[.agg #[.slice (some ad667) l0_0.length c0_0]] (by rfl) rfl rfl (by (try simp only [List.map_toArray, List.map_cons, List.map_nil]); first | done | rfl | (simp only [List.length_drop, List.length_take]; rfl)) ?_
       with_reducible refine (impl_FrobeniusOf.calls kj4 _ _ l0_0 t660 _ ?side1 ?side2 A18.out).mono ?_
       (case side1 => exact ce_ ((Kd.C_below HR0_0.out HB.out)))
       (case side2 => exact HC0_0.out)
       rintro e w32 ⟨rfl, hb⟩
       refine ⟨_, rfl, ?_⟩
       replace BK656 := Aside0.mk (blk_below (be_ BK656.out) hb)
       replace HB := Aside0.mk (below_step (by repeat (first | (with_reducible first | exact HB.out | apply below_alloc | apply pw_below_drewN | apply below_drew1 | refine below_set ?_ GE656.out) | exact HB.out)) hb)
       (try clear hb)
       (try clear hb2)
       (try clear hk)
       (try clear hi)
       refine hK.out _ _ ⟨(blk_cell BK656.out 0).trans rfl, ((HB.out.cell (World.block_lt_of_cell? w _ hw667_0)).trans hw667_0)⟩ (fun hHeld => ?_)
       clear hK K
       refine norm_ (a' := ?_) ?_ ?_
       rotate_left
       · show Act.put _ (some 12) _ = _
         simp only [Act.put, z1_, z2_, z3_, i64_w, i32_w]
         rfl
       refine one_ (i := 2) (N := some 13) (B_ 652879 25) rfl rfl (one_of HT_.out (by kernel_rfl)) (by decide) (fun K hK => ?_)
       refine goes_ Tryz.func26 (by kernel_rfl) rfl #[.int .i64 t660] (by rfl) rfl rfl (by (try simp only [List.map_toArray, List.map_cons, List.map_nil]); first | done | rfl | (simp only [List.length_drop, List.length_take]; rfl)) ?_
       with_reducible refine (impl_FormatI.calls kj4 t660 t661 _ ?sideT A19.out).mono ?_
       (case sideT => exact hTab.out.below (by repeat (first | (with_reducible first | exact HB.out | apply below_alloc | apply pw_below_drewN | apply below_drew1 | refine below_set ?_ GE656.out) | exact HB.out)))
       rintro e w33 ⟨rfl, hb⟩
       refine ⟨_, rfl, ?_⟩
       replace BK656 := Aside0.mk (blk_below (be_ BK656.out) hb)
       replace HB := Aside0.mk (below_step (by repeat (first | (with_reducible first | exact HB.out | apply below_alloc | apply pw_below_drewN | apply below_drew1 | refine below_set ?_ GE656.out) | exact HB.out)) hb)
       (try clear hb)
       (try clear hb2)
       (try clear hk)
       (try clear hi)
       refine hK.out _ _ ⟨(blk_cell BK656.out 0).trans rfl, ((HB.out.cell (World.block_lt_of_cell? w _ hw667_0)).trans hw667_0)⟩ (fun hHeld => ?_)
       clear hK K
       refine norm_ (a' := ?_) ?_ ?_
       rotate_left
       · show Act.put _ (some 13) _ = _
         simp only [Act.put, z1_, z2_, z3_, i64_w, i32_w]
         rfl
       refine one_ (i := 4) (N := some 15) (B_ 652895 25) rfl rfl (one_of HT_.out (by kernel_rfl)) (by decide) (fun K hK => ?_)
       refine goes_ Tryz.func28 (by kernel_rfl) rfl #[.agg #[.slice (some ad667) l0_0.length c0_0]] (by rfl) rfl rfl (by (try simp only [List.map_toArray, List.map_cons, List.map_nil]); first | done | rfl | (simp only [List.length_drop, List.length_take]; rfl)) ?_
       with_reducible refine (impl_GenusOf.calls kj4 _ _ l0_0 t662 _ ?side1 ?side2 A20.out).mono ?_
       (case side1 => exact ce_ ((Kd.C_below HR0_0.out HB.out)))
       (case side2 => exact HC0_0.out)
       rintro e w34 ⟨rfl, hb⟩
       refine ⟨_, rfl, ?_⟩
       replace BK656 := Aside0.mk (blk_below (be_ BK656.out) hb)
       replace HB := Aside0.mk (below_step (by repeat (first | (with_reducible first | exact HB.out | apply below_alloc | apply pw_below_drewN | apply below_drew1 | refine below_set ?_ GE656.out) | exact HB.out)) hb)
       (try clear hb)
       (try clear hb2)
       (try clear hk)
       (try clear hi)
       refine hK.out _ _ ⟨(blk_cell BK656.out 0).trans rfl, ((HB.out.cell (World.block_lt_of_cell? w _ hw667_0)).trans hw667_0)⟩ (fun hHeld => ?_)
       clear hK K
       refine norm_ (a' := ?_) ?_ ?_
       rotate_left
       · show Act.put _ (some 15) _ = _
         simp only [Act.put, z1_, z2_, z3_, i64_w, i32_w]
         rfl
       refine one_ (i := 5) (N := some 16) (B_ 652927 25) rfl rfl (one_of HT_.out (by kernel_rfl)) (by decide) (fun K hK => ?_)
       refine goes_ Tryz.func26 (by kernel_rfl) rfl #[.int .i64 t662] (by rfl) rfl rfl (by (try simp only [List.map_toArray, List.map_cons, List.map_nil]); first | done | rfl | (simp only [List.length_drop, List.length_take]; rfl)) ?_
       with_reducible refine (impl_FormatI.calls kj4 t662 t663 _ ?sideT A21.out).mono ?_
       (case sideT => exact hTab.out.below (by repeat (first | (with_reducible first | exact HB.out | apply below_alloc | apply pw_below_drewN | apply below_drew1 | refine below_set ?_ GE656.out) | exact HB.out)))
       rintro e w35 ⟨rfl, hb⟩
       refine ⟨_, rfl, ?_⟩
       replace BK656 := Aside0.mk (blk_below (be_ BK656.out) hb)
       replace HB := Aside0.mk (below_step (by repeat (first | (with_reducible first | exact HB.out | apply below_alloc | apply pw_below_drewN | apply below_drew1 | refine below_set ?_ GE656.out) | exact HB.out)) hb)
       (try clear hb)
       (try clear hb2)
       (try clear hk)
       (try clear hi)
       refine hK.out _ _ ⟨(blk_cell BK656.out 0).trans rfl, ((HB.out.cell (World.block_lt_of_cell? w _ hw667_0)).trans hw667_0)⟩ (fun hHeld => ?_)
       clear hK K
       refine norm_ (a' := ?_) ?_ ?_
       rotate_left
       · show Act.put _ (some 16) _ = _
         simp only [Act.put, z1_, z2_, z3_, i64_w, i32_w]
         rfl
       refine one_ (i := 7) (N := some 18) (B_ 653055 25) rfl rfl (one_of HT_.out (by kernel_rfl)) (by decide) (fun K hK => ?_)
       refine goes_ Tryz.func29 (by kernel_rfl) rfl #[.agg #[.slice (some ad667) l0_0.length c0_0]] (by rfl) rfl rfl (by (try simp only [List.map_toArray, List.map_cons, List.map_nil]); first | done | rfl | (simp only [List.length_drop, List.length_take]; rfl)) ?_
       with_reducible refine (impl_TypeOf.calls kj4 _ _ l0_0 t664 _ ?side1 ?side2 A22.out).mono ?_
       (case side1 => exact ce_ ((Kd.C_below HR0_0.out HB.out)))
       (case side2 => exact HC0_0.out)
       rintro e w36 ⟨rfl, hb⟩
       refine ⟨_, rfl, ?_⟩
       replace BK656 := Aside0.mk (blk_below (be_ BK656.out) hb)
       replace HB := Aside0.mk (below_step (by repeat (first | (with_reducible first | exact HB.out | apply below_alloc | apply pw_below_drewN | apply below_drew1 | refine below_set ?_ GE656.out) | exact HB.out)) hb)
       (try clear hb)
       (try clear hb2)
       (try clear hk)
       (try clear hi)
       refine hK.out _ _ ⟨(blk_cell BK656.out 0).trans rfl, ((HB.out.cell (World.block_lt_of_cell? w _ hw667_0)).trans hw667_0)⟩ (fun hHeld => ?_)
       clear hK K
       refine norm_ (a' := ?_) ?_ ?_
       rotate_left
       · show Act.put _ (some 18) _ = _
         simp only [Act.put, z1_, z2_, z3_, i64_w, i32_w]
         rfl
       refine one_ (i := 8) (N := some 19) (B_ 653311 25) rfl rfl (one_of HT_.out (by kernel_rfl)) (by decide) (fun K hK => ?_)
       refine goes_ Tryz.func26 (by kernel_rfl) rfl #[.int .i64 t664] (by rfl) rfl rfl (by (try simp only [List.map_toArray, List.map_cons, List.map_nil]); first | done | rfl | (simp only [List.length_drop, List.length_take]; rfl)) ?_
       with_reducible refine (impl_FormatI.calls kj4 t664 t665 _ ?sideT A23.out).mono ?_
       (case sideT => exact hTab.out.below (by repeat (first | (with_reducible first | exact HB.out | apply below_alloc | apply pw_below_drewN | apply below_drew1 | refine below_set ?_ GE656.out) | exact HB.out)))
       rintro e w37 ⟨rfl, hb⟩
       refine ⟨_, rfl, ?_⟩
       replace BK656 := Aside0.mk (blk_below (be_ BK656.out) hb)
       replace HB := Aside0.mk (below_step (by repeat (first | (with_reducible first | exact HB.out | apply below_alloc | apply pw_below_drewN | apply below_drew1 | refine below_set ?_ GE656.out) | exact HB.out)) hb)
       (try clear hb)
       (try clear hb2)
       (try clear hk)
       (try clear hi)
       refine hK.out _ _ ⟨(blk_cell BK656.out 0).trans rfl, ((HB.out.cell (World.block_lt_of_cell? w _ hw667_0)).trans hw667_0)⟩ (fun hHeld => ?_)
       clear hK K
       refine norm_ (a' := ?_) ?_ ?_
       rotate_left
       · show Act.put _ (some 19) _ = _
         simp only [Act.put, z1_, z2_, z3_, i64_w, i32_w]
         rfl
       refine one_ (i := 11) (N := some 22) (B_ 655359 25) rfl rfl (one_of HT_.out (by kernel_rfl)) (by decide) (fun K hK => ?_)
       refine goes_ Tryz.func30 (by kernel_rfl) rfl #[.agg #[.slice (some ad667) l0_0.length c0_0]] (by rfl) rfl rfl (by (try simp only [List.map_toArray, List.map_cons, List.map_nil]); first | done | rfl | (simp only [List.length_drop, List.length_take]; rfl)) ?_
       with_reducible refine (impl_GapText.calls kj4 _ _ l0_0 t666 _ ?side1 ?side2 A24.out).mono ?_
       (case side1 => exact ce_ ((Kd.C_below HR0_0.out HB.out)))
       (case side2 => exact HC0_0.out)
       rintro e w38 ⟨rfl, hb⟩
       refine ⟨_, rfl, ?_⟩
       replace BK656 := Aside0.mk (blk_below (be_ BK656.out) hb)
       replace HB := Aside0.mk (below_step (by repeat (first | (with_reducible first | exact HB.out | apply below_alloc | apply pw_below_drewN | apply below_drew1 | refine below_set ?_ GE656.out) | exact HB.out)) hb)
       (try clear hb)
       (try clear hb2)
       (try clear hk)
       (try clear hi)
       refine hK.out _ _ ⟨(blk_cell BK656.out 0).trans rfl, ((HB.out.cell (World.block_lt_of_cell? w _ hw667_0)).trans hw667_0)⟩ (fun hHeld => ?_)
       clear hK K
       refine norm_ (a' := ?_) ?_ ?_
       rotate_left
       · show Act.put _ (some 22) _ = _
         simp only [Act.put, z1_, z2_, z3_, i64_w, i32_w]
         rfl
       refine one_ (i := 17) (N := some 28) (B_ 786431 25) rfl rfl (one_of HT_.out (by kernel_rfl)) (by decide) (fun K hK => ?_)
       refine goes_ Tryz.func32 (by kernel_rfl) rfl #[.agg #[.slice (some ad667) l0_0.length c0_0], .int .i64 (rd l0_0 0)] (by rfl) rfl rfl (by (try simp only [List.map_toArray, List.map_cons, List.map_nil]); first | done | rfl | (simp only [List.length_drop, List.length_take]; rfl)) ?_
       with_reducible refine (impl_AperySet.calls kj4 _ _ l0_0 (rd l0_0 0) t668 _ ?side1 ?side2 A26.out).mono ?_
       (case side1 => exact ce_ ((Kd.C_below HR0_0.out HB.out)))
       (case side2 => exact HC0_0.out)
       rintro e w39 ⟨v669, rfl, ho0, hb⟩
       refine ⟨_, rfl, ?_⟩
       have HO670 := Aside0.mk (Kd.R_lower ho0 (below_size (by repeat (first | (with_reducible first | exact HB.out | apply below_alloc | apply pw_below_drewN | apply below_drew1 | refine below_set ?_ GE656.out) | exact HB.out))))
       replace BK656 := Aside0.mk (blk_below (be_ BK656.out) hb)
       replace HB := Aside0.mk (below_step (by repeat (first | (with_reducible first | exact HB.out | apply below_alloc | apply pw_below_drewN | apply below_drew1 | refine below_set ?_ GE656.out) | exact HB.out)) hb)
       (try clear hb)
       (try clear hb2)
       (try clear hk)
       (try clear hi)
       (try clear ho0)
       obtain ⟨Ao40, co40, eo40⟩ := Kd.R_slice HO670.out
       (first | subst eo40 | (injection eo40 with f1_ f2_ f3_; have f4_ := f1_.symm; have f5_ := f3_.symm; clear f1_ f2_ f3_; subst f4_; subst f5_))
       refine hK.out _ _ ⟨(blk_cell BK656.out 0).trans rfl, ((HB.out.cell (World.block_lt_of_cell? w _ hw667_0)).trans hw667_0)⟩ (fun hHeld => ?_)
       clear hK K
       refine norm_ (a' := ?_) ?_ ?_
       rotate_left
       · show Act.put _ (some 28) _ = _
         simp only [Act.put, z1_, z2_, z3_, i64_w, i32_w]
         rfl
       refine one_ (i := 18) (N := some 29) (B_ 1048575 25) rfl rfl (one_of HT_.out (by kernel_rfl)) (by decide) (fun K hK => ?_)
       refine goes_ Tryz.func31 (by kernel_rfl) rfl #[.slice Ao40 t668.length co40] (by rfl) rfl rfl (by (try simp only [List.map_toArray, List.map_cons, List.map_nil]); first | done | rfl | (simp only [List.length_drop, List.length_take]; rfl)) ?_
       with_reducible refine (impl_ListText.calls kj4 _ _ t668 t671 _ ?side1 ?side2 A27.out).mono ?_
       (case side1 => exact ce_ ((Kd.R_reads' HO670.out).2.2))
       (case side2 => exact (Kd.R_reads' HO670.out).2.1)
       rintro e w41 ⟨rfl, hb⟩
       refine ⟨_, rfl, ?_⟩
       replace HO670 := Aside0.mk (Kd.R_below (re_ HO670.out) hb)
       replace BK656 := Aside0.mk (blk_below (be_ BK656.out) hb)
       replace HB := Aside0.mk (below_step (by repeat (first | (with_reducible first | exact HB.out | apply below_alloc | apply pw_below_drewN | apply below_drew1 | refine below_set ?_ GE656.out) | exact HB.out)) hb)
       (try clear hb)
       (try clear hb2)
       (try clear hk)
       (try clear hi)
       refine hK.out _ _ ⟨(blk_cell BK656.out 0).trans rfl, ((HB.out.cell (World.block_lt_of_cell? w _ hw667_0)).trans hw667_0)⟩ (fun hHeld => ?_)
       clear hK K
       refine norm_ (a' := ?_) ?_ ?_
       rotate_left
       · show Act.put _ (some 29) _ = _
         simp only [Act.put, z1_, z2_, z3_, i64_w, i32_w]
         rfl
       refine one_ (i := 20) (N := some 31) (B_ 2097151 25) rfl rfl (one_of HT_.out (by kernel_rfl)) (by decide) (fun K hK => ?_)
       refine goes_ Tryz.func33 (by kernel_rfl) rfl #[.agg #[.slice (some ad667) l0_0.length c0_0]] (by rfl) rfl rfl (by (try simp only [List.map_toArray, List.map_cons, List.map_nil]); first | done | rfl | (simp only [List.length_drop, List.length_take]; rfl)) ?_
       with_reducible refine (impl_WilfNumber.calls kj4 _ _ l0_0 t672 _ ?side1 ?side2 A28.out).mono ?_
       (case side1 => exact ce_ ((Kd.C_below HR0_0.out HB.out)))
       (case side2 => exact HC0_0.out)
       rintro e w42 ⟨rfl, hb⟩
       refine ⟨_, rfl, ?_⟩
       replace HO670 := Aside0.mk (Kd.R_below (re_ HO670.out) hb)
       replace BK656 := Aside0.mk (blk_below (be_ BK656.out) hb)
       replace HB := Aside0.mk (below_step (by repeat (first | (with_reducible first | exact HB.out | apply below_alloc | apply pw_below_drewN | apply below_drew1 | refine below_set ?_ GE656.out) | exact HB.out)) hb)
       (try clear hb)
       (try clear hb2)
       (try clear hk)
       (try clear hi)
       refine hK.out _ _ ⟨(blk_cell BK656.out 0).trans rfl, ((HB.out.cell (World.block_lt_of_cell? w _ hw667_0)).trans hw667_0)⟩ (fun hHeld => ?_)
       clear hK K
       refine norm_ (a' := ?_) ?_ ?_
       rotate_left
       · show Act.put _ (some 31) _ = _
         simp only [Act.put, z1_, z2_, z3_, i64_w, i32_w]
         rfl
       refine one_ (i := 21) (N := some 32) (B_ 4194303 25) rfl rfl (one_of HT_.out (by kernel_rfl)) (by decide) (fun K hK => ?_)
       refine goes_ Tryz.func26 (by kernel_rfl) rfl #[.int .i64 t672] (by rfl) rfl rfl (by (try simp only [List.map_toArray, List.map_cons, List.map_nil]); first | done | rfl | (simp only [List.length_drop, List.length_take]; rfl)) ?_
       with_reducible refine (impl_FormatI.calls kj4 t672 t673 _ ?sideT A29.out).mono ?_
       (case sideT => exact hTab.out.below (by repeat (first | (with_reducible first | exact HB.out | apply below_alloc | apply pw_below_drewN | apply below_drew1 | refine below_set ?_ GE656.out) | exact HB.out)))
       rintro e w43 ⟨rfl, hb⟩
       refine ⟨_, rfl, ?_⟩
       replace HO670 := Aside0.mk (Kd.R_below (re_ HO670.out) hb)
       replace BK656 := Aside0.mk (blk_below (be_ BK656.out) hb)
       replace HB := Aside0.mk (below_step (by repeat (first | (with_reducible first | exact HB.out | apply below_alloc | apply pw_below_drewN | apply below_drew1 | refine below_set ?_ GE656.out) | exact HB.out)) hb)
       (try clear hb)
       (try clear hb2)
       (try clear hk)
       (try clear hi)
       refine hK.out _ _ ⟨(blk_cell BK656.out 0).trans rfl, ((HB.out.cell (World.block_lt_of_cell? w _ hw667_0)).trans hw667_0)⟩ (fun hHeld => ?_)
       clear hK K
       refine norm_ (a' := ?_) ?_ ?_
       rotate_left
       · show Act.put _ (some 32) _ = _
         simp only [Act.put, z1_, z2_, z3_, i64_w, i32_w]
         rfl
       refine one_ (i := 22) (N := some 33) (B_ 8388607 25) rfl rfl (one_of HT_.out (by kernel_rfl)) (by decide) (fun K hK => ?_)
       refine Kd.R_lit_step Kd.string _ 9 ?hg (N := 33) ?hd (xs := ([(⟨#[102, 114, 111, 98, 101, 110, 105, 117, 115]⟩ : ByteArray), t661, (⟨#[103, 101, 110, 117, 115]⟩ : ByteArray), t663, (⟨#[116, 121, 112, 101]⟩ : ByteArray), t665, x3_4, (⟨#[103, 97, 112, 115]⟩ : ByteArray), t666, (⟨#[108, 101, 97, 115, 116]⟩ : ByteArray), t671, (⟨#[119, 105, 108, 102]⟩ : ByteArray), t673] : List ByteArray)) (inner := [.string (⟨#[102, 114, 111, 98, 101, 110, 105, 117, 115]⟩ : ByteArray), .string t661, .string (⟨#[103, 101, 110, 117, 115]⟩ : ByteArray), .string t663, .string (⟨#[116, 121, 112, 101]⟩ : ByteArray), .string t665, .string x3_4, .string (⟨#[103, 97, 112, 115]⟩ : ByteArray), .string t666, .string (⟨#[108, 101, 97, 115, 116]⟩ : ByteArray), .string t671, .string (⟨#[119, 105, 108, 102]⟩ : ByteArray), .string t673]) (ok := fun _ => True) (okp := fun _ => True) ?hr ?hp (fun _ hk => hk) trivial (Below.refl _ _) (Nat.le_refl _) (by simp) ?_; (case hd => rfl); (case hg => rfl); (case hr => first | (go_simp; done) | (go_simp; rfl)); (case hp => exact (Reps.one (show Kd.M Kd.string _ _ _ (⟨#[102, 114, 111, 98, 101, 110, 105, 117, 115]⟩ : ByteArray) [.string (⟨#[102, 114, 111, 98, 101, 110, 105, 117, 115]⟩ : ByteArray)] from rfl) (Reps.one (show Kd.M Kd.string _ _ _ t661 [.string t661] from rfl) (Reps.one (show Kd.M Kd.string _ _ _ (⟨#[103, 101, 110, 117, 115]⟩ : ByteArray) [.string (⟨#[103, 101, 110, 117, 115]⟩ : ByteArray)] from rfl) (Reps.one (show Kd.M Kd.string _ _ _ t663 [.string t663] from rfl) (Reps.one (show Kd.M Kd.string _ _ _ (⟨#[116, 121, 112, 101]⟩ : ByteArray) [.string (⟨#[116, 121, 112, 101]⟩ : ByteArray)] from rfl) (Reps.one (show Kd.M Kd.string _ _ _ t665 [.string t665] from rfl) (Reps.one (show Kd.M Kd.string _ _ _ x3_4 [.string x3_4] from rfl) (Reps.one (show Kd.M Kd.string _ _ _ (⟨#[103, 97, 112, 115]⟩ : ByteArray) [.string (⟨#[103, 97, 112, 115]⟩ : ByteArray)] from rfl) (Reps.one (show Kd.M Kd.string _ _ _ t666 [.string t666] from rfl) (Reps.one (show Kd.M Kd.string _ _ _ (⟨#[108, 101, 97, 115, 116]⟩ : ByteArray) [.string (⟨#[108, 101, 97, 115, 116]⟩ : ByteArray)] from rfl) (Reps.one (show Kd.M Kd.string _ _ _ t671 [.string t671] from rfl) (Reps.one (show Kd.M Kd.string _ _ _ (⟨#[119, 105, 108, 102]⟩ : ByteArray) [.string (⟨#[119, 105, 108, 102]⟩ : ByteArray)] from rfl) (Reps.one (show Kd.M Kd.string _ _ _ t673 [.string t673] from rfl) (Reps.none _ _)))))))))))))))
       intro v675 w44 ho45 hb hg_ hnew_
       clear hg_ hnew_
       (first | rw [← Ny674.out] at ho45 | (simp only [Int.reduceToNat] at ho45; rw [← Ny674.out] at ho45))
       replace HO670 := Aside0.mk (Kd.R_below (re_ HO670.out) hb)
       have HO676 := Aside0.mk (Kd.R_lower ho45 (below_size (by repeat (first | (with_reducible first | exact HB.out | apply below_alloc | apply pw_below_drewN | apply below_drew1 | refine below_set ?_ GE656.out) | exact HB.out))))
       replace BK656 := Aside0.mk (blk_below (be_ BK656.out) hb)
       replace HB := Aside0.mk (below_step (by repeat (first | (with_reducible first | exact HB.out | apply below_alloc | apply pw_below_drewN | apply below_drew1 | refine below_set ?_ GE656.out) | exact HB.out)) hb)
       clear hb ho45
       obtain ⟨Ao46, co46, eo46⟩ := Kd.R_slice HO676.out
       (first | subst eo46 | (injection eo46 with f1_ f2_ f3_; have f4_ := f1_.symm; have f5_ := f3_.symm; clear f1_ f2_ f3_; subst f4_; subst f5_))
       refine hK.out _ _ ⟨(blk_cell BK656.out 0).trans rfl, ((HB.out.cell (World.block_lt_of_cell? w _ hw667_0)).trans hw667_0)⟩ (fun hHeld => ?_)
       clear hK K
       refine norm_ (a' := ?_) ?_ ?_
       rotate_left
       · show Act.put _ (some 33) _ = _
         simp only [Act.put, z1_, z2_, z3_, i64_w, i32_w]
         rfl
       refine one_ (i := 23) (N := some 34) (B_ 16777215 25) rfl rfl (one_of HT_.out (by kernel_rfl)) (by decide) (fun K hK => ?_)
       refine goes_ Tryz.func25 (by kernel_rfl) rfl #[.slice Ao46 y674.length co46, .string (⟨#[32]⟩ : ByteArray)] (by rfl) rfl rfl (by (try simp only [List.map_toArray, List.map_cons, List.map_nil]); first | done | rfl | (simp only [List.length_drop, List.length_take]; rfl)) ?_
       with_reducible refine (impl_Join.calls kj4 _ _ y674 (⟨#[32]⟩ : ByteArray) t677 _ ?side1 ?side2 A30.out).mono ?_
       (case side1 => exact ce_ ((Kd.R_reads' HO676.out).2.2))
       (case side2 => exact (Kd.R_reads' HO676.out).2.1)
       rintro e w47 ⟨rfl, hb⟩
       refine ⟨_, rfl, ?_⟩
       replace HO670 := Aside0.mk (Kd.R_below (re_ HO670.out) hb)
       replace HO676 := Aside0.mk (Kd.R_below (re_ HO676.out) hb)
       replace BK656 := Aside0.mk (blk_below (be_ BK656.out) hb)
       replace HB := Aside0.mk (below_step (by repeat (first | (with_reducible first | exact HB.out | apply below_alloc | apply pw_below_drewN | apply below_drew1 | refine below_set ?_ GE656.out) | exact HB.out)) hb)
       (try clear hb)
       (try clear hb2)
       (try clear hk)
       (try clear hi)
       refine hK.out _ _ ⟨(blk_cell BK656.out 0).trans rfl, ((HB.out.cell (World.block_lt_of_cell? w _ hw667_0)).trans hw667_0)⟩ (fun hHeld => ?_)
       clear hK K
       refine norm_ (a' := ?_) ?_ ?_
       rotate_left
       · show Act.put _ (some 34) _ = _
         simp only [Act.put, z1_, z2_, z3_, i64_w, i32_w]
         rfl
       refine pu_ HT_ 24 2 (B_ 33554431 25) ?_
       refine done_ (done_of HT_.out (by kernel_rfl)) ?_
       try go_wp2
       go_ret
       exact ⟨by first | rfl | (simp [errW_none, errW_some] <;> rfl) | (simp [*, errW_none, errW_some] <;> rfl), by repeat (first | (with_reducible first | exact HB.out | apply below_alloc | apply pw_below_drewN | apply below_drew1 | refine below_set ?_ GE656.out) | exact HB.out)⟩
     · rw [if_neg c25] at H
       exact absurd H (by simp)
 · replace c3 := Bool.eq_false_iff.mpr c3
   subst c3
   have H1 : (some (⟨#[]⟩ : ByteArray)) = some r := by rw [if_neg (show ¬ (false = true) by decide)] at H; exact H
   clear H
   have H := H1
   clear H1
   obtain rfl := Option.some.inj H
   go_enter Tryz.func13, Tryz.ntmps13
   go_wp2_with (first | ((with_reducible refine gate_dst (N := 1) rfl ?_); refine box_event ?hg (N := 1) ?hd (cs := #[.slice A0_0 l0_0.length c0_0]) (t := 29) ?hr ?_; (case hd => rfl); (case hg => rfl); (case hr => first | (go_simp; done) | (go_simp; rfl)); intro gb656 hg w48 hbox hb; have BK656 := Aside0.mk (hbox); have GW656 := Aside0.mk ((by rw [hg]; exact (below_size (bl_ HB.out)) : w.heap.size ≤ gb656)); have GE656 := Aside0.mk ((by rw [hg]; exact (below_size (bl_ HB.out)) : w.heap.size ≤ gb656)); replace HB := Aside0.mk (below_step (bl_ HB.out) hb); clear hb hbox hg; have hcz49_0 : w48.cell? ⟨gb656, 0, none⟩ = some (.slice A0_0 l0_0.length c0_0) := (blk_cell BK656.out 0).trans rfl; have hfz49_0 := blk_frozen BK656.out 0) | ((with_reducible refine gate_callee (f := 22) rfl ?_); refine gL_ (some 5) Tryz.func22 #[.agg #[.slice A0_0 l0_0.length c0_0]] ?_; (with_reducible refine (impl_IsSemigroup.calls k _ _ l0_0 false _ ?side1 ?side2 A2.out).mono ?_); (case side1 => exact ce_ ((Kd.C_below HR0_0.out HB.out))); (case side2 => exact HC0_0.out); rintro e w50 ⟨rfl, hb⟩; refine ⟨_, rfl, ?_⟩; replace BK656 := Aside0.mk (blk_below (be_ BK656.out) hb); replace HB := Aside0.mk (below_step (by repeat (first | (with_reducible first | exact HB.out | apply below_alloc | apply pw_below_drewN | apply below_drew1 | refine below_set ?_ GE656.out) | exact HB.out)) hb); (try clear hb); (try clear hb2); (try clear hk); (try clear hi)))
   go_ret
   exact ⟨by first | rfl | (simp [errW_none, errW_some] <;> rfl) | (simp [*, errW_none, errW_some] <;> rfl), by repeat (first | (with_reducible first | exact HB.out | apply below_alloc | apply pw_below_drewN | apply below_drew1 | refine below_set ?_ GE656.out) | exact HB.out)⟩
def stringslite_HasPrefix.f (a0 : ByteArray) (a1 : ByteArray) : Option (Bool) := if (a0.size : Int) ≥ (a1.size : Int) then (if 0 ≤ (a1.size : Int) then (if (a1.size : Int) ≤ (a0.size : Int) then (some ((a0.extract 0 ((a1.size : Int) : Int).toNat).toList == a1.toList)) else (none)) else (none)) else (some false)
set_option maxHeartbeats 8000000 in
set_option maxRecDepth 100000 in
theorem stringslite_HasPrefix.calls (a0 : ByteArray) (a1 : ByteArray) (r : Bool) (w : World) (h : stringslite_HasPrefix.f a0 a1 = some r) :
 Calls Tryz.prog 106 #[.string a0, .string a1] w fun e w' => e = .returned (.bool r) ∧ Drawn0 w w' := by
 have H : (if (a0.size : Int) ≥ (a1.size : Int) then (if 0 ≤ (a1.size : Int) then (if (a1.size : Int) ≤ (a0.size : Int) then (some ((a0.extract 0 ((a1.size : Int) : Int).toNat).toList == a1.toList)) else (none)) else (none)) else (some false)) = some r := h
 clear h
 by_cases c3 : (a0.size : Int) ≥ (a1.size : Int)
 · rw [if_pos c3] at H
   have c3b0 : decide ((a1.size : Int) ≤ (a0.size : Int)) = true := decide_eq_true c3
   have c3b1 : decide (a1.size ≤ a0.size) = true := decide_eq_true (Int.ofNat_le.mp c3)
   clear c3
   by_cases c4 : 0 ≤ (a1.size : Int)
   · rw [if_pos c4] at H
     have c4b0 := eq_true c4
     have c4b1 : decide (0 ≤ (a1.size : Int)) = true := decide_eq_true c4
     clear c4
     by_cases c5 : (a1.size : Int) ≤ (a0.size : Int)
     · rw [if_pos c5] at H
       have c5b0 := eq_true c5
       have c5b1 : decide ((a1.size : Int) ≤ (a0.size : Int)) = true := decide_eq_true c5
       clear c5
       obtain rfl := Option.some.inj H
       go_enter Tryz.func106, Tryz.ntmps106
       go_wp2
       go_ret
       exact ⟨by first | rfl | (simp; done) | (simp [*]; done), by repeat (first | exact Drawn0.refl _ | apply Drawn0.step)⟩
     · rw [if_neg c5] at H
       exact absurd H (by simp)
   · rw [if_neg c4] at H
     exact absurd H (by simp)
 · rw [if_neg c3] at H
   have c3b0 : decide ((a1.size : Int) ≤ (a0.size : Int)) = false := decide_eq_false c3
   have c3b1 : decide (a1.size ≤ a0.size) = false := decide_eq_false (fun h => c3 (Int.ofNat_le.mpr h))
   clear c3
   obtain rfl := Option.some.inj H
   go_enter Tryz.func106, Tryz.ntmps106
   go_wp2
   go_ret
   exact ⟨by first | rfl | (simp; done) | (simp [*]; done), by repeat (first | exact Drawn0.refl _ | apply Drawn0.step)⟩
def stringslite_CutPrefix.f (a0 : ByteArray) (a1 : ByteArray) : Option (ByteArray × Bool) := (stringslite_HasPrefix.f a0 a1).bind fun t678 => (if t678 = true then (if 0 ≤ (a1.size : Int) then (if (a1.size : Int) ≤ (a0.size : Int) then (some (a0.extract ((a1.size : Int) : Int).toNat a0.size, true)) else (none)) else (none)) else (some (a0, false)))
set_option maxHeartbeats 8000000 in
set_option maxRecDepth 100000 in
theorem stringslite_CutPrefix.calls (a0 : ByteArray) (a1 : ByteArray) (r1 : ByteArray) (r2 : Bool) (w : World) (h : stringslite_CutPrefix.f a0 a1 = some (r1, r2)) :
 Calls Tryz.prog 84 #[.string a0, .string a1] w fun e w' => e = .returned (.tuple #[.string r1, .bool r2]) ∧ Drawn0 w w' := by
 have H : ((stringslite_HasPrefix.f a0 a1).bind fun t678 => (if t678 = true then (if 0 ≤ (a1.size : Int) then (if (a1.size : Int) ≤ (a0.size : Int) then (some (a0.extract ((a1.size : Int) : Int).toNat a0.size, true)) else (none)) else (none)) else (some (a0, false)))) = some (r1, r2) := h
 clear h
 replace H := Option.bind_eq_some_iff.mp H
 obtain ⟨t678, A30, H⟩ := H
 replace H : (if t678 = true then (if 0 ≤ (a1.size : Int) then (if (a1.size : Int) ≤ (a0.size : Int) then (some (a0.extract ((a1.size : Int) : Int).toNat a0.size, true)) else (none)) else (none)) else (some (a0, false))) = some (r1, r2) := H
 have A3 := Aside0.mk A30
 clear A30
 by_cases c4 : t678 = true
 · subst c4
   have H1 : (if 0 ≤ (a1.size : Int) then (if (a1.size : Int) ≤ (a0.size : Int) then (some (a0.extract ((a1.size : Int) : Int).toNat a0.size, true)) else (none)) else (none)) = some (r1, r2) := by rw [if_pos rfl] at H; exact H
   clear H
   have H := H1
   clear H1
   by_cases c5 : 0 ≤ (a1.size : Int)
   · rw [if_pos c5] at H
     have c5b0 := eq_true c5
     have c5b1 : decide (0 ≤ (a1.size : Int)) = true := decide_eq_true c5
     clear c5
     by_cases c6 : (a1.size : Int) ≤ (a0.size : Int)
     · rw [if_pos c6] at H
       have c6b0 := eq_true c6
       have c6b1 : decide ((a1.size : Int) ≤ (a0.size : Int)) = true := decide_eq_true c6
       clear c6
       simp only [Option.some.injEq, Prod.mk.injEq] at H
       obtain ⟨rfl, rfl⟩ := H
       go_enter Tryz.func84, Tryz.ntmps84
       go_wp2_with (first | ((with_reducible refine gate_callee (f := 106) rfl ?_); refine gL_ (some 8) Tryz.func106 #[.string a0, .string a1] ?_; (with_reducible refine (stringslite_HasPrefix.calls a0 a1 true _ A3.out).mono ?_); rintro e w' ⟨rfl, ⟨nd, rfl⟩⟩; refine ⟨_, rfl, ?_⟩))
       go_ret2
       exact ⟨by first | rfl | (simp; done) | (simp [*]; done), by repeat (first | exact Drawn0.refl _ | apply Drawn0.step)⟩
     · rw [if_neg c6] at H
       exact absurd H (by simp)
   · rw [if_neg c5] at H
     exact absurd H (by simp)
 · replace c4 := Bool.eq_false_iff.mpr c4
   subst c4
   have H1 : (some (a0, false)) = some (r1, r2) := by rw [if_neg (show ¬ (false = true) by decide)] at H; exact H
   clear H
   have H := H1
   clear H1
   simp only [Option.some.injEq, Prod.mk.injEq] at H
   obtain ⟨rfl, rfl⟩ := H
   go_enter Tryz.func84, Tryz.ntmps84
   go_wp2_with (first | ((with_reducible refine gate_callee (f := 106) rfl ?_); refine gL_ (some 8) Tryz.func106 #[.string a0, .string a1] ?_; (with_reducible refine (stringslite_HasPrefix.calls a0 a1 false _ A3.out).mono ?_); rintro e w' ⟨rfl, ⟨nd, rfl⟩⟩; refine ⟨_, rfl, ?_⟩))
   go_ret2
   exact ⟨by first | rfl | (simp; done) | (simp [*]; done), by repeat (first | exact Drawn0.refl _ | apply Drawn0.step)⟩
def strings_CutPrefix.f (a0 : ByteArray) (a1 : ByteArray) : Option (ByteArray × Bool) := (stringslite_CutPrefix.f a0 a1).bind fun bt679 => (some (bt679.1, bt679.2))
set_option maxHeartbeats 8000000 in
set_option maxRecDepth 100000 in
theorem strings_CutPrefix.calls (a0 : ByteArray) (a1 : ByteArray) (r1 : ByteArray) (r2 : Bool) (w : World) (h : strings_CutPrefix.f a0 a1 = some (r1, r2)) :
 Calls Tryz.prog 44 #[.string a0, .string a1] w fun e w' => e = .returned (.tuple #[.string r1, .bool r2]) ∧ Drawn0 w w' := by
 have H : ((stringslite_CutPrefix.f a0 a1).bind fun bt679 => (some (bt679.1, bt679.2))) = some (r1, r2) := h
 clear h
 replace H := Option.bind_eq_some_iff.mp H
 obtain ⟨⟨t679, t680⟩, A30, H⟩ := H
 replace H : (some (t679, t680)) = some (r1, r2) := H
 have A3 := Aside0.mk A30
 clear A30
 simp only [Option.some.injEq, Prod.mk.injEq] at H
 obtain ⟨rfl, rfl⟩ := H
 go_enter Tryz.func44, Tryz.ntmps44
 go_wp2_with (first | ((with_reducible refine gate_callee (f := 84) rfl ?_); refine gL_ (some 8) Tryz.func84 #[.string a0, .string a1] ?_; (with_reducible refine (stringslite_CutPrefix.calls a0 a1 t679 t680 _ A3.out).mono ?_); rintro e w' ⟨rfl, ⟨nd, rfl⟩⟩; refine ⟨_, rfl, ?_⟩))
 go_ret2
 exact ⟨by first | rfl | (simp; done) | (simp [*]; done), by repeat (first | exact Drawn0.refl _ | apply Drawn0.step)⟩
def stringslite_HasSuffix.f (a0 : ByteArray) (a1 : ByteArray) : Option (Bool) := if (a0.size : Int) ≥ (a1.size : Int) then (if 0 ≤ (wrap64 ((a0.size : Int) - (a1.size : Int))) then (if (wrap64 ((a0.size : Int) - (a1.size : Int))) ≤ (a0.size : Int) then (some ((a0.extract ((wrap64 ((a0.size : Int) - (a1.size : Int))) : Int).toNat a0.size).toList == a1.toList)) else (none)) else (none)) else (some false)
set_option maxHeartbeats 8000000 in
set_option maxRecDepth 100000 in
theorem stringslite_HasSuffix.calls (a0 : ByteArray) (a1 : ByteArray) (r : Bool) (w : World) (h : stringslite_HasSuffix.f a0 a1 = some r) :
 Calls Tryz.prog 107 #[.string a0, .string a1] w fun e w' => e = .returned (.bool r) ∧ Drawn0 w w' := by
 have H : (if (a0.size : Int) ≥ (a1.size : Int) then (if 0 ≤ (wrap64 ((a0.size : Int) - (a1.size : Int))) then (if (wrap64 ((a0.size : Int) - (a1.size : Int))) ≤ (a0.size : Int) then (some ((a0.extract ((wrap64 ((a0.size : Int) - (a1.size : Int))) : Int).toNat a0.size).toList == a1.toList)) else (none)) else (none)) else (some false)) = some r := h
 clear h
 by_cases c3 : (a0.size : Int) ≥ (a1.size : Int)
 · rw [if_pos c3] at H
   have c3b0 : decide ((a1.size : Int) ≤ (a0.size : Int)) = true := decide_eq_true c3
   have c3b1 : decide (a1.size ≤ a0.size) = true := decide_eq_true (Int.ofNat_le.mp c3)
   clear c3
   obtain ⟨ji4, hji4⟩ : ∃ j_ : Int, (wrap64 ((a0.size : Int) - (a1.size : Int))) = j_ := ⟨_, rfl⟩
   replace H : (if 0 ≤ (ji4) then (if (ji4) ≤ (a0.size : Int) then (some ((a0.extract ((ji4) : Int).toNat a0.size).toList == a1.toList)) else (none)) else (none)) = some r := by first | (rw [hji4] at H; exact H) | (simp only [hji4] at H ⊢; exact H)
   have hji4w : (IntKind.i64.wrap ((a0.size : Int) - (a1.size : Int))) = ji4 := (i64_w _).trans hji4
   by_cases c5 : 0 ≤ (ji4)
   · rw [if_pos c5] at H
     have c5b0 := eq_true c5
     have c5b1 : decide (0 ≤ (ji4)) = true := decide_eq_true c5
     clear c5
     by_cases c6 : (ji4) ≤ (a0.size : Int)
     · rw [if_pos c6] at H
       have c6b0 := eq_true c6
       have c6b1 : decide ((ji4) ≤ (a0.size : Int)) = true := decide_eq_true c6
       clear c6
       obtain rfl := Option.some.inj H
       go_enter Tryz.func107, Tryz.ntmps107
       go_wp2
       go_ret
       exact ⟨by first | rfl | (simp; done) | (simp only [← hji4] <;> (first | rfl | simp)) | (simp [*]; done), by repeat (first | exact Drawn0.refl _ | apply Drawn0.step)⟩
     · rw [if_neg c6] at H
       exact absurd H (by simp)
   · rw [if_neg c5] at H
     exact absurd H (by simp)
 · rw [if_neg c3] at H
   have c3b0 : decide ((a1.size : Int) ≤ (a0.size : Int)) = false := decide_eq_false c3
   have c3b1 : decide (a1.size ≤ a0.size) = false := decide_eq_false (fun h => c3 (Int.ofNat_le.mpr h))
   clear c3
   obtain rfl := Option.some.inj H
   go_enter Tryz.func107, Tryz.ntmps107
   go_wp2
   go_ret
   exact ⟨by first | rfl | (simp; done) | (simp [*]; done), by repeat (first | exact Drawn0.refl _ | apply Drawn0.step)⟩
end Go.Proofs.YteaiehpgigaoaaaGreatDoor.PA
end
section
namespace Go.Proofs.YteaiehpgigaoaaaGreatDoor.PA
open Go.RowKit Go.Proofs.YteaiehpgigaoaaaGreatDoorW.PrintWords Go.Proofs.YteaiehpgigaoaaaGreatDoorW.PrintLast Go.Proofs.YteaiehpgigaoaaaGreatDoorW.PrintMore
attribute [local go_sem] max2_int min2_int max_two min_two max_three min_three max_four min_four
set_option linter.unusedVariables false
set_option linter.unusedSimpArgs false
def stringslite_CutSuffix.f (a0 : ByteArray) (a1 : ByteArray) : Option (ByteArray × Bool) := (stringslite_HasSuffix.f a0 a1).bind fun t681 => (if t681 = true then (if 0 ≤ (wrap64 ((a0.size : Int) - (a1.size : Int))) then (if (wrap64 ((a0.size : Int) - (a1.size : Int))) ≤ (a0.size : Int) then (some (a0.extract 0 ((wrap64 ((a0.size : Int) - (a1.size : Int))) : Int).toNat, true)) else (none)) else (none)) else (some (a0, false)))
set_option maxHeartbeats 8000000 in
set_option maxRecDepth 100000 in
theorem stringslite_CutSuffix.calls (a0 : ByteArray) (a1 : ByteArray) (r1 : ByteArray) (r2 : Bool) (w : World) (h : stringslite_CutSuffix.f a0 a1 = some (r1, r2)) :
 Calls Tryz.prog 85 #[.string a0, .string a1] w fun e w' => e = .returned (.tuple #[.string r1, .bool r2]) ∧ Drawn0 w w' := by
 have H : ((stringslite_HasSuffix.f a0 a1).bind fun t681 => (if t681 = true then (if 0 ≤ (wrap64 ((a0.size : Int) - (a1.size : Int))) then (if (wrap64 ((a0.size : Int) - (a1.size : Int))) ≤ (a0.size : Int) then (some (a0.extract 0 ((wrap64 ((a0.size : Int) - (a1.size : Int))) : Int).toNat, true)) else (none)) else (none)) else (some (a0, false)))) = some (r1, r2) := h
 clear h
 replace H := Option.bind_eq_some_iff.mp H
 obtain ⟨t681, A30, H⟩ := H
 replace H : (if t681 = true then (if 0 ≤ (wrap64 ((a0.size : Int) - (a1.size : Int))) then (if (wrap64 ((a0.size : Int) - (a1.size : Int))) ≤ (a0.size : Int) then (some (a0.extract 0 ((wrap64 ((a0.size : Int) - (a1.size : Int))) : Int).toNat, true)) else (none)) else (none)) else (some (a0, false))) = some (r1, r2) := H
 have A3 := Aside0.mk A30
 clear A30
 by_cases c4 : t681 = true
 · subst c4
   have H1 : (if 0 ≤ (wrap64 ((a0.size : Int) - (a1.size : Int))) then (if (wrap64 ((a0.size : Int) - (a1.size : Int))) ≤ (a0.size : Int) then (some (a0.extract 0 ((wrap64 ((a0.size : Int) - (a1.size : Int))) : Int).toNat, true)) else (none)) else (none)) = some (r1, r2) := by rw [if_pos rfl] at H; exact H
   clear H
   have H := H1
   clear H1
   obtain ⟨ji5, hji5⟩ : ∃ j_ : Int, (wrap64 ((a0.size : Int) - (a1.size : Int))) = j_ := ⟨_, rfl⟩
   replace H : (if 0 ≤ (ji5) then (if (ji5) ≤ (a0.size : Int) then (some (a0.extract 0 ((ji5) : Int).toNat, true)) else (none)) else (none)) = some (r1, r2) := by first | (rw [hji5] at H; exact H) | (simp only [hji5] at H ⊢; exact H)
   (try rw [hji5] at A3)
   have hji5w : (IntKind.i64.wrap ((a0.size : Int) - (a1.size : Int))) = ji5 := (i64_w _).trans hji5
   by_cases c6 : 0 ≤ (ji5)
   · rw [if_pos c6] at H
     have c6b0 := eq_true c6
     have c6b1 : decide (0 ≤ (ji5)) = true := decide_eq_true c6
     clear c6
     by_cases c7 : (ji5) ≤ (a0.size : Int)
     · rw [if_pos c7] at H
       have c7b0 := eq_true c7
       have c7b1 : decide ((ji5) ≤ (a0.size : Int)) = true := decide_eq_true c7
       clear c7
       simp only [Option.some.injEq, Prod.mk.injEq] at H
       obtain ⟨rfl, rfl⟩ := H
       go_enter Tryz.func85, Tryz.ntmps85
       go_wp2_with (first | ((with_reducible refine gate_callee (f := 107) rfl ?_); refine gL_ (some 8) Tryz.func107 #[.string a0, .string a1] ?_; (with_reducible refine (stringslite_HasSuffix.calls a0 a1 true _ A3.out).mono ?_); rintro e w' ⟨rfl, ⟨nd, rfl⟩⟩; refine ⟨_, rfl, ?_⟩))
       go_ret2
       exact ⟨by first | rfl | (simp; done) | (simp only [← hji5] <;> (first | rfl | simp)) | (simp [*]; done), by repeat (first | exact Drawn0.refl _ | apply Drawn0.step)⟩
     · rw [if_neg c7] at H
       exact absurd H (by simp)
   · rw [if_neg c6] at H
     exact absurd H (by simp)
 · replace c4 := Bool.eq_false_iff.mpr c4
   subst c4
   have H1 : (some (a0, false)) = some (r1, r2) := by rw [if_neg (show ¬ (false = true) by decide)] at H; exact H
   clear H
   have H := H1
   clear H1
   simp only [Option.some.injEq, Prod.mk.injEq] at H
   obtain ⟨rfl, rfl⟩ := H
   go_enter Tryz.func85, Tryz.ntmps85
   go_wp2_with (first | ((with_reducible refine gate_callee (f := 107) rfl ?_); refine gL_ (some 8) Tryz.func107 #[.string a0, .string a1] ?_; (with_reducible refine (stringslite_HasSuffix.calls a0 a1 false _ A3.out).mono ?_); rintro e w' ⟨rfl, ⟨nd, rfl⟩⟩; refine ⟨_, rfl, ?_⟩))
   go_ret2
   exact ⟨by first | rfl | (simp; done) | (simp [*]; done), by repeat (first | exact Drawn0.refl _ | apply Drawn0.step)⟩
def strings_CutSuffix.f (a0 : ByteArray) (a1 : ByteArray) : Option (ByteArray × Bool) := (stringslite_CutSuffix.f a0 a1).bind fun bt682 => (some (bt682.1, bt682.2))
set_option maxHeartbeats 8000000 in
set_option maxRecDepth 100000 in
theorem strings_CutSuffix.calls (a0 : ByteArray) (a1 : ByteArray) (r1 : ByteArray) (r2 : Bool) (w : World) (h : strings_CutSuffix.f a0 a1 = some (r1, r2)) :
 Calls Tryz.prog 45 #[.string a0, .string a1] w fun e w' => e = .returned (.tuple #[.string r1, .bool r2]) ∧ Drawn0 w w' := by
 have H : ((stringslite_CutSuffix.f a0 a1).bind fun bt682 => (some (bt682.1, bt682.2))) = some (r1, r2) := h
 clear h
 replace H := Option.bind_eq_some_iff.mp H
 obtain ⟨⟨t682, t683⟩, A30, H⟩ := H
 replace H : (some (t682, t683)) = some (r1, r2) := H
 have A3 := Aside0.mk A30
 clear A30
 simp only [Option.some.injEq, Prod.mk.injEq] at H
 obtain ⟨rfl, rfl⟩ := H
 go_enter Tryz.func45, Tryz.ntmps45
 go_wp2_with (first | ((with_reducible refine gate_callee (f := 85) rfl ?_); refine gL_ (some 8) Tryz.func85 #[.string a0, .string a1] ?_; (with_reducible refine (stringslite_CutSuffix.calls a0 a1 t682 t683 _ A3.out).mono ?_); rintro e w' ⟨rfl, ⟨nd, rfl⟩⟩; refine ⟨_, rfl, ?_⟩))
 go_ret2
 exact ⟨by first | rfl | (simp; done) | (simp [*]; done), by repeat (first | exact Drawn0.refl _ | apply Drawn0.step)⟩
def impl_SplitByte.l0 : Nat → ByteArray → Int → List ByteArray → Int → Int → Option (List ByteArray)
 | 0, _, _, _, _, _ => none
 | k + 1, x0, x1, x5, x6, x7 => if x7 < (x0.size : Int) then (if 0 ≤ x7 then (if (bt x0 x7) = x1 then (if 0 ≤ x6 then (if x6 ≤ x7 then (if x7 ≤ (x0.size : Int) then (if x5.length < 8796093022208 then (impl_SplitByte.l0 k x0 x1 (x5 ++ [x0.extract (x6 : Int).toNat (x7 : Int).toNat]) (wrap64 (x7 + 1)) (wrap64 (x7 + 1))) else (none)) else (none)) else (none)) else (none)) else (impl_SplitByte.l0 k x0 x1 x5 x6 (wrap64 (x7 + 1)))) else (none)) else (if 0 ≤ x6 then (if x6 ≤ (x0.size : Int) then (if x5.length < 8796093022208 then (some (x5 ++ [x0.extract (x6 : Int).toNat x0.size])) else (none)) else (none)) else (none))
def impl_SplitByte.f (k : Nat) (a0 : ByteArray) (a1 : Int) : Option (List ByteArray) := impl_SplitByte.l0 k a0 a1 (([] : List ByteArray)) 0 0
set_option maxHeartbeats 8000000 in
set_option maxRecDepth 100000 in
theorem impl_SplitByte.calls (k : Nat) (a0 : ByteArray) (a1 : Int) (r : List ByteArray) (w : World) (h : impl_SplitByte.f k a0 a1 = some r) :
 Calls Tryz.prog 86 #[.string a0, .int .u8 a1] w fun e w' => ∃ v0_ : Value, e = .returned (v0_) ∧ Kd.R Kd.string 9 w' w.heap.size (fun _ => True) v0_ r ∧ Below w.heap.size w w' := by
 have HB := Aside0.mk (Below.refl w.heap.size w)
 have H : (impl_SplitByte.l0 k a0 a1 (([] : List ByteArray)) 0 0) = some r := h
 clear h
 obtain ⟨y684, hy684⟩ : ∃ y_ : List ByteArray, y_ = (([] : List ByteArray)) := ⟨_, rfl⟩
 replace H : (impl_SplitByte.l0 k a0 a1 y684 0 0) = some r := by subst hy684; exact H
 have Ny684 := Aside0.mk hy684
 clear hy684
 have H' := Aside0.mk H
 clear H
 go_enter Tryz.func86, Tryz.ntmps86
 go_wp2_with (first | ((with_reducible refine gate_dst (N := 8) rfl ?_); refine Kd.R_lit Kd.string _ 9 ?hg (N := 8) ?hd (xs := ([] : List ByteArray)) (inner := []) (ok := fun _ => True) (okp := fun _ => True) ?hr ?hp (fun _ hk => hk) trivial (Below.refl _ _) (Nat.le_refl _) (by simp) ?_; (case hd => rfl); (case hg => rfl); (case hr => first | (go_simp; done) | (go_simp; rfl)); (case hp => exact (Reps.none _ _)); intro v685 w3 ho4 hb hg_ hnew_; clear hg_ hnew_; (first | rw [← Ny684.out] at ho4 | (simp only [Int.reduceToNat] at ho4; rw [← Ny684.out] at ho4)); have HO686 := Aside0.mk (Kd.R_lower ho4 (below_size (bl_ HB.out))); replace HB := Aside0.mk (below_step (bl_ HB.out) hb); clear hb ho4))
 go_loopg [5, 6, 7] k (fun kq v5 v6 v7 w' => ∃ (x5_1 : List ByteArray) (x6_1 : Int) (x7_1 : Int), v6 = .int .i64 x6_1 ∧ v7 = .int .i64 x7_1 ∧ Aside0 (impl_SplitByte.l0 kq a0 a1 x5_1 x6_1 x7_1 = some r) ∧ Aside0 (kq ≤ k) ∧ Aside0 (Kd.R Kd.string 9 w' w.heap.size (fun _ => True) v5 x5_1) ∧ Aside0 (Below w.heap.size w w'))
 case atStart => exact ⟨(y684), (0), (0), (by first | rfl | (simp; done) | (simp [*]; done)), (by first | rfl | (simp; done) | (simp [*]; done)), H', ⟨Nat.le_refl _⟩, ⟨re_ HO686.out⟩, ⟨bl_ HB.out⟩⟩
 case round =>
  clear H'
  try clear p2
  obtain ⟨x5_1, x6_1, x7_1, rfl, rfl, HA, HK1, HO_5, HB⟩ := hrel
  cases gk with
  | zero => exact absurd HA.out (by simp [impl_SplitByte.l0])
  | succ k1 =>
   have H := HA.out
   clear HA
   simp only [impl_SplitByte.l0] at H
   by_cases c5 : x7_1 < (a0.size : Int)
   · rw [if_pos c5] at H
     have c5b0 : decide (x7_1 < (a0.size : Int)) = true := decide_eq_true c5
     clear c5
     by_cases c6 : 0 ≤ x7_1
     · rw [if_pos c6] at H
       have c6b0 : decide (0 ≤ x7_1) = true := decide_eq_true c6
       clear c6
       by_cases c8 : (bt a0 x7_1) = a1
       · rw [if_pos c8] at H
         have c8b0 : ((bt a0 x7_1) == a1) = true := beq_iff_eq.mpr c8
         have c8b1 : ((bt a0 x7_1) != a1) = false := bne_eq_false_iff_eq.mpr c8
         clear c8
         by_cases c9 : 0 ≤ x6_1
         · rw [if_pos c9] at H
           have c9b0 := eq_true c9
           have c9b1 : decide (0 ≤ x6_1) = true := decide_eq_true c9
           clear c9
           by_cases c10 : x6_1 ≤ x7_1
           · rw [if_pos c10] at H
             have c10b0 := eq_true c10
             have c10b1 : decide (x6_1 ≤ x7_1) = true := decide_eq_true c10
             clear c10
             by_cases c11 : x7_1 ≤ (a0.size : Int)
             · rw [if_pos c11] at H
               have c11b0 := eq_true c11
               have c11b1 : decide (x7_1 ≤ (a0.size : Int)) = true := decide_eq_true c11
               clear c11
               by_cases c12 : x5_1.length < 8796093022208
               · rw [if_pos c12] at H
                 have LMc12 := Aside0.mk c12
                 clear c12
                 obtain ⟨y687, hy687⟩ : ∃ y_ : List ByteArray, y_ = (x5_1 ++ [a0.extract (x6_1 : Int).toNat (x7_1 : Int).toNat]) := ⟨_, rfl⟩
                 replace H : (impl_SplitByte.l0 k1 a0 a1 y687 (wrap64 (x7_1 + 1)) (wrap64 (x7_1 + 1))) = some r := by subst hy687; exact H
                 have Ny687 := Aside0.mk hy687
                 clear hy687
                 have H' := Aside0.mk H
                 clear H
                 have p7 : 0 ≤ (x7_1 : Int) := od_
                 have q7 : x7_1 < (a0.size : Int) := od_
                 have hx7 := bt_at a0 x7_1
                 replace p7 := eq_true p7
                 replace q7 := eq_true q7
                 go_wp2_with (first | ((with_reducible refine gate_builtin (b := .append) (xs := #[.tmp 20, .tmp 25]) rfl ?_); at_builtin; refine Kd.R_append Kd.string (w0 := w) w.heap.size rfl (.tmp 20) (.tmp 25) 40 9 (.string ⟨#[]⟩) 16 rfl Tryz.underlying40 info9 rfl (by decide) (by omega) u5 x5_1 (a0.extract (x6_1 : Int).toNat (x7_1 : Int).toNat) [.string (a0.extract (x6_1 : Int).toNat (x7_1 : Int).toNat)] (fun _ => True) (fun _ => False) rfl rfl ?aP (fun _ hk => hk.elim) ?aF ?aO ?aB ?aS ?aL ?_; (case aP => exact rfl); (case aB => exact (bl_ HB.out)); (case aF => exact (fun _ _ => trivial)); (case aO => exact (re_ HO_5.out)); (case aS => exact (below_size (bl_ HB.out))); (case aL => have := LMc12.out; omega); intro v688 w13 ho hb hg hat; rw [← Ny687.out] at ho; replace HB := Aside0.mk (hb); have HO689 := Aside0.mk (ho); clear HO_5; clear ho hb hg hat))
                 go_roundg k1
                 case measure => have := HK1.out; omega
                 case rel => exact ⟨(y687), (wrap64 (x7_1 + 1)), (wrap64 (x7_1 + 1)), (by first | rfl | (simp; done) | (simp [*]; done)), (by first | rfl | (simp; done) | (simp [*]; done)), H', ⟨by have := HK1.out; omega⟩, ⟨re_ HO689.out⟩, ⟨bl_ HB.out⟩⟩
               · rw [if_neg c12] at H
                 exact absurd H (by simp)
             · rw [if_neg c11] at H
               exact absurd H (by simp)
           · rw [if_neg c10] at H
             exact absurd H (by simp)
         · rw [if_neg c9] at H
           exact absurd H (by simp)
       · rw [if_neg c8] at H
         have c8b0 : ((bt a0 x7_1) == a1) = false := beq_eq_false_iff_ne.mpr c8
         have c8b1 : ((bt a0 x7_1) != a1) = true := bne_iff_ne.mpr c8
         have H' := Aside0.mk H
         clear H
         have p7 : 0 ≤ (x7_1 : Int) := od_
         have q7 : x7_1 < (a0.size : Int) := od_
         have hx7 := bt_at a0 x7_1
         replace p7 := eq_true p7
         replace q7 := eq_true q7
         go_wp2
         go_roundg k1
         case measure => have := HK1.out; omega
         case rel => exact ⟨(x5_1), (x6_1), (wrap64 (x7_1 + 1)), (by first | rfl | (simp; done) | (simp [*]; done)), (by first | rfl | (simp; done) | (simp [*]; done)), H', ⟨by have := HK1.out; omega⟩, ⟨re_ HO_5.out⟩, ⟨bl_ HB.out⟩⟩
     · rw [if_neg c6] at H
       exact absurd H (by simp)
   · rw [if_neg c5] at H
     have c5b0 : decide (x7_1 < (a0.size : Int)) = false := decide_eq_false c5
     clear c5
     by_cases c14 : 0 ≤ x6_1
     · rw [if_pos c14] at H
       have c14b0 := eq_true c14
       have c14b1 : decide (0 ≤ x6_1) = true := decide_eq_true c14
       clear c14
       by_cases c15 : x6_1 ≤ (a0.size : Int)
       · rw [if_pos c15] at H
         have c15b0 := eq_true c15
         have c15b1 : decide (x6_1 ≤ (a0.size : Int)) = true := decide_eq_true c15
         clear c15
         by_cases c16 : x5_1.length < 8796093022208
         · rw [if_pos c16] at H
           have LMc16 := Aside0.mk c16
           clear c16
           obtain ⟨y690, hy690⟩ : ∃ y_ : List ByteArray, y_ = (x5_1 ++ [a0.extract (x6_1 : Int).toNat a0.size]) := ⟨_, rfl⟩
           replace H : (some y690) = some r := by subst hy690; exact H
           have Ny690 := Aside0.mk hy690
           clear hy690
           obtain rfl := Option.some.inj H
           go_wp2_with (first | ((with_reducible refine gate_builtin (b := .append) (xs := #[.tmp 29, .tmp 33]) rfl ?_); at_builtin; refine Kd.R_append Kd.string (w0 := w) w.heap.size rfl (.tmp 29) (.tmp 33) 40 9 (.string ⟨#[]⟩) 16 rfl Tryz.underlying40 info9 rfl (by decide) (by omega) u5 x5_1 (a0.extract (x6_1 : Int).toNat a0.size) [.string (a0.extract (x6_1 : Int).toNat a0.size)] (fun _ => True) (fun _ => False) rfl rfl ?aP (fun _ hk => hk.elim) ?aF ?aO ?aB ?aS ?aL ?_; (case aP => exact rfl); (case aB => exact (bl_ HB.out)); (case aF => exact (fun _ _ => trivial)); (case aO => exact (re_ HO_5.out)); (case aS => exact (below_size (bl_ HB.out))); (case aL => have := LMc16.out; omega); intro v691 w17 ho hb hg hat; rw [← Ny690.out] at ho; replace HB := Aside0.mk (hb); have HO692 := Aside0.mk (ho); clear HO_5; clear ho hb hg hat))
           go_ret
           exact ⟨_, by first | rfl | (simp [errW_none, errW_some] <;> rfl) | (simp [*, errW_none, errW_some] <;> rfl), re_ HO692.out, bl_ HB.out⟩
         · rw [if_neg c16] at H
           exact absurd H (by simp)
       · rw [if_neg c15] at H
         exact absurd H (by simp)
     · rw [if_neg c14] at H
       exact absurd H (by simp)
def stringslite_TrimPrefix.f (a0 : ByteArray) (a1 : ByteArray) : Option (ByteArray) := (stringslite_HasPrefix.f a0 a1).bind fun t693 => (if t693 = true then (if 0 ≤ (a1.size : Int) then (if (a1.size : Int) ≤ (a0.size : Int) then (some (a0.extract ((a1.size : Int) : Int).toNat a0.size)) else (none)) else (none)) else (some a0))
set_option maxHeartbeats 8000000 in
set_option maxRecDepth 100000 in
theorem stringslite_TrimPrefix.calls (a0 : ByteArray) (a1 : ByteArray) (r : ByteArray) (w : World) (h : stringslite_TrimPrefix.f a0 a1 = some r) :
 Calls Tryz.prog 121 #[.string a0, .string a1] w fun e w' => e = .returned (.string r) ∧ Drawn0 w w' := by
 have H : ((stringslite_HasPrefix.f a0 a1).bind fun t693 => (if t693 = true then (if 0 ≤ (a1.size : Int) then (if (a1.size : Int) ≤ (a0.size : Int) then (some (a0.extract ((a1.size : Int) : Int).toNat a0.size)) else (none)) else (none)) else (some a0))) = some r := h
 clear h
 replace H := Option.bind_eq_some_iff.mp H
 obtain ⟨t693, A30, H⟩ := H
 replace H : (if t693 = true then (if 0 ≤ (a1.size : Int) then (if (a1.size : Int) ≤ (a0.size : Int) then (some (a0.extract ((a1.size : Int) : Int).toNat a0.size)) else (none)) else (none)) else (some a0)) = some r := H
 have A3 := Aside0.mk A30
 clear A30
 by_cases c4 : t693 = true
 · subst c4
   have H1 : (if 0 ≤ (a1.size : Int) then (if (a1.size : Int) ≤ (a0.size : Int) then (some (a0.extract ((a1.size : Int) : Int).toNat a0.size)) else (none)) else (none)) = some r := by rw [if_pos rfl] at H; exact H
   clear H
   have H := H1
   clear H1
   by_cases c5 : 0 ≤ (a1.size : Int)
   · rw [if_pos c5] at H
     have c5b0 := eq_true c5
     have c5b1 : decide (0 ≤ (a1.size : Int)) = true := decide_eq_true c5
     clear c5
     by_cases c6 : (a1.size : Int) ≤ (a0.size : Int)
     · rw [if_pos c6] at H
       have c6b0 := eq_true c6
       have c6b1 : decide ((a1.size : Int) ≤ (a0.size : Int)) = true := decide_eq_true c6
       clear c6
       obtain rfl := Option.some.inj H
       go_enter Tryz.func121, Tryz.ntmps121
       go_wp2_with (first | ((with_reducible refine gate_callee (f := 106) rfl ?_); refine gL_ (some 7) Tryz.func106 #[.string a0, .string a1] ?_; (with_reducible refine (stringslite_HasPrefix.calls a0 a1 true _ A3.out).mono ?_); rintro e w' ⟨rfl, ⟨nd, rfl⟩⟩; refine ⟨_, rfl, ?_⟩))
       go_ret
       exact ⟨by first | rfl | (simp; done) | (simp [*]; done), by repeat (first | exact Drawn0.refl _ | apply Drawn0.step)⟩
     · rw [if_neg c6] at H
       exact absurd H (by simp)
   · rw [if_neg c5] at H
     exact absurd H (by simp)
 · replace c4 := Bool.eq_false_iff.mpr c4
   subst c4
   have H1 : (some a0) = some r := by rw [if_neg (show ¬ (false = true) by decide)] at H; exact H
   clear H
   have H := H1
   clear H1
   obtain rfl := Option.some.inj H
   go_enter Tryz.func121, Tryz.ntmps121
   go_wp2_with (first | ((with_reducible refine gate_callee (f := 106) rfl ?_); refine gL_ (some 7) Tryz.func106 #[.string a0, .string a1] ?_; (with_reducible refine (stringslite_HasPrefix.calls a0 a1 false _ A3.out).mono ?_); rintro e w' ⟨rfl, ⟨nd, rfl⟩⟩; refine ⟨_, rfl, ?_⟩))
   go_ret
   exact ⟨by first | rfl | (simp; done) | (simp [*]; done), by repeat (first | exact Drawn0.refl _ | apply Drawn0.step)⟩
def strings_TrimPrefix.f (a0 : ByteArray) (a1 : ByteArray) : Option (ByteArray) := (stringslite_TrimPrefix.f a0 a1).bind fun t694 => (some t694)
set_option maxHeartbeats 8000000 in
set_option maxRecDepth 100000 in
theorem strings_TrimPrefix.calls (a0 : ByteArray) (a1 : ByteArray) (r : ByteArray) (w : World) (h : strings_TrimPrefix.f a0 a1 = some r) :
 Calls Tryz.prog 114 #[.string a0, .string a1] w fun e w' => e = .returned (.string r) ∧ Drawn0 w w' := by
 have H : ((stringslite_TrimPrefix.f a0 a1).bind fun t694 => (some t694)) = some r := h
 clear h
 replace H := Option.bind_eq_some_iff.mp H
 obtain ⟨t694, A30, H⟩ := H
 replace H : (some t694) = some r := H
 have A3 := Aside0.mk A30
 clear A30
 obtain rfl := Option.some.inj H
 go_enter Tryz.func114, Tryz.ntmps114
 go_wp2_with (first | ((with_reducible refine gate_callee (f := 121) rfl ?_); refine gL_ (some 7) Tryz.func121 #[.string a0, .string a1] ?_; (with_reducible refine (stringslite_TrimPrefix.calls a0 a1 t694 _ A3.out).mono ?_); rintro e w' ⟨rfl, ⟨nd, rfl⟩⟩; refine ⟨_, rfl, ?_⟩))
 go_ret
 exact ⟨by first | rfl | (simp; done) | (simp [*]; done), by repeat (first | exact Drawn0.refl _ | apply Drawn0.step)⟩
mutual
def impl_parsed.j0 : Nat → ByteArray → ByteArray → Bool → Option (Int × Bool)
 | 0, _, _, _ => none
 | k + 1, x0, x6, x19 => if x19 = true then (some (0, false)) else (impl_parsed.l0 k x0 x6 0 0)
def impl_parsed.l0 : Nat → ByteArray → ByteArray → Int → Int → Option (Int × Bool)
 | 0, _, _, _, _ => none
 | k + 1, x0, x6, x7, x8 => if x8 < (x6.size : Int) then (if 0 ≤ x8 then (if (bt x6 x8) < 48 then (some (0, false)) else (if (bt x6 x8) > 57 then (some (0, false)) else (impl_parsed.l0 k x0 x6 (wrap64 ((wrap64 (10 * x7)) + (((bt x6 x8) - 48) % 256))) (wrap64 (x8 + 1))))) else (none)) else (if (x6.size : Int) < (x0.size : Int) then ((impl_FormatInt.f k (wrap64 (-x7))).bind fun t696 => (if t696.toList = x0.toList then (some (wrap64 (-x7), true)) else (some (0, false)))) else ((impl_FormatInt.f k x7).bind fun t697 => (if t697.toList = x0.toList then (some (x7, true)) else (some (0, false)))))
end
def impl_parsed.f (k : Nat) (a0 : ByteArray) (a1 : Int) : Option (Int × Bool) := (strings_TrimPrefix.f a0 (⟨#[45]⟩ : ByteArray)).bind fun t695 => (if (t695.size : Int) = 0 then (impl_parsed.j0 k a0 t695 true) else (impl_parsed.j0 k a0 t695 (decide ((t695.size : Int) > a1))))
set_option maxHeartbeats 8000000 in
set_option maxRecDepth 100000 in
theorem impl_parsed.calls (k : Nat) (a0 : ByteArray) (a1 : Int) (r1 : Int) (r2 : Bool) (w : World) (h : impl_parsed.f k a0 a1 = some (r1, r2)) :
 Calls Tryz.prog 108 #[.string a0, .int .i64 a1] w fun e w' => e = .returned (.tuple #[.int .i64 r1, .bool r2]) ∧ Below w.heap.size w w' := by
 have HB := Aside0.mk (Below.refl w.heap.size w)
 have H : ((strings_TrimPrefix.f a0 (⟨#[45]⟩ : ByteArray)).bind fun t695 => (if (t695.size : Int) = 0 then (impl_parsed.j0 k a0 t695 true) else (impl_parsed.j0 k a0 t695 (decide ((t695.size : Int) > a1))))) = some (r1, r2) := h
 clear h
 replace H := Option.bind_eq_some_iff.mp H
 obtain ⟨t695, A30, H⟩ := H
 replace H : (if (t695.size : Int) = 0 then (impl_parsed.j0 k a0 t695 true) else (impl_parsed.j0 k a0 t695 (decide ((t695.size : Int) > a1)))) = some (r1, r2) := H
 have A3 := Aside0.mk A30
 clear A30
 have HC4 := Aside0.mk H
 clear H
 go_enter Tryz.func108, Tryz.ntmps108
 go_upto_region 2 with (first | ((with_reducible refine gate_callee (f := 114) rfl ?_); refine gL_ (some 10) Tryz.func114 #[.string a0, .string (⟨#[45]⟩ : ByteArray)] ?_; (with_reducible refine (strings_TrimPrefix.calls a0 (⟨#[45]⟩ : ByteArray) t695 _ A3.out).mono ?_); rintro e w' ⟨rfl, ⟨nd, rfl⟩⟩; refine ⟨_, rfl, ?_⟩))
 (try simp only [Act.put, z1_, z2_, z3_])
 go_cut [19] (fun v19 wc => ∃ (kq : Nat) (x19_3 : Bool), v19 = .bool x19_3 ∧ Aside0 (impl_parsed.j0 kq a0 t695 x19_3 = some (r1, r2)) ∧ Aside0 (kq ≤ k) ∧ Aside0 (Below w.heap.size w wc))
 case first =>
  have H := HC4.out
  clear HC4
  by_cases c5 : (t695.size : Int) = 0
  · rw [if_pos c5] at H
    have c5b0 : ((t695.size : Int) == 0) = true := beq_iff_eq.mpr c5
    have c5b1 : ((t695.size : Int) != 0) = false := bne_eq_false_iff_eq.mpr c5
    clear c5
    (first | rw [c5b0] | (simp only [i64_w, i32_w]; rw [c5b0]) | skip)
    have H' := Aside0.mk H
    clear H
    go_wp2
    go_meet
    case rel => exact ⟨_, (true), (by first | rfl | (simp; done) | (simp [*]; done)), H', ⟨by first | omega | exact Nat.le_refl _⟩, ⟨bl_ HB.out⟩⟩
  · rw [if_neg c5] at H
    have c5b0 : ((t695.size : Int) == 0) = false := beq_eq_false_iff_ne.mpr c5
    have c5b1 : ((t695.size : Int) != 0) = true := bne_iff_ne.mpr c5
    (first | rw [c5b0] | (simp only [i64_w, i32_w]; rw [c5b0]) | skip)
    have H' := Aside0.mk H
    clear H
    go_wp2
    go_meet
    case rel => exact ⟨_, (decide ((t695.size : Int) > a1)), (by first | rfl | (simp; done) | (simp [*]; done)), H', ⟨by first | omega | exact Nat.le_refl _⟩, ⟨bl_ HB.out⟩⟩
 case rest =>
  clear HC4
  try clear c1
  try clear p2
  try clear c5
  try clear c5b0
  try clear c5b1
  obtain ⟨kq, x19_3, rfl, HA, HJ3, HB⟩ := hcut
  cases kq with
  | zero => exact absurd HA.out (by simp [impl_parsed.j0])
  | succ kj3 =>
   have H := HA.out
   clear HA
   simp only [impl_parsed.j0] at H
   by_cases c6 : x19_3 = true
   · subst c6
     have H1 : (some (0, false)) = some (r1, r2) := by rw [if_pos rfl] at H; exact H
     clear H
     have H := H1
     clear H1
     simp only [Option.some.injEq, Prod.mk.injEq] at H
     obtain ⟨rfl, rfl⟩ := H
     go_wp2
     go_ret2
     exact ⟨by first | rfl | (simp [errW_none, errW_some] <;> rfl) | (simp [*, errW_none, errW_some] <;> rfl), bl_ HB.out⟩
   · replace c6 := Bool.eq_false_iff.mpr c6
     subst c6
     have H1 : (impl_parsed.l0 kj3 a0 t695 0 0) = some (r1, r2) := by rw [if_neg (show ¬ (false = true) by decide)] at H; exact H
     clear H
     have H := H1
     clear H1
     have H' := Aside0.mk H
     clear H
     go_wp2
     go_loopg [7, 8] kj3 (fun kq v7 v8 w' => ∃ (x7_2 : Int) (x8_2 : Int), v7 = .int .i64 x7_2 ∧ v8 = .int .i64 x8_2 ∧ Aside0 (impl_parsed.l0 kq a0 t695 x7_2 x8_2 = some (r1, r2)) ∧ Aside0 (kq ≤ kj3) ∧ Aside0 (Below w.heap.size w w'))
     case atStart => exact ⟨(0), (0), (by first | rfl | (simp; done) | (simp [*]; done)), (by first | rfl | (simp; done) | (simp [*]; done)), H', ⟨Nat.le_refl _⟩, ⟨bl_ HB.out⟩⟩
     case round =>
      clear H'
      try clear c1
      try clear p2
      try clear c5
      try clear c5b0
      try clear c5b1
      try clear c6
      try clear p2
      obtain ⟨x7_2, x8_2, rfl, rfl, HA, HK2, HB⟩ := hrel
      cases gk with
      | zero => exact absurd HA.out (by simp [impl_parsed.l0])
      | succ k2 =>
       have H := HA.out
       clear HA
       simp only [impl_parsed.l0] at H
       by_cases c7 : x8_2 < (t695.size : Int)
       · rw [if_pos c7] at H
         have c7b0 : decide (x8_2 < (t695.size : Int)) = true := decide_eq_true c7
         clear c7
         by_cases c8 : 0 ≤ x8_2
         · rw [if_pos c8] at H
           have c8b0 : decide (0 ≤ x8_2) = true := decide_eq_true c8
           clear c8
           by_cases c10 : (bt t695 x8_2) < 48
           · rw [if_pos c10] at H
             have c10b0 : decide ((bt t695 x8_2) < 48) = true := decide_eq_true c10
             clear c10
             simp only [Option.some.injEq, Prod.mk.injEq] at H
             obtain ⟨rfl, rfl⟩ := H
             have p9 : 0 ≤ (x8_2 : Int) := od_
             have q9 : x8_2 < (t695.size : Int) := od_
             have hx9 := bt_at t695 x8_2
             replace p9 := eq_true p9
             replace q9 := eq_true q9
             go_wp2
             go_ret2
             exact ⟨by first | rfl | (simp [errW_none, errW_some] <;> rfl) | (simp [*, errW_none, errW_some] <;> rfl), bl_ HB.out⟩
           · rw [if_neg c10] at H
             have c10b0 : decide ((bt t695 x8_2) < 48) = false := decide_eq_false c10
             clear c10
             by_cases c12 : (bt t695 x8_2) > 57
             · rw [if_pos c12] at H
               have c12b0 : decide (57 < (bt t695 x8_2)) = true := decide_eq_true c12
               clear c12
               simp only [Option.some.injEq, Prod.mk.injEq] at H
               obtain ⟨rfl, rfl⟩ := H
               have p9 : 0 ≤ (x8_2 : Int) := od_
               have q9 : x8_2 < (t695.size : Int) := od_
               have hx9 := bt_at t695 x8_2
               replace p9 := eq_true p9
               replace q9 := eq_true q9
               have p11 : 0 ≤ (x8_2 : Int) := od_
               have q11 : x8_2 < (t695.size : Int) := od_
               have hx11 := bt_at t695 x8_2
               replace p11 := eq_true p11
               replace q11 := eq_true q11
               go_wp2
               go_ret2
               exact ⟨by first | rfl | (simp [errW_none, errW_some] <;> rfl) | (simp [*, errW_none, errW_some] <;> rfl), bl_ HB.out⟩
             · rw [if_neg c12] at H
               have c12b0 : decide (57 < (bt t695 x8_2)) = false := decide_eq_false c12
               clear c12
               have H' := Aside0.mk H
               clear H
               have p9 : 0 ≤ (x8_2 : Int) := od_
               have q9 : x8_2 < (t695.size : Int) := od_
               have hx9 := bt_at t695 x8_2
               replace p9 := eq_true p9
               replace q9 := eq_true q9
               have p11 : 0 ≤ (x8_2 : Int) := od_
               have q11 : x8_2 < (t695.size : Int) := od_
               have hx11 := bt_at t695 x8_2
               replace p11 := eq_true p11
               replace q11 := eq_true q11
               have p13 : 0 ≤ (x8_2 : Int) := od_
               have q13 : x8_2 < (t695.size : Int) := od_
               have hx13 := bt_at t695 x8_2
               replace p13 := eq_true p13
               replace q13 := eq_true q13
               go_wp2
               go_roundg k2
               case measure => have := HJ3.out; have := HK2.out; omega
               case rel => exact ⟨(wrap64 ((wrap64 (10 * x7_2)) + (((bt t695 x8_2) - 48) % 256))), (wrap64 (x8_2 + 1)), (by first | rfl | (simp; done) | (simp [*]; done)), (by first | rfl | (simp; done) | (simp [*]; done)), H', ⟨by have := HJ3.out; have := HK2.out; omega⟩, ⟨bl_ HB.out⟩⟩
         · rw [if_neg c8] at H
           exact absurd H (by simp)
       · rw [if_neg c7] at H
         have c7b0 : decide (x8_2 < (t695.size : Int)) = false := decide_eq_false c7
         clear c7
         by_cases c14 : (t695.size : Int) < (a0.size : Int)
         · rw [if_pos c14] at H
           have c14b0 : decide ((t695.size : Int) < (a0.size : Int)) = true := decide_eq_true c14
           have c14b1 : decide (t695.size < a0.size) = true := decide_eq_true (Int.ofNat_lt.mp c14)
           clear c14
           replace H := Option.bind_eq_some_iff.mp H
           obtain ⟨t696, A150, H⟩ := H
           replace H : (if t696.toList = a0.toList then (some (wrap64 (-x7_2), true)) else (some (0, false))) = some (r1, r2) := H
           have A15 := Aside0.mk A150
           clear A150
           by_cases c16 : t696.toList = a0.toList
           · rw [if_pos c16] at H
             have c16b0 : (t696.toList == a0.toList) = true := beq_iff_eq.mpr c16
             have c16b1 : (t696.toList != a0.toList) = false := bne_eq_false_iff_eq.mpr c16
             clear c16
             simp only [Option.some.injEq, Prod.mk.injEq] at H
             obtain ⟨rfl, rfl⟩ := H
             go_wp2_with (first | ((with_reducible refine gate_callee (f := 26) rfl ?_); refine gL_ (some 52) Tryz.func26 #[.int .i64 (wrap64 (-x7_2))] ?_; (with_reducible refine (impl_FormatInt.calls k2 (wrap64 (-x7_2)) t696 _ A15.out).mono ?_); rintro e w17 ⟨rfl, hb⟩; refine ⟨_, rfl, ?_⟩; replace HB := Aside0.mk (below_step (bl_ HB.out) hb); (try clear hb); (try clear hb2); (try clear hk); (try clear hi)))
             go_ret2
             exact ⟨by first | rfl | (simp [errW_none, errW_some] <;> rfl) | (simp [*, errW_none, errW_some] <;> rfl), bl_ HB.out⟩
           · rw [if_neg c16] at H
             have c16b0 : (t696.toList == a0.toList) = false := beq_eq_false_iff_ne.mpr c16
             have c16b1 : (t696.toList != a0.toList) = true := bne_iff_ne.mpr c16
             simp only [Option.some.injEq, Prod.mk.injEq] at H
             obtain ⟨rfl, rfl⟩ := H
             go_wp2_with (first | ((with_reducible refine gate_callee (f := 26) rfl ?_); refine gL_ (some 52) Tryz.func26 #[.int .i64 (wrap64 (-x7_2))] ?_; (with_reducible refine (impl_FormatInt.calls k2 (wrap64 (-x7_2)) t696 _ A15.out).mono ?_); rintro e w18 ⟨rfl, hb⟩; refine ⟨_, rfl, ?_⟩; replace HB := Aside0.mk (below_step (bl_ HB.out) hb); (try clear hb); (try clear hb2); (try clear hk); (try clear hi)))
             go_ret2
             exact ⟨by first | rfl | (simp [errW_none, errW_some] <;> rfl) | (simp [*, errW_none, errW_some] <;> rfl), bl_ HB.out⟩
         · rw [if_neg c14] at H
           have c14b0 : decide ((t695.size : Int) < (a0.size : Int)) = false := decide_eq_false c14
           have c14b1 : decide (t695.size < a0.size) = false := decide_eq_false (fun h => c14 (Int.ofNat_lt.mpr h))
           clear c14
           replace H := Option.bind_eq_some_iff.mp H
           obtain ⟨t697, A190, H⟩ := H
           replace H : (if t697.toList = a0.toList then (some (x7_2, true)) else (some (0, false))) = some (r1, r2) := H
           have A19 := Aside0.mk A190
           clear A190
           by_cases c20 : t697.toList = a0.toList
           · rw [if_pos c20] at H
             have c20b0 : (t697.toList == a0.toList) = true := beq_iff_eq.mpr c20
             have c20b1 : (t697.toList != a0.toList) = false := bne_eq_false_iff_eq.mpr c20
             clear c20
             simp only [Option.some.injEq, Prod.mk.injEq] at H
             obtain ⟨rfl, rfl⟩ := H
             go_wp2_with (first | ((with_reducible refine gate_callee (f := 26) rfl ?_); refine gL_ (some 52) Tryz.func26 #[.int .i64 x7_2] ?_; (with_reducible refine (impl_FormatInt.calls k2 x7_2 t697 _ A19.out).mono ?_); rintro e w21 ⟨rfl, hb⟩; refine ⟨_, rfl, ?_⟩; replace HB := Aside0.mk (below_step (bl_ HB.out) hb); (try clear hb); (try clear hb2); (try clear hk); (try clear hi)))
             go_ret2
             exact ⟨by first | rfl | (simp [errW_none, errW_some] <;> rfl) | (simp [*, errW_none, errW_some] <;> rfl), bl_ HB.out⟩
           · rw [if_neg c20] at H
             have c20b0 : (t697.toList == a0.toList) = false := beq_eq_false_iff_ne.mpr c20
             have c20b1 : (t697.toList != a0.toList) = true := bne_iff_ne.mpr c20
             simp only [Option.some.injEq, Prod.mk.injEq] at H
             obtain ⟨rfl, rfl⟩ := H
             go_wp2_with (first | ((with_reducible refine gate_callee (f := 26) rfl ?_); refine gL_ (some 52) Tryz.func26 #[.int .i64 x7_2] ?_; (with_reducible refine (impl_FormatInt.calls k2 x7_2 t697 _ A19.out).mono ?_); rintro e w22 ⟨rfl, hb⟩; refine ⟨_, rfl, ?_⟩; replace HB := Aside0.mk (below_step (bl_ HB.out) hb); (try clear hb); (try clear hb2); (try clear hk); (try clear hi)))
             go_ret2
             exact ⟨by first | rfl | (simp [errW_none, errW_some] <;> rfl) | (simp [*, errW_none, errW_some] <;> rfl), bl_ HB.out⟩
def impl_ParseInt.f (k : Nat) (a0 : ByteArray) : Option (Int × Bool) := (impl_parsed.f k a0 12).bind fun bt698 => (some (bt698.1, bt698.2))
set_option maxHeartbeats 8000000 in
set_option maxRecDepth 100000 in
theorem impl_ParseInt.calls (k : Nat) (a0 : ByteArray) (r1 : Int) (r2 : Bool) (w : World) (h : impl_ParseInt.f k a0 = some (r1, r2)) :
 Calls Tryz.prog 87 #[.string a0] w fun e w' => e = .returned (.tuple #[.int .i64 r1, .bool r2]) ∧ Below w.heap.size w w' := by
 have HB := Aside0.mk (Below.refl w.heap.size w)
 have H : ((impl_parsed.f k a0 12).bind fun bt698 => (some (bt698.1, bt698.2))) = some (r1, r2) := h
 clear h
 replace H := Option.bind_eq_some_iff.mp H
 obtain ⟨⟨t698, t699⟩, A20, H⟩ := H
 replace H : (some (t698, t699)) = some (r1, r2) := H
 have A2 := Aside0.mk A20
 clear A20
 simp only [Option.some.injEq, Prod.mk.injEq] at H
 obtain ⟨rfl, rfl⟩ := H
 go_enter Tryz.func87, Tryz.ntmps87
 go_wp2_with (first | ((with_reducible refine gate_callee (f := 108) rfl ?_); refine gL_ (some 5) Tryz.func108 #[.string a0, .int .i64 12] ?_; (with_reducible refine (impl_parsed.calls k a0 12 t698 t699 _ A2.out).mono ?_); rintro e w3 ⟨rfl, hb⟩; refine ⟨_, rfl, ?_⟩; replace HB := Aside0.mk (below_step (bl_ HB.out) hb); (try clear hb); (try clear hb2); (try clear hk); (try clear hi)))
 go_ret2
 exact ⟨by first | rfl | (simp [errW_none, errW_some] <;> rfl) | (simp [*, errW_none, errW_some] <;> rfl), bl_ HB.out⟩
def impl_ParseList.l0 : Nat → List Int → List ByteArray → Int → Int → Option (List Int × Bool)
 | 0, _, _, _, _ => none
 | k + 1, x4, x14, x15, x16 => if x16 < x15 then (if 0 ≤ x16 then (if x16 < (x14.length : Int) then ((impl_ParseInt.f k (rdOf ByteArray.empty x14 x16)).bind fun bt707 => (if bt707.2 = true then (if x4.length < 17592186044416 then (impl_ParseList.l0 k (x4 ++ [bt707.1]) x14 x15 (wrap64 (x16 + 1))) else (none)) else (some (([] : List Int), false)))) else (none)) else (none)) else (some (x4, true))
def impl_ParseList.f (k : Nat) (a0 : ByteArray) : Option (List Int × Bool) := (some (([] : List Int) : List Int)).bind fun y700 => (if a0.toList = ([110, 111, 110, 101] : List UInt8) then (some (y700, true)) else ((impl_SplitByte.f k a0 44).bind fun t703 => (impl_ParseList.l0 k y700 t703 (t703.length : Int) 0)))
set_option maxHeartbeats 8000000 in
set_option maxRecDepth 100000 in
theorem impl_ParseList.calls (k : Nat) (a0 : ByteArray) (r1 : List Int) (r2 : Bool) (w : World) (h : impl_ParseList.f k a0 = some (r1, r2)) :
 Calls Tryz.prog 46 #[.string a0] w fun e w' => ∃ v0_ : Value, e = .returned (.tuple #[v0_, .bool r2]) ∧ Kd.R (Kd.int .i64) 3 w' w.heap.size (fun _ => True) v0_ r1 ∧ Below w.heap.size w w' := by
 have HB := Aside0.mk (Below.refl w.heap.size w)
 have H : ((some (([] : List Int) : List Int)).bind fun y700 => (if a0.toList = ([110, 111, 110, 101] : List UInt8) then (some (y700, true)) else ((impl_SplitByte.f k a0 44).bind fun t703 => (impl_ParseList.l0 k y700 t703 (t703.length : Int) 0)))) = some (r1, r2) := h
 clear h
 obtain ⟨y700, hy700⟩ : ∃ y_ : List Int, y_ = (([] : List Int)) := ⟨_, rfl⟩
 replace H : (if a0.toList = ([110, 111, 110, 101] : List UInt8) then (some (y700, true)) else ((impl_SplitByte.f k a0 44).bind fun t703 => (impl_ParseList.l0 k y700 t703 (t703.length : Int) 0))) = some (r1, r2) := by subst hy700; exact H
 have Ny700 := Aside0.mk hy700
 clear hy700
 by_cases c2 : a0.toList = ([110, 111, 110, 101] : List UInt8)
 · rw [if_pos c2] at H
   have c2b0 : (a0.toList == ([110, 111, 110, 101] : List UInt8)) = true := beq_iff_eq.mpr c2
   have c2b1 : (a0.toList != ([110, 111, 110, 101] : List UInt8)) = false := bne_eq_false_iff_eq.mpr c2
   clear c2
   simp only [Option.some.injEq, Prod.mk.injEq] at H
   obtain ⟨rfl, rfl⟩ := H
   go_enter Tryz.func46, Tryz.ntmps46
   go_wp2_with (first | ((with_reducible refine gate_dst (N := 9) rfl ?_); refine Kd.R_lit (Kd.int .i64) _ 3 ?hg (N := 9) ?hd (xs := ([] : List Int)) (inner := []) (ok := fun _ => True) (okp := fun _ => True) ?hr ?hp (fun _ hk => hk) trivial (Below.refl _ _) (Nat.le_refl _) (by simp) ?_; (case hd => rfl); (case hg => rfl); (case hr => first | (go_simp; done) | (go_simp; rfl)); (case hp => exact (Reps.none _ _)); intro v701 w3 ho4 hb hg_ hnew_; clear hg_ hnew_; (first | rw [← Ny700.out] at ho4 | (simp only [Int.reduceToNat] at ho4; rw [← Ny700.out] at ho4)); have HO702 := Aside0.mk (Kd.R_lower ho4 (below_size (bl_ HB.out))); replace HB := Aside0.mk (below_step (bl_ HB.out) hb); clear hb ho4))
   go_ret2
   exact ⟨_, by first | rfl | (simp [errW_none, errW_some] <;> rfl) | (simp [*, errW_none, errW_some] <;> rfl), re_ HO702.out, bl_ HB.out⟩
 · rw [if_neg c2] at H
   have c2b0 : (a0.toList == ([110, 111, 110, 101] : List UInt8)) = false := beq_eq_false_iff_ne.mpr c2
   have c2b1 : (a0.toList != ([110, 111, 110, 101] : List UInt8)) = true := bne_iff_ne.mpr c2
   replace H := Option.bind_eq_some_iff.mp H
   obtain ⟨t703, A50, H⟩ := H
   replace H : (impl_ParseList.l0 k y700 t703 (t703.length : Int) 0) = some (r1, r2) := H
   have A5 := Aside0.mk A50
   clear A50
   have H' := Aside0.mk H
   clear H
   go_enter Tryz.func46, Tryz.ntmps46
   go_wp2_with (first | ((with_reducible refine gate_dst (N := 9) rfl ?_); refine Kd.R_lit (Kd.int .i64) _ 3 ?hg (N := 9) ?hd (xs := ([] : List Int)) (inner := []) (ok := fun _ => True) (okp := fun _ => True) ?hr ?hp (fun _ hk => hk) trivial (Below.refl _ _) (Nat.le_refl _) (by simp) ?_; (case hd => rfl); (case hg => rfl); (case hr => first | (go_simp; done) | (go_simp; rfl)); (case hp => exact (Reps.none _ _)); intro v701 w6 ho7 hb hg_ hnew_; clear hg_ hnew_; (first | rw [← Ny700.out] at ho7 | (simp only [Int.reduceToNat] at ho7; rw [← Ny700.out] at ho7)); have HO702 := Aside0.mk (Kd.R_lower ho7 (below_size (bl_ HB.out))); replace HB := Aside0.mk (below_step (bl_ HB.out) hb); clear hb ho7) | ((with_reducible refine gate_callee (f := 86) rfl ?_); refine gL_ (some 14) Tryz.func86 #[.string a0, .int .u8 44] ?_; (with_reducible refine (impl_SplitByte.calls k a0 44 t703 _ A5.out).mono ?_); rintro e w8 ⟨v704, rfl, ho0, hb⟩; refine ⟨_, rfl, ?_⟩; replace HO702 := Aside0.mk (Kd.R_below (re_ HO702.out) hb); have HO705 := Aside0.mk (Kd.R_lower ho0 (below_size (bl_ HB.out))); replace HB := Aside0.mk (below_step (bl_ HB.out) hb); (try clear hb); (try clear hb2); (try clear hk); (try clear hi); (try clear ho0); obtain ⟨Ao9, co9, eo9⟩ := Kd.R_slice HO705.out; subst eo9))
   go_loopg [4, 16] k (fun kq v4 v16 w' => ∃ (x4_1 : List Int) (x16_1 : Int), v16 = .int .i64 x16_1 ∧ Aside0 (impl_ParseList.l0 kq x4_1 t703 (t703.length : Int) x16_1 = some (r1, r2)) ∧ Aside0 (kq ≤ k) ∧ Aside0 (Kd.R (Kd.int .i64) 3 w' w.heap.size (fun _ => True) v4 x4_1) ∧ Aside0 (Kd.R Kd.string 9 w' w.heap.size (fun _ => True) (.slice Ao9 t703.length co9) t703) ∧ Aside0 (Below w.heap.size w w'))
   case atStart => exact ⟨(y700), (0), (by first | rfl | (simp; done) | (simp [*]; done)), H', ⟨Nat.le_refl _⟩, ⟨re_ HO702.out⟩, ⟨re_ HO705.out⟩, ⟨bl_ HB.out⟩⟩
   case round =>
    clear H'
    try clear c2
    try clear c2b0
    try clear c2b1
    try clear p2
    try clear c4
    try clear c8
    obtain ⟨x4_1, x16_1, rfl, HA, HK1, HO_4, HO_14, HB⟩ := hrel
    cases gk with
    | zero => exact absurd HA.out (by simp [impl_ParseList.l0])
    | succ k1 =>
     have H := HA.out
     clear HA
     simp only [impl_ParseList.l0] at H
     by_cases c10 : x16_1 < (t703.length : Int)
     · rw [if_pos c10] at H
       have c10b0 : decide (x16_1 < (t703.length : Int)) = true := decide_eq_true c10
       clear c10
       by_cases c11 : 0 ≤ x16_1
       · rw [if_pos c11] at H
         have c11b0 : decide (0 ≤ x16_1) = true := decide_eq_true c11
         clear c11
         by_cases c12 : x16_1 < (t703.length : Int)
         · rw [if_pos c12] at H
           have c12b0 : decide (x16_1 < (t703.length : Int)) = true := decide_eq_true c12
           clear c12
           replace H := Option.bind_eq_some_iff.mp H
           obtain ⟨⟨t707, t708⟩, A130, H⟩ := H
           replace H : (if t708 = true then (if x4_1.length < 17592186044416 then (impl_ParseList.l0 k1 (x4_1 ++ [t707]) t703 (t703.length : Int) (wrap64 (x16_1 + 1))) else (none)) else (some (([] : List Int), false))) = some (r1, r2) := H
           have A13 := Aside0.mk A130
           clear A130
           by_cases c14 : t708 = true
           · subst c14
             have H1 : (if x4_1.length < 17592186044416 then (impl_ParseList.l0 k1 (x4_1 ++ [t707]) t703 (t703.length : Int) (wrap64 (x16_1 + 1))) else (none)) = some (r1, r2) := by rw [if_pos rfl] at H; exact H
             clear H
             have H := H1
             clear H1
             by_cases c15 : x4_1.length < 17592186044416
             · rw [if_pos c15] at H
               have LMc15 := Aside0.mk c15
               clear c15
               obtain ⟨y709, hy709⟩ : ∃ y_ : List Int, y_ = (x4_1 ++ [t707]) := ⟨_, rfl⟩
               replace H : (impl_ParseList.l0 k1 y709 t703 (t703.length : Int) (wrap64 (x16_1 + 1))) = some (r1, r2) := by subst hy709; exact H
               have Ny709 := Aside0.mk hy709
               clear hy709
               have H' := Aside0.mk H
               clear H
               have p706 : 0 ≤ (x16_1 : Int) := od_
               have q706 : x16_1 < (t703.length : Int) := od_
               obtain ⟨ad706, e706, hx706_0⟩ := Kd.at_string (Kd.R_reads' HO_14.out).2.2 x16_1 p706 q706
               cases e706
               replace p706 := eq_true p706
               replace q706 := eq_true q706
               go_wp2_with (first | ((with_reducible refine gate_callee (f := 87) rfl ?_); refine gL_ (some 22) Tryz.func87 #[.string (rdOf ByteArray.empty t703 x16_1)] ?_; (with_reducible refine (impl_ParseInt.calls k1 (rdOf ByteArray.empty t703 x16_1) t707 true _ A13.out).mono ?_); rintro e w16 ⟨rfl, hb⟩; refine ⟨_, rfl, ?_⟩; replace HO_4 := Aside0.mk (Kd.R_below (re_ HO_4.out) hb); replace HO_14 := Aside0.mk (Kd.R_below (re_ HO_14.out) hb); replace HB := Aside0.mk (below_step (bl_ HB.out) hb); (try clear hb); (try clear hb2); (try clear hk); (try clear hi)) | ((with_reducible refine gate_builtin (b := .append) (xs := #[.tmp 27, .tmp 29]) rfl ?_); at_builtin; refine Kd.R_append (Kd.int .i64) (w0 := w) w.heap.size rfl (.tmp 27) (.tmp 29) 27 3 (.int .i64 0) 8 rfl Tryz.underlying27 info3 rfl (by decide) (by omega) u4 x4_1 t707 [.int .i64 t707] (fun _ => True) (fun _ => False) rfl rfl ?aP (fun _ hk => hk.elim) ?aF ?aO ?aB ?aS ?aL ?_; (case aP => exact rfl); (case aB => exact (bl_ HB.out)); (case aF => exact (fun _ _ => trivial)); (case aO => exact (re_ HO_4.out)); (case aS => exact (below_size (bl_ HB.out))); (case aL => have := LMc15.out; omega); intro v710 w17 ho hb hg hat; rw [← Ny709.out] at ho; replace HO_14 := Aside0.mk (Kd.R_over' (re_ HO_14.out) (Kd.R_typed (re_ HO_4.out)) (by decide) hg); replace HB := Aside0.mk (hb); have HO711 := Aside0.mk (ho); clear HO_4; clear ho hb hg hat))
               go_roundg k1
               case measure => have := HK1.out; omega
               case rel => exact ⟨(y709), (wrap64 (x16_1 + 1)), (by first | rfl | (simp; done) | (simp [*]; done)), H', ⟨by have := HK1.out; omega⟩, ⟨re_ HO711.out⟩, ⟨re_ HO_14.out⟩, ⟨bl_ HB.out⟩⟩
             · rw [if_neg c15] at H
               exact absurd H (by simp)
           · replace c14 := Bool.eq_false_iff.mpr c14
             subst c14
             have H1 : (some (([] : List Int), false)) = some (r1, r2) := by rw [if_neg (show ¬ (false = true) by decide)] at H; exact H
             clear H
             have H := H1
             clear H1
             simp only [Option.some.injEq, Prod.mk.injEq] at H
             obtain ⟨rfl, rfl⟩ := H
             have p706 : 0 ≤ (x16_1 : Int) := od_
             have q706 : x16_1 < (t703.length : Int) := od_
             obtain ⟨ad706, e706, hx706_0⟩ := Kd.at_string (Kd.R_reads' HO_14.out).2.2 x16_1 p706 q706
             cases e706
             replace p706 := eq_true p706
             replace q706 := eq_true q706
             go_wp2_with (first | ((with_reducible refine gate_callee (f := 87) rfl ?_); refine gL_ (some 22) Tryz.func87 #[.string (rdOf ByteArray.empty t703 x16_1)] ?_; (with_reducible refine (impl_ParseInt.calls k1 (rdOf ByteArray.empty t703 x16_1) t707 false _ A13.out).mono ?_); rintro e w18 ⟨rfl, hb⟩; refine ⟨_, rfl, ?_⟩; replace HO_4 := Aside0.mk (Kd.R_below (re_ HO_4.out) hb); replace HO_14 := Aside0.mk (Kd.R_below (re_ HO_14.out) hb); replace HB := Aside0.mk (below_step (bl_ HB.out) hb); (try clear hb); (try clear hb2); (try clear hk); (try clear hi)))
             go_ret2
             exact ⟨_, by first | rfl | (simp [errW_none, errW_some] <;> rfl) | (simp [*, errW_none, errW_some] <;> rfl), by first | exact Kd.R_nil _ _ _ _ _ | exact Kd.N_nil _ _ _ _ _ | exact Kd.V_nil _ _ _ _ _ | exact Kd.Q_nil _ _ _ _ _ | exact Kd.S_nil _ _ _ _ _, bl_ HB.out⟩
         · rw [if_neg c12] at H
           exact absurd H (by simp)
       · rw [if_neg c11] at H
         exact absurd H (by simp)
     · rw [if_neg c10] at H
       have c10b0 : decide (x16_1 < (t703.length : Int)) = false := decide_eq_false c10
       clear c10
       simp only [Option.some.injEq, Prod.mk.injEq] at H
       obtain ⟨rfl, rfl⟩ := H
       go_wp2
       go_ret2
       exact ⟨_, by first | rfl | (simp [errW_none, errW_some] <;> rfl) | (simp [*, errW_none, errW_some] <;> rfl), re_ HO_4.out, bl_ HB.out⟩
end Go.Proofs.YteaiehpgigaoaaaGreatDoor.PA
end
