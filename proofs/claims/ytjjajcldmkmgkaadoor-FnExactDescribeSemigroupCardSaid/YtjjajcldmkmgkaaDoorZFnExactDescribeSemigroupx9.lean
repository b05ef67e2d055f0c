-- Bundled by shake.py from this session's printed and written texts; Lean checks it.
import Derived.Shelf.Abstract
import Derived.Test.YtjjajcldmkmgkaaDoorZFnExactDescribeSemigroupx0
import Derived.Test.YtjjajcldmkmgkaaDoorZFnExactDescribeSemigroupx1
import Derived.Test.YtjjajcldmkmgkaaDoorZFnExactDescribeSemigroupx7
import Derived.Test.YtjjajcldmkmgkaaDoorZFnExactDescribeSemigroupx8
section
namespace Go.Proofs.YtjjajcldmkmgkaaDoor.PA
open Go.RowKit Go.Proofs.YtjjajcldmkmgkaaDoorW.PrintWords Go.Proofs.YtjjajcldmkmgkaaDoorW.PrintLast Go.Proofs.YtjjajcldmkmgkaaDoorW.PrintMore
attribute [local go_sem] max2_int min2_int max_two min_two max_three min_three max_four min_four
set_option linter.unusedVariables false
set_option linter.unusedSimpArgs false
def impl_IsPseudoSymmetric.f (k : Nat) (l0_0 : List Int) : Option (Bool) := (impl_FrobeniusOf.f k l0_0).bind fun t482 => ((impl_IsSemigroup.f k l0_0).bind fun t483 => (if t483 = true then (if t482 ≥ 0 then (if (Int.tmod t482 2) = 0 then ((impl_halved.f k l0_0 (wrap64 (Int.tdiv t482 2))).bind fun t484 => (some t484)) else (some false)) else (some false)) else (some false)))
set_option maxHeartbeats 8000000 in
set_option maxRecDepth 100000 in
theorem impl_IsPseudoSymmetric.calls (k : Nat) (A0_0 : Option Addr) (c0_0 : Nat) (l0_0 : List Int) (r : Bool) (w : World) (hr0_0 : Kd.C (Kd.int .i64) w A0_0 l0_0.length l0_0) (hc0_0 : l0_0.length ≤ c0_0) (h : impl_IsPseudoSymmetric.f k l0_0 = some r) :
 Calls Tryd.prog 23 #[.agg #[.slice A0_0 l0_0.length c0_0]] w fun e w' => e = .returned (.bool r) ∧ Below w.heap.size w w' := by
 have hu27 := Tryd.underlying27
 have HR0_0 := Aside0.mk hr0_0
 have HC0_0 := Aside0.mk hc0_0
 clear hr0_0 hc0_0
 have HB := Aside0.mk (Below.refl w.heap.size w)
 have H : ((impl_FrobeniusOf.f k l0_0).bind fun t482 => ((impl_IsSemigroup.f k l0_0).bind fun t483 => (if t483 = true then (if t482 ≥ 0 then (if (Int.tmod t482 2) = 0 then ((impl_halved.f k l0_0 (wrap64 (Int.tdiv t482 2))).bind fun t484 => (some t484)) else (some false)) else (some false)) else (some false)))) = some r := h
 clear h
 replace H := Option.bind_eq_some_iff.mp H
 obtain ⟨t482, A20, H⟩ := H
 have A2 := Aside0.mk A20
 clear A20
 replace H := Option.bind_eq_some_iff.mp H
 obtain ⟨t483, A30, H⟩ := H
 have A3 := Aside0.mk A30
 clear A30
 by_cases c4 : t483 = true
 · subst c4
   rw [if_pos rfl] at H
   by_cases c5 : t482 ≥ 0
   · rw [if_pos c5] at H
     have c5b0 : decide (0 ≤ t482) = true := decide_eq_true c5
     clear c5
     by_cases c6 : (Int.tmod t482 2) = 0
     · rw [if_pos c6] at H
       have c6b0 : ((Int.tmod t482 2) == 0) = true := beq_iff_eq.mpr c6
       have c6b1 : ((Int.tmod t482 2) != 0) = false := bne_eq_false_iff_eq.mpr c6
       clear c6
       replace H := Option.bind_eq_some_iff.mp H
       obtain ⟨t484, A70, H⟩ := H
       have A7 := Aside0.mk A70
       clear A70
       obtain rfl := Option.some.inj H
       go_enter Tryd.func23, Tryd.ntmps23
       go_wp2_with (first | ((with_reducible refine gate_dst (N := 1) rfl ?_); refine box_event ?hg (N := 1) ?hd (cs := #[.slice A0_0 l0_0.length c0_0]) (t := 27) ?hr ?_; (case hd => rfl); (case hg => rfl); (case hr => first | (go_simp; done) | (go_simp; rfl)); intro gb481 hg w8 hbox hb; have BK481 := Aside0.mk (hbox); have GW481 := Aside0.mk ((by rw [hg]; exact (below_size (bl_ HB.out)) : w.heap.size ≤ gb481)); have GE481 := Aside0.mk ((by rw [hg]; exact (below_size (bl_ HB.out)) : w.heap.size ≤ gb481)); replace HB := Aside0.mk (below_step (bl_ HB.out) hb); clear hb hbox hg; have hcz9_0 : w8.cell? ⟨gb481, 0, none⟩ = some (.slice A0_0 l0_0.length c0_0) := (blk_cell BK481.out 0).trans rfl; have hfz9_0 := blk_frozen BK481.out 0) | ((with_reducible refine gate_callee (f := 26) rfl ?_); refine gL_ (some 5) Tryd.func26 #[.agg #[.slice A0_0 l0_0.length c0_0]] ?_; (with_reducible refine (impl_FrobeniusOf.calls k _ _ l0_0 t482 _ ?side1 ?side2 A2.out).mono ?_); (case side1 => exact ce_ ((Kd.C_below HR0_0.out HB.out))); (case side2 => exact HC0_0.out); rintro e w10 ⟨rfl, hb⟩; refine ⟨_, rfl, ?_⟩; replace BK481 := Aside0.mk (blk_below (be_ BK481.out) hb); replace HB := Aside0.mk (below_step (by repeat (first | (with_reducible first | exact HB.out | apply below_alloc | apply pw_below_drewN | apply below_drew1 | refine below_set ?_ GE481.out) | exact HB.out)) hb); (try clear hb); (try clear hb2); (try clear hk); (try clear hi); have hcz11_0 : w10.cell? ⟨gb481, 0, none⟩ = some (.slice A0_0 l0_0.length c0_0) := (blk_cell BK481.out 0).trans rfl; have hfz11_0 := blk_frozen BK481.out 0) | ((with_reducible refine gate_callee (f := 21) rfl ?_); refine gL_ (some 7) Tryd.func21 #[.agg #[.slice A0_0 l0_0.length c0_0]] ?_; (with_reducible refine (impl_IsSemigroup.calls k _ _ l0_0 true _ ?side1 ?side2 A3.out).mono ?_); (case side1 => exact ce_ ((Kd.C_below HR0_0.out HB.out))); (case side2 => exact HC0_0.out); rintro e w12 ⟨rfl, hb⟩; refine ⟨_, rfl, ?_⟩; replace BK481 := Aside0.mk (blk_below (be_ BK481.out) hb); replace HB := Aside0.mk (below_step (by repeat (first | (with_reducible first | exact HB.out | apply below_alloc | apply pw_below_drewN | apply below_drew1 | refine below_set ?_ GE481.out) | exact HB.out)) hb); (try clear hb); (try clear hb2); (try clear hk); (try clear hi); have hcz13_0 : w12.cell? ⟨gb481, 0, none⟩ = some (.slice A0_0 l0_0.length c0_0) := (blk_cell BK481.out 0).trans rfl; have hfz13_0 := blk_frozen BK481.out 0) | (go_at_call 58; (with_reducible refine (impl_halved.calls k _ _ l0_0 (wrap64 (Int.tdiv t482 2)) t484 _ ?side1 ?side2 A7.out).mono ?_); (case side1 => exact ce_ ((Kd.C_below HR0_0.out HB.out))); (case side2 => exact HC0_0.out); rintro e w14 ⟨rfl, hb⟩; replace BK481 := Aside0.mk (blk_below (be_ BK481.out) hb); replace HB := Aside0.mk (below_step (by repeat (first | (with_reducible first | exact HB.out | apply below_alloc | apply pw_below_drewN | apply below_drew1 | refine below_set ?_ GE481.out) | exact HB.out)) hb); (try clear hb); (try clear hb2); (try clear hk); (try clear hi)))
       go_ret
       exact ⟨by first | rfl | (simp [errW_none, errW_some] <;> rfl) | (simp [*, errW_none, errW_some] <;> rfl), by repeat (first | (with_reducible first | exact HB.out | apply below_alloc | apply pw_below_drewN | apply below_drew1 | refine below_set ?_ GE481.out) | exact HB.out)⟩
     · rw [if_neg c6] at H
       have c6b0 : ((Int.tmod t482 2) == 0) = false := beq_eq_false_iff_ne.mpr c6
       have c6b1 : ((Int.tmod t482 2) != 0) = true := bne_iff_ne.mpr c6
       obtain rfl := Option.some.inj H
       go_enter Tryd.func23, Tryd.ntmps23
       go_wp2_with (first | ((with_reducible refine gate_dst (N := 1) rfl ?_); refine box_event ?hg (N := 1) ?hd (cs := #[.slice A0_0 l0_0.length c0_0]) (t := 27) ?hr ?_; (case hd => rfl); (case hg => rfl); (case hr => first | (go_simp; done) | (go_simp; rfl)); intro gb481 hg w15 hbox hb; have BK481 := Aside0.mk (hbox); have GW481 := Aside0.mk ((by rw [hg]; exact (below_size (bl_ HB.out)) : w.heap.size ≤ gb481)); have GE481 := Aside0.mk ((by rw [hg]; exact (below_size (bl_ HB.out)) : w.heap.size ≤ gb481)); replace HB := Aside0.mk (below_step (bl_ HB.out) hb); clear hb hbox hg; have hcz16_0 : w15.cell? ⟨gb481, 0, none⟩ = some (.slice A0_0 l0_0.length c0_0) := (blk_cell BK481.out 0).trans rfl; have hfz16_0 := blk_frozen BK481.out 0) | ((with_reducible refine gate_callee (f := 26) rfl ?_); refine gL_ (some 5) Tryd.func26 #[.agg #[.slice A0_0 l0_0.length c0_0]] ?_; (with_reducible refine (impl_FrobeniusOf.calls k _ _ l0_0 t482 _ ?side1 ?side2 A2.out).mono ?_); (case side1 => exact ce_ ((Kd.C_below HR0_0.out HB.out))); (case side2 => exact HC0_0.out); rintro e w17 ⟨rfl, hb⟩; refine ⟨_, rfl, ?_⟩; replace BK481 := Aside0.mk (blk_below (be_ BK481.out) hb); replace HB := Aside0.mk (below_step (by repeat (first | (with_reducible first | exact HB.out | apply below_alloc | apply pw_below_drewN | apply below_drew1 | refine below_set ?_ GE481.out) | exact HB.out)) hb); (try clear hb); (try clear hb2); (try clear hk); (try clear hi); have hcz18_0 : w17.cell? ⟨gb481, 0, none⟩ = some (.slice A0_0 l0_0.length c0_0) := (blk_cell BK481.out 0).trans rfl; have hfz18_0 := blk_frozen BK481.out 0) | ((with_reducible refine gate_callee (f := 21) rfl ?_); refine gL_ (some 7) Tryd.func21 #[.agg #[.slice A0_0 l0_0.length c0_0]] ?_; (with_reducible refine (impl_IsSemigroup.calls k _ _ l0_0 true _ ?side1 ?side2 A3.out).mono ?_); (case side1 => exact ce_ ((Kd.C_below HR0_0.out HB.out))); (case side2 => exact HC0_0.out); rintro e w19 ⟨rfl, hb⟩; refine ⟨_, rfl, ?_⟩; replace BK481 := Aside0.mk (blk_below (be_ BK481.out) hb); replace HB := Aside0.mk (below_step (by repeat (first | (with_reducible first | exact HB.out | apply below_alloc | apply pw_below_drewN | apply below_drew1 | refine below_set ?_ GE481.out) | exact HB.out)) hb); (try clear hb); (try clear hb2); (try clear hk); (try clear hi)))
       go_ret
       exact ⟨by first | rfl | (simp [errW_none, errW_some] <;> rfl) | (simp [*, errW_none, errW_some] <;> rfl), by repeat (first | (with_reducible first | exact HB.out | apply below_alloc | apply pw_below_drewN | apply below_drew1 | refine below_set ?_ GE481.out) | exact HB.out)⟩
   · rw [if_neg c5] at H
     have c5b0 : decide (0 ≤ t482) = false := decide_eq_false c5
     clear c5
     obtain rfl := Option.some.inj H
     go_enter Tryd.func23, Tryd.ntmps23
     go_wp2_with (first | ((with_reducible refine gate_dst (N := 1) rfl ?_); refine box_event ?hg (N := 1) ?hd (cs := #[.slice A0_0 l0_0.length c0_0]) (t := 27) ?hr ?_; (case hd => rfl); (case hg => rfl); (case hr => first | (go_simp; done) | (go_simp; rfl)); intro gb481 hg w20 hbox hb; have BK481 := Aside0.mk (hbox); have GW481 := Aside0.mk ((by rw [hg]; exact (below_size (bl_ HB.out)) : w.heap.size ≤ gb481)); have GE481 := Aside0.mk ((by rw [hg]; exact (below_size (bl_ HB.out)) : w.heap.size ≤ gb481)); replace HB := Aside0.mk (below_step (bl_ HB.out) hb); clear hb hbox hg; have hcz21_0 : w20.cell? ⟨gb481, 0, none⟩ = some (.slice A0_0 l0_0.length c0_0) := (blk_cell BK481.out 0).trans rfl; have hfz21_0 := blk_frozen BK481.out 0) | ((with_reducible refine gate_callee (f := 26) rfl ?_); refine gL_ (some 5) Tryd.func26 #[.agg #[.slice A0_0 l0_0.length c0_0]] ?_; (with_reducible refine (impl_FrobeniusOf.calls k _ _ l0_0 t482 _ ?side1 ?side2 A2.out).mono ?_); (case side1 => exact ce_ ((Kd.C_below HR0_0.out HB.out))); (case side2 => exact HC0_0.out); rintro e w22 ⟨rfl, hb⟩; refine ⟨_, rfl, ?_⟩; replace BK481 := Aside0.mk (blk_below (be_ BK481.out) hb); replace HB := Aside0.mk (below_step (by repeat (first | (with_reducible first | exact HB.out | apply below_alloc | apply pw_below_drewN | apply below_drew1 | refine below_set ?_ GE481.out) | exact HB.out)) hb); (try clear hb); (try clear hb2); (try clear hk); (try clear hi); have hcz23_0 : w22.cell? ⟨gb481, 0, none⟩ = some (.slice A0_0 l0_0.length c0_0) := (blk_cell BK481.out 0).trans rfl; have hfz23_0 := blk_frozen BK481.out 0) | ((with_reducible refine gate_callee (f := 21) rfl ?_); refine gL_ (some 7) Tryd.func21 #[.agg #[.slice A0_0 l0_0.length c0_0]] ?_; (with_reducible refine (impl_IsSemigroup.calls k _ _ l0_0 true _ ?side1 ?side2 A3.out).mono ?_); (case side1 => exact ce_ ((Kd.C_below HR0_0.out HB.out))); (case side2 => exact HC0_0.out); rintro e w24 ⟨rfl, hb⟩; refine ⟨_, rfl, ?_⟩; replace BK481 := Aside0.mk (blk_below (be_ BK481.out) hb); replace HB := Aside0.mk (below_step (by repeat (first | (with_reducible first | exact HB.out | apply below_alloc | apply pw_below_drewN | apply below_drew1 | refine below_set ?_ GE481.out) | exact HB.out)) hb); (try clear hb); (try clear hb2); (try clear hk); (try clear hi)))
     go_ret
     exact ⟨by first | rfl | (simp [errW_none, errW_some] <;> rfl) | (simp [*, errW_none, errW_some] <;> rfl), by repeat (first | (with_reducible first | exact HB.out | apply below_alloc | apply pw_below_drewN | apply below_drew1 | refine below_set ?_ GE481.out) | exact HB.out)⟩
 · replace c4 := Bool.eq_false_iff.mpr c4
   subst c4
   rw [if_neg (show ¬ (false = true) by decide)] at H
   obtain rfl := Option.some.inj H
   go_enter Tryd.func23, Tryd.ntmps23
   go_wp2_with (first | ((with_reducible refine gate_dst (N := 1) rfl ?_); refine box_event ?hg (N := 1) ?hd (cs := #[.slice A0_0 l0_0.length c0_0]) (t := 27) ?hr ?_; (case hd => rfl); (case hg => rfl); (case hr => first | (go_simp; done) | (go_simp; rfl)); intro gb481 hg w25 hbox hb; have BK481 := Aside0.mk (hbox); have GW481 := Aside0.mk ((by rw [hg]; exact (below_size (bl_ HB.out)) : w.heap.size ≤ gb481)); have GE481 := Aside0.mk ((by rw [hg]; exact (below_size (bl_ HB.out)) : w.heap.size ≤ gb481)); replace HB := Aside0.mk (below_step (bl_ HB.out) hb); clear hb hbox hg; have hcz26_0 : w25.cell? ⟨gb481, 0, none⟩ = some (.slice A0_0 l0_0.length c0_0) := (blk_cell BK481.out 0).trans rfl; have hfz26_0 := blk_frozen BK481.out 0) | ((with_reducible refine gate_callee (f := 26) rfl ?_); refine gL_ (some 5) Tryd.func26 #[.agg #[.slice A0_0 l0_0.length c0_0]] ?_; (with_reducible refine (impl_FrobeniusOf.calls k _ _ l0_0 t482 _ ?side1 ?side2 A2.out).mono ?_); (case side1 => exact ce_ ((Kd.C_below HR0_0.out HB.out))); (case side2 => exact HC0_0.out); rintro e w27 ⟨rfl, hb⟩; refine ⟨_, rfl, ?_⟩; replace BK481 := Aside0.mk (blk_below (be_ BK481.out) hb); replace HB := Aside0.mk (below_step (by repeat (first | (with_reducible first | exact HB.out | apply below_alloc | apply pw_below_drewN | apply below_drew1 | refine below_set ?_ GE481.out) | exact HB.out)) hb); (try clear hb); (try clear hb2); (try clear hk); (try clear hi); have hcz28_0 : w27.cell? ⟨gb481, 0, none⟩ = some (.slice A0_0 l0_0.length c0_0) := (blk_cell BK481.out 0).trans rfl; have hfz28_0 := blk_frozen BK481.out 0) | ((with_reducible refine gate_callee (f := 21) rfl ?_); refine gL_ (some 7) Tryd.func21 #[.agg #[.slice A0_0 l0_0.length c0_0]] ?_; (with_reducible refine (impl_IsSemigroup.calls k _ _ l0_0 false _ ?side1 ?side2 A3.out).mono ?_); (case side1 => exact ce_ ((Kd.C_below HR0_0.out HB.out))); (case side2 => exact HC0_0.out); rintro e w29 ⟨rfl, hb⟩; refine ⟨_, rfl, ?_⟩; replace BK481 := Aside0.mk (blk_below (be_ BK481.out) hb); replace HB := Aside0.mk (below_step (by repeat (first | (with_reducible first | exact HB.out | apply below_alloc | apply pw_below_drewN | apply below_drew1 | refine below_set ?_ GE481.out) | exact HB.out)) hb); (try clear hb); (try clear hb2); (try clear hk); (try clear hi)))
   go_ret
   exact ⟨by first | rfl | (simp [errW_none, errW_some] <;> rfl) | (simp [*, errW_none, errW_some] <;> rfl), by repeat (first | (with_reducible first | exact HB.out | apply below_alloc | apply pw_below_drewN | apply below_drew1 | refine below_set ?_ GE481.out) | exact HB.out)⟩
theorem spot_none_ {w : World} {a : Addr} {v : Value} (h : w.cell? a = some v) : a.spot = none := by
 unfold World.cell? at h
 cases hs : a.spot with
 | none => rfl
 | some s => split at h <;> simp [hs] at h
def impl_Join.f (k : Nat) (l : List ByteArray) (s : ByteArray) : Option ByteArray := if l.length ≤ 140737488355328 ∧ (Lib.join (l.map (·.data.toList)) s.data.toList).length ≤ 140737488355328 then some ⟨(Lib.join (l.map (·.data.toList)) s.data.toList).toArray⟩ else none
set_option maxHeartbeats 4000000 in
set_option maxRecDepth 100000 in
theorem impl_Join.calls (k : Nat) (A0 : Option Addr) (c0 : Nat) (l0 : List ByteArray) (a1 : ByteArray) (r : ByteArray) (w : World) (hr0 : Kd.C Kd.string w A0 l0.length l0) (hc0 : l0.length ≤ c0) (h : impl_Join.f k l0 a1 = some r) :
 Calls Tryd.prog 24 #[.slice A0 l0.length c0, .string a1] w fun e w' => e = .returned (.string r) ∧ Below w.heap.size w w' := by
 unfold impl_Join.f at h
 by_cases c : l0.length ≤ 140737488355328 ∧ (Lib.join (l0.map (·.data.toList)) a1.data.toList).length ≤ 140737488355328
 · rw [if_pos c] at h
   obtain rfl := Option.some.inj h
   clear h
   have key : Calls Tryd.prog 59 #[.slice A0 l0.length c0, .string a1] w fun e w' => e = .returned (.string ⟨(Lib.join (l0.map (·.data.toList)) a1.data.toList).toArray⟩) ∧ Below w.heap.size w w' := by
    rcases Nat.eq_zero_or_pos l0.length with hz | hp
    · obtain rfl := List.eq_nil_of_length_eq_zero hz
      refine (Any.strings_Join_none Tryd.lays156 Tryd.extra156 A0 c0 a1 w).mono ?_
      rintro e w' ⟨rfl, rfl⟩
      exact ⟨rfl, Below.refl _ _⟩
    · obtain ⟨ad, hA, hc1⟩ := Kd.at_string hr0 0 (by omega) (by omega)
      have hsp : ad.spot = none := by
       have := spot_none_ hc1
       simpa [Addr.add] using this
      obtain ⟨bk, off, sp⟩ := ad
      have hsp' : sp = none := hsp
      subst hsp'
      subst hA
      refine Any.strings_Join Tryd.lays156 Tryd.extra156 bk off c0 l0 a1 w ?_ (World.block_lt_of_cell? w _ hc1) c.1 hc0 c.2
      intro j y hj
      have hjl : j < l0.length := (List.getElem?_eq_some_iff.1 hj).1
      obtain ⟨ad', hA', hc2⟩ := Kd.at_string hr0 j (by omega) (by omega)
      obtain rfl := Option.some.inj hA'
      have hy : rdOf ByteArray.empty l0 (j : Int) = y := by simp [rdOf, List.getD_eq_getElem?_getD, hj]
      rw [hy, Int.toNat_natCast] at hc2
      have ha : (⟨bk, off, none⟩ : Addr).add j = ⟨bk, off + j, none⟩ := by
       unfold Addr.add
       split
       · rename_i h0; subst h0; rfl
       · rfl
      rw [ha] at hc2
      exact hc2
   have hK := Aside0.mk key
   clear key
   go_enter Tryd.func24, Tryd.ntmps24
   go_wp2_with (go_at_call 59; refine hK.out.mono ?_; rintro e w1 ⟨rfl, hb⟩; have HB1 := Aside0.mk hb; clear hb)
   go_ret
   exact ⟨rfl, HB1.out⟩
 · rw [if_neg c] at h; cases h
def digs_ : Nat → Nat → List UInt8
 | 0, u => [UInt8.ofNat (48 + u)]
 | f + 1, u => if u < 10 then [UInt8.ofNat (48 + u)] else digs_ f (u / 10) ++ [UInt8.ofNat (48 + u % 10)]
theorem digs_eq : ∀ f u, u < 10 ^ (f + 1) → Lib.decDigits u = digs_ f u := by
 intro f
 induction f with
 | zero =>
  intro u h
  rw [Lib.decDigits, dif_pos (by omega)]
  rfl
 | succ f ih =>
  intro u h
  rw [Lib.decDigits]
  unfold digs_
  split
  · rfl
  · rw [ih (u / 10) (by rw [Nat.pow_succ] at h; omega)]
theorem tab_below_ {P : Program} {w w' : World} {n : String} {k : IntKind} {zs : List Int} (h : Lib.TabIs P w n k zs) (hb : Below w.heap.size w w') : Lib.TabIs P w' n k zs := by
 unfold Lib.TabIs World.var? at h ⊢
 cases hg : P.globalNamed n with
 | none => rw [hg] at h; simp at h
 | some g =>
  rw [hg] at h
  simp only [Option.bind_some] at h ⊢
  have hlt : g < w.heap.size := by
   rcases Nat.lt_or_ge g w.heap.size with h' | h'
   · exact h'
   · rw [Array.getElem?_eq_none h'] at h; cases h
  rw [hb.block g hlt]
  exact h
theorem below_grow_ (w : World) (k : Nat) (os : Array Obj) : Below w.heap.size w (Go.Sort.grow (w.drewN k) os) :=
 ⟨rfl, rfl, rfl, by show w.heap.size ≤ (w.heap ++ os).size; rw [Array.size_append]; omega, fun j hj => by show (w.heap ++ os)[j]? = _; rw [Array.getElem?_append_left hj]⟩
def Tab_ (w : World) : Prop := Lib.TabIs Tryd.prog w "internal/strconv.uint64pow10" .u64 Lib.pow10Tab
theorem Tab_.below {w w' : World} (h : Tab_ w) (hb : Below w.heap.size w w') : Tab_ w' := tab_below_ h hb
def impl_FormatI.f (k : Nat) (n : Int) : Option ByteArray := if -1000000000000000000 < n ∧ n < 1000000000000000000 then some ⟨(if n < 0 then 45 :: digs_ 17 n.natAbs else digs_ 17 n.toNat).toArray⟩ else none
set_option maxHeartbeats 2000000 in
set_option maxRecDepth 100000 in
theorem impl_FormatI.calls (k : Nat) (a0 : Int) (r : ByteArray) (w : World) (hT : Tab_ w) (h : impl_FormatI.f k a0 = some r) :
 Calls Tryd.prog 25 #[.int .i64 a0] w fun e w' => e = .returned (.string r) ∧ Below w.heap.size w w' := by
 unfold impl_FormatI.f at h
 by_cases c : -1000000000000000000 < a0 ∧ a0 < 1000000000000000000
 · rw [if_pos c] at h
   obtain rfl := Option.some.inj h
   clear h
   have hi : Lib.itoa a0 = (if a0 < 0 then 45 :: digs_ 17 a0.natAbs else digs_ 17 a0.toNat) := by
    unfold Lib.itoa
    rw [digs_eq 17 a0.natAbs (by omega), digs_eq 17 a0.toNat (by omega)]
   rw [← hi]
   obtain ⟨y, hy⟩ : ∃ y, y = Lib.itoa a0 := ⟨_, rfl⟩
   rw [← hy]
   clear hi
   have hT' := Aside0.mk hT
   clear hT
   go_enter Tryd.func25, Tryd.ntmps25
   go_wp2_with (go_at_call 60; refine (Any.strconv_Itoa Tryd.lays171 a0 (by omega) (by omega) _ hT'.out).mono ?_; rintro e w' ⟨he, kq, os, rfl⟩; rw [← hy] at he; subst he)
   go_ret
   exact ⟨by subst hy; rfl, below_grow_ _ _ _⟩
 · rw [if_neg c] at h; cases h
def impl_GenusOf.f (k : Nat) (l0_0 : List Int) : Option (Int) := (impl_IsSemigroup.f k l0_0).bind fun t526 => (if t526 = true then ((impl_Gaps.f k l0_0).bind fun t527 => (some (t527.length : Int))) else (some (-1)))
set_option maxHeartbeats 8000000 in
set_option maxRecDepth 100000 in
theorem impl_GenusOf.calls (k : Nat) (A0_0 : Option Addr) (c0_0 : Nat) (l0_0 : List Int) (r : Int) (w : World) (hr0_0 : Kd.C (Kd.int .i64) w A0_0 l0_0.length l0_0) (hc0_0 : l0_0.length ≤ c0_0) (h : impl_GenusOf.f k l0_0 = some r) :
 Calls Tryd.prog 27 #[.agg #[.slice A0_0 l0_0.length c0_0]] w fun e w' => e = .returned (.int .i64 r) ∧ Below w.heap.size w w' := by
 have hu27 := Tryd.underlying27
 have HR0_0 := Aside0.mk hr0_0
 have HC0_0 := Aside0.mk hc0_0
 clear hr0_0 hc0_0
 have HB := Aside0.mk (Below.refl w.heap.size w)
 have H : ((impl_IsSemigroup.f k l0_0).bind fun t526 => (if t526 = true then ((impl_Gaps.f k l0_0).bind fun t527 => (some (t527.length : Int))) else (some (-1)))) = some r := h
 clear h
 replace H := Option.bind_eq_some_iff.mp H
 obtain ⟨t526, A20, H⟩ := H
 have A2 := Aside0.mk A20
 clear A20
 by_cases c3 : t526 = true
 · subst c3
   rw [if_pos rfl] at H
   replace H := Option.bind_eq_some_iff.mp H
   obtain ⟨t527, A40, H⟩ := H
   have A4 := Aside0.mk A40
   clear A40
   obtain rfl := Option.some.inj H
   go_enter Tryd.func27, Tryd.ntmps27
   go_wp2_with (first | ((with_reducible refine gate_dst (N := 1) rfl ?_); refine box_event ?hg (N := 1) ?hd (cs := #[.slice A0_0 l0_0.length c0_0]) (t := 27) ?hr ?_; (case hd => rfl); (case hg => rfl); (case hr => first | (go_simp; done) | (go_simp; rfl)); intro gb525 hg w5 hbox hb; have BK525 := Aside0.mk (hbox); have GW525 := Aside0.mk ((by rw [hg]; exact (below_size (bl_ HB.out)) : w.heap.size ≤ gb525)); have GE525 := Aside0.mk ((by rw [hg]; exact (below_size (bl_ HB.out)) : w.heap.size ≤ gb525)); replace HB := Aside0.mk (below_step (bl_ HB.out) hb); clear hb hbox hg; have hcz6_0 : w5.cell? ⟨gb525, 0, none⟩ = some (.slice A0_0 l0_0.length c0_0) := (blk_cell BK525.out 0).trans rfl; have hfz6_0 := blk_frozen BK525.out 0) | ((with_reducible refine gate_callee (f := 21) rfl ?_); refine gL_ (some 4) Tryd.func21 #[.agg #[.slice A0_0 l0_0.length c0_0]] ?_; (with_reducible refine (impl_IsSemigroup.calls k _ _ l0_0 true _ ?side1 ?side2 A2.out).mono ?_); (case side1 => exact ce_ ((Kd.C_below HR0_0.out HB.out))); (case side2 => exact HC0_0.out); rintro e w7 ⟨rfl, hb⟩; refine ⟨_, rfl, ?_⟩; replace BK525 := Aside0.mk (blk_below (be_ BK525.out) hb); replace HB := Aside0.mk (below_step (by repeat (first | (with_reducible first | exact HB.out | apply below_alloc | apply pw_below_drewN | apply below_drew1 | refine below_set ?_ GE525.out) | exact HB.out)) hb); (try clear hb); (try clear hb2); (try clear hk); (try clear hi); have hcz8_0 : w7.cell? ⟨gb525, 0, none⟩ = some (.slice A0_0 l0_0.length c0_0) := (blk_cell BK525.out 0).trans rfl; have hfz8_0 := blk_frozen BK525.out 0) | ((with_reducible refine gate_callee (f := 61) rfl ?_); refine gL_ (some 7) Tryd.func61 #[.agg #[.slice A0_0 l0_0.length c0_0]] ?_; (with_reducible refine (impl_Gaps.calls k _ _ l0_0 t527 _ ?side1 ?side2 A4.out).mono ?_); (case side1 => exact ce_ ((Kd.C_below HR0_0.out HB.out))); (case side2 => exact HC0_0.out); rintro e w9 ⟨v528, rfl, ho0, hb⟩; refine ⟨_, rfl, ?_⟩; have HO529 := Aside0.mk (Kd.R_lower ho0 (below_size (by repeat (first | (with_reducible first | exact HB.out | apply below_alloc | apply pw_below_drewN | apply below_drew1 | refine below_set ?_ GE525.out) | exact HB.out)))); replace BK525 := Aside0.mk (blk_below (be_ BK525.out) hb); replace HB := Aside0.mk (below_step (by repeat (first | (with_reducible first | exact HB.out | apply below_alloc | apply pw_below_drewN | apply below_drew1 | refine below_set ?_ GE525.out) | exact HB.out)) hb); (try clear hb); (try clear hb2); (try clear hk); (try clear hi); (try clear ho0); obtain ⟨Ao10, co10, eo10⟩ := Kd.R_slice HO529.out; subst eo10))
   go_ret
   exact ⟨by first | rfl | (simp [errW_none, errW_some] <;> rfl) | (simp [*, errW_none, errW_some] <;> rfl), by repeat (first | (with_reducible first | exact HB.out | apply below_alloc | apply pw_below_drewN | apply below_drew1 | refine below_set ?_ GE525.out) | exact HB.out)⟩
 · replace c3 := Bool.eq_false_iff.mpr c3
   subst c3
   rw [if_neg (show ¬ (false = true) by decide)] at H
   obtain rfl := Option.some.inj H
   go_enter Tryd.func27, Tryd.ntmps27
   go_wp2_with (first | ((with_reducible refine gate_dst (N := 1) rfl ?_); refine box_event ?hg (N := 1) ?hd (cs := #[.slice A0_0 l0_0.length c0_0]) (t := 27) ?hr ?_; (case hd => rfl); (case hg => rfl); (case hr => first | (go_simp; done) | (go_simp; rfl)); intro gb525 hg w11 hbox hb; have BK525 := Aside0.mk (hbox); have GW525 := Aside0.mk ((by rw [hg]; exact (below_size (bl_ HB.out)) : w.heap.size ≤ gb525)); have GE525 := Aside0.mk ((by rw [hg]; exact (below_size (bl_ HB.out)) : w.heap.size ≤ gb525)); replace HB := Aside0.mk (below_step (bl_ HB.out) hb); clear hb hbox hg; have hcz12_0 : w11.cell? ⟨gb525, 0, none⟩ = some (.slice A0_0 l0_0.length c0_0) := (blk_cell BK525.out 0).trans rfl; have hfz12_0 := blk_frozen BK525.out 0) | ((with_reducible refine gate_callee (f := 21) rfl ?_); refine gL_ (some 4) Tryd.func21 #[.agg #[.slice A0_0 l0_0.length c0_0]] ?_; (with_reducible refine (impl_IsSemigroup.calls k _ _ l0_0 false _ ?side1 ?side2 A2.out).mono ?_); (case side1 => exact ce_ ((Kd.C_below HR0_0.out HB.out))); (case side2 => exact HC0_0.out); rintro e w13 ⟨rfl, hb⟩; refine ⟨_, rfl, ?_⟩; replace BK525 := Aside0.mk (blk_below (be_ BK525.out) hb); replace HB := Aside0.mk (below_step (by repeat (first | (with_reducible first | exact HB.out | apply below_alloc | apply pw_below_drewN | apply below_drew1 | refine below_set ?_ GE525.out) | exact HB.out)) hb); (try clear hb); (try clear hb2); (try clear hk); (try clear hi)))
   go_ret
   exact ⟨by first | rfl | (simp [errW_none, errW_some] <;> rfl) | (simp [*, errW_none, errW_some] <;> rfl), by repeat (first | (with_reducible first | exact HB.out | apply below_alloc | apply pw_below_drewN | apply below_drew1 | refine below_set ?_ GE525.out) | exact HB.out)⟩
end Go.Proofs.YtjjajcldmkmgkaaDoor.PA
end
section
namespace Go.Proofs.YtjjajcldmkmgkaaDoor.PA
open Go.RowKit Go.Proofs.YtjjajcldmkmgkaaDoorW.PrintWords Go.Proofs.YtjjajcldmkmgkaaDoorW.PrintLast Go.Proofs.YtjjajcldmkmgkaaDoorW.PrintMore
attribute [local go_sem] max2_int min2_int max_two min_two max_three min_three max_four min_four
set_option linter.unusedVariables false
set_option linter.unusedSimpArgs false
mutual
def impl_PseudoFrobenius.l0 : Nat → List Int → List Bool → List Int → Int → Int → List Int → Option (List Int)
 | 0, _, _, _, _, _, _ => none
 | k + 1, x3, x4, x17, x18, x19, x531000 => if x19 < x18 then (if 0 ≤ x19 then (if x19 < (x17.length : Int) then (impl_PseudoFrobenius.l1 k x3 x4 (rd x17 x19) true x17 x18 x19 x531000 (x531000.length : Int) 0 x531000) else (none)) else (none)) else (some x3)
def impl_PseudoFrobenius.l1 : Nat → List Int → List Bool → Int → Bool → List Int → Int → Int → List Int → Int → Int → List Int → Option (List Int)
 | 0, _, _, _, _, _, _, _, _, _, _, _ => none
 | k + 1, x3, x4, x6, x7, x17, x18, x19, x24, x25, x26, x531000 => if x26 < x25 then (if 0 ≤ x26 then (if x26 < (x24.length : Int) then (if x7 = true then (if 0 ≤ (wrap64 (x6 + (rd x24 x26))) then (if (wrap64 (x6 + (rd x24 x26))) < (x4.length : Int) then (impl_PseudoFrobenius.l1 k x3 x4 x6 (rdOf false x4 (wrap64 (x6 + (rd x24 x26)))) x17 x18 x19 x24 x25 (wrap64 (x26 + 1)) x531000) else (none)) else (none)) else (impl_PseudoFrobenius.l1 k x3 x4 x6 false x17 x18 x19 x24 x25 (wrap64 (x26 + 1)) x531000)) else (none)) else (none)) else (if x7 = true then (if x3.length < 17592186044416 then (impl_PseudoFrobenius.l0 k (x3 ++ [x6]) x4 x17 x18 (wrap64 (x19 + 1)) x531000) else (none)) else (impl_PseudoFrobenius.l0 k x3 x4 x17 x18 (wrap64 (x19 + 1)) x531000))
end
def impl_PseudoFrobenius.f (k : Nat) (l0_0 : List Int) : Option (List Int) := (impl_IsSemigroup.f k l0_0).bind fun t531 => (if t531 = true then ((impl_table.f k l0_0 260).bind fun t535 => ((impl_Gaps.f k l0_0).bind fun t538 => (impl_PseudoFrobenius.l0 k (([] : List Int)) t535 t538 (t538.length : Int) 0 l0_0))) else (some ([] : List Int)))
set_option maxHeartbeats 8000000 in
set_option maxRecDepth 100000 in
theorem impl_PseudoFrobenius.calls (k : Nat) (A0_0 : Option Addr) (c0_0 : Nat) (l0_0 : List Int) (r : List Int) (w : World) (hr0_0 : Kd.C (Kd.int .i64) w A0_0 l0_0.length l0_0) (hc0_0 : l0_0.length ≤ c0_0) (h : impl_PseudoFrobenius.f k l0_0 = some r) :
 Calls Tryd.prog 62 #[.agg #[.slice A0_0 l0_0.length c0_0]] w fun e w' => ∃ v0_ : Value, e = .returned (v0_) ∧ Kd.R (Kd.int .i64) 3 w' w.heap.size (fun _ => True) v0_ r ∧ Below w.heap.size w w' := by
 have hu27 := Tryd.underlying27
 have HR0_0 := Aside0.mk hr0_0
 have HC0_0 := Aside0.mk hc0_0
 clear hr0_0 hc0_0
 have HB := Aside0.mk (Below.refl w.heap.size w)
 have H : ((impl_IsSemigroup.f k l0_0).bind fun t531 => (if t531 = true then ((impl_table.f k l0_0 260).bind fun t535 => ((impl_Gaps.f k l0_0).bind fun t538 => (impl_PseudoFrobenius.l0 k (([] : List Int)) t535 t538 (t538.length : Int) 0 l0_0))) else (some ([] : List Int)))) = some r := h
 clear h
 replace H := Option.bind_eq_some_iff.mp H
 obtain ⟨t531, A20, H⟩ := H
 have A2 := Aside0.mk A20
 clear A20
 by_cases c3 : t531 = true
 · subst c3
   rw [if_pos rfl] at H
   obtain ⟨y532, hy532⟩ : ∃ y_ : List Int, y_ = (([] : List Int)) := ⟨_, rfl⟩
   replace H : ((impl_table.f k l0_0 260).bind fun t535 => ((impl_Gaps.f k l0_0).bind fun t538 => (impl_PseudoFrobenius.l0 k y532 t535 t538 (t538.length : Int) 0 l0_0))) = some r := by subst hy532; exact H
   have Ny532 := Aside0.mk hy532
   clear hy532
   replace H := Option.bind_eq_some_iff.mp H
   obtain ⟨t535, A40, H⟩ := H
   have A4 := Aside0.mk A40
   clear A40
   replace H := Option.bind_eq_some_iff.mp H
   obtain ⟨t538, A50, H⟩ := H
   have A5 := Aside0.mk A50
   clear A50
   have H' := Aside0.mk H
   clear H
   go_enter Tryd.func62, Tryd.ntmps62
   go_wp2_with (first | ((with_reducible refine gate_dst (N := 1) rfl ?_); refine box_event ?hg (N := 1) ?hd (cs := #[.slice A0_0 l0_0.length c0_0]) (t := 27) ?hr ?_; (case hd => rfl); (case hg => rfl); (case hr => first | (go_simp; done) | (go_simp; rfl)); intro gb530 hg w6 hbox hb; have BK530 := Aside0.mk (hbox); have GW530 := Aside0.mk ((by rw [hg]; exact (below_size (bl_ HB.out)) : w.heap.size ≤ gb530)); have GE530 := Aside0.mk ((by rw [hg]; exact (below_size (bl_ HB.out)) : w.heap.size ≤ gb530)); replace HB := Aside0.mk (below_step (bl_ HB.out) hb); clear hb hbox hg; have hcz7_0 : w6.cell? ⟨gb530, 0, none⟩ = some (.slice A0_0 l0_0.length c0_0) := (blk_cell BK530.out 0).trans rfl; have hfz7_0 := blk_frozen BK530.out 0) | ((with_reducible refine gate_callee (f := 21) rfl ?_); refine gL_ (some 11) Tryd.func21 #[.agg #[.slice A0_0 l0_0.length c0_0]] ?_; (with_reducible refine (impl_IsSemigroup.calls k _ _ l0_0 true _ ?side1 ?side2 A2.out).mono ?_); (case side1 => exact ce_ ((Kd.C_below HR0_0.out HB.out))); (case side2 => exact HC0_0.out); rintro e w8 ⟨rfl, hb⟩; refine ⟨_, rfl, ?_⟩; replace BK530 := Aside0.mk (blk_below (be_ BK530.out) hb); replace HB := Aside0.mk (below_step (by repeat (first | (with_reducible first | exact HB.out | apply below_alloc | apply pw_below_drewN | apply below_drew1 | refine below_set ?_ GE530.out) | exact HB.out)) hb); (try clear hb); (try clear hb2); (try clear hk); (try clear hi)) | ((with_reducible refine gate_dst (N := 13) rfl ?_); refine Kd.R_lit (Kd.int .i64) _ 3 ?hg (N := 13) ?hd (xs := ([] : List Int)) (inner := []) (ok := fun _ => True) (okp := fun _ => True) ?hr ?hp (fun _ hk => hk) trivial (Below.refl _ _) (Nat.le_refl _) (by simp) ?_; (case hd => rfl); (case hg => rfl); (case hr => first | (go_simp; done) | (go_simp; rfl)); (case hp => exact (Reps.none _ _)); intro v533 w9 ho10 hb hg_ hnew_; clear hg_ hnew_; (first | rw [← Ny532.out] at ho10 | (simp only [Int.reduceToNat] at ho10; rw [← Ny532.out] at ho10)); have HO534 := Aside0.mk (Kd.R_lower ho10 (below_size (by repeat (first | (with_reducible first | exact HB.out | apply below_alloc | apply pw_below_drewN | apply below_drew1 | refine below_set ?_ GE530.out) | exact HB.out)))); replace BK530 := Aside0.mk (blk_below (be_ BK530.out) hb); replace HB := Aside0.mk (below_step (by repeat (first | (with_reducible first | exact HB.out | apply below_alloc | apply pw_below_drewN | apply below_drew1 | refine below_set ?_ GE530.out) | exact HB.out)) hb); clear hb ho10; have hcz11_0 : w9.cell? ⟨gb530, 0, none⟩ = some (.slice A0_0 l0_0.length c0_0) := (blk_cell BK530.out 0).trans rfl; have hfz11_0 := blk_frozen BK530.out 0) | ((with_reducible refine gate_callee (f := 64) rfl ?_); refine gL_ (some 15) Tryd.func64 #[.agg #[.slice A0_0 l0_0.length c0_0], .int .i64 260] ?_; (with_reducible refine (impl_table.calls k _ _ l0_0 260 t535 _ ?side1 ?side2 A4.out).mono ?_); (case side1 => exact ce_ ((Kd.C_below HR0_0.out HB.out))); (case side2 => exact HC0_0.out); rintro e w12 ⟨v536, rfl, ho0, hb⟩; refine ⟨_, rfl, ?_⟩; replace HO534 := Aside0.mk (Kd.R_below (re_ HO534.out) hb); have HO537 := Aside0.mk (Kd.R_lower ho0 (below_size (by repeat (first | (with_reducible first | exact HB.out | apply below_alloc | apply pw_below_drewN | apply below_drew1 | refine below_set ?_ GE530.out) | exact HB.out)))); replace BK530 := Aside0.mk (blk_below (be_ BK530.out) hb); replace HB := Aside0.mk (below_step (by repeat (first | (with_reducible first | exact HB.out | apply below_alloc | apply pw_below_drewN | apply below_drew1 | refine below_set ?_ GE530.out) | exact HB.out)) hb); (try clear hb); (try clear hb2); (try clear hk); (try clear hi); (try clear ho0); have hcz13_0 : w12.cell? ⟨gb530, 0, none⟩ = some (.slice A0_0 l0_0.length c0_0) := (blk_cell BK530.out 0).trans rfl; have hfz13_0 := blk_frozen BK530.out 0) | ((with_reducible refine gate_callee (f := 61) rfl ?_); refine gL_ (some 17) Tryd.func61 #[.agg #[.slice A0_0 l0_0.length c0_0]] ?_; (with_reducible refine (impl_Gaps.calls k _ _ l0_0 t538 _ ?side1 ?side2 A5.out).mono ?_); (case side1 => exact ce_ ((Kd.C_below HR0_0.out HB.out))); (case side2 => exact HC0_0.out); rintro e w14 ⟨v539, rfl, ho0, hb⟩; refine ⟨_, rfl, ?_⟩; replace HO537 := Aside0.mk (Kd.R_below (re_ HO537.out) hb); have HO540 := Aside0.mk (Kd.R_lower (Kd.R_new' ho0 (Kd.R_lt (re_ HO534.out))) (below_size (by repeat (first | (with_reducible first | exact HB.out | apply below_alloc | apply pw_below_drewN | apply below_drew1 | refine below_set ?_ GE530.out) | exact HB.out)))); replace HO534 := Aside0.mk (Kd.R_elder' (re_ HO534.out) (Kd.R_base ho0) hb); replace BK530 := Aside0.mk (blk_below (be_ BK530.out) hb); replace HB := Aside0.mk (below_step (by repeat (first | (with_reducible first | exact HB.out | apply below_alloc | apply pw_below_drewN | apply below_drew1 | refine below_set ?_ GE530.out) | exact HB.out)) hb); (try clear hb); (try clear hb2); (try clear hk); (try clear hi); (try clear ho0); obtain ⟨Ao15, co15, eo15⟩ := Kd.R_slice HO540.out; subst eo15))
   go_loopg [3, 19] k (fun kq v3 v19 w' => ∃ (x3_1 : List Int) (x19_1 : Int), v19 = .int .i64 x19_1 ∧ Aside0 (impl_PseudoFrobenius.l0 kq x3_1 t535 t538 (t538.length : Int) x19_1 l0_0 = some r) ∧ Aside0 (kq ≤ k) ∧ Aside0 (Kd.R (Kd.int .i64) 3 w' w.heap.size (fun k_ => some k_ ≠ ((.slice Ao15 t538.length co15) : Value).ownBlock) v3 x3_1) ∧ Aside0 (Kd.R Kd.bool 4 w' w.heap.size (fun _ => True) v536 t535) ∧ Aside0 (Kd.R (Kd.int .i64) 3 w' w.heap.size (fun k_ => some k_ ≠ (v3 : Value).ownBlock) (.slice Ao15 t538.length co15) t538) ∧ Aside0 (w'.heap[gb530]? = some (.cells #[(.slice A0_0 l0_0.length c0_0)] 27 (0, 0))) ∧ Aside0 (Below w.heap.size w w'))
   case atStart => exact ⟨(y532), (0), (by first | rfl | (simp; done) | (simp [*]; done)), H', ⟨Nat.le_refl _⟩, ⟨by (with_reducible repeat (first | apply Kd.R_alloc | apply Kd.R_drewN | apply Kd.R_drew)); exact Kd.R_mono HO534.out (fun _ hk => hk.2)⟩, ⟨re_ HO537.out⟩, ⟨by (with_reducible repeat (first | apply Kd.R_alloc | apply Kd.R_drewN | apply Kd.R_drew)); exact Kd.R_mono HO540.out (fun _ hk => hk.2)⟩, ⟨be_ BK530.out⟩, ⟨by repeat (first | (with_reducible first | exact HB.out | apply below_alloc | apply pw_below_drewN | apply below_drew1 | refine below_set ?_ GE530.out) | exact HB.out)⟩⟩
   case round =>
    clear H'
    try clear c2
    try clear p2
    try clear c3
    try clear c6
    try clear hcz11_0
    try clear hcz13_0
    try clear hcz7_0
    try clear hfz11_0
    try clear hfz13_0
    try clear hfz7_0
    obtain ⟨x3_1, x19_1, rfl, HA, HK1, HO_3, HO_4, HO_17, BK530, HB⟩ := hrel
    cases gk with
    | zero => exact absurd HA.out (by simp [impl_PseudoFrobenius.l0])
    | succ k1 =>
     have H := HA.out
     clear HA
     simp only [impl_PseudoFrobenius.l0] at H
     by_cases c16 : x19_1 < (t538.length : Int)
     · rw [if_pos c16] at H
       have c16b0 : decide (x19_1 < (t538.length : Int)) = true := decide_eq_true c16
       clear c16
       by_cases c17 : 0 ≤ x19_1
       · rw [if_pos c17] at H
         have c17b0 : decide (0 ≤ x19_1) = true := decide_eq_true c17
         clear c17
         by_cases c18 : x19_1 < (t538.length : Int)
         · rw [if_pos c18] at H
           have c18b0 : decide (x19_1 < (t538.length : Int)) = true := decide_eq_true c18
           clear c18
           have H' := Aside0.mk H
           clear H
           have p541 : 0 ≤ (x19_1 : Int) := od_
           have q541 : x19_1 < (t538.length : Int) := od_
           obtain ⟨ad541, e541, hx541_0⟩ := Kd.at_int (Kd.R_reads' HO_17.out).2.2 x19_1 p541 q541
           cases e541
           replace p541 := eq_true p541
           replace q541 := eq_true q541
           have hcz19_0 : wr.cell? ⟨gb530, 0, none⟩ = some (.slice A0_0 l0_0.length c0_0) := (blk_cell BK530.out 0).trans rfl
           have hfz19_0 := blk_frozen BK530.out 0
           go_wp2
           go_loopg [7, 26] k1 (fun kq v7 v26 w' => ∃ (x7_2 : Bool) (x26_2 : Int), v7 = .bool x7_2 ∧ v26 = .int .i64 x26_2 ∧ Aside0 (impl_PseudoFrobenius.l1 kq x3_1 t535 (rd t538 x19_1) x7_2 t538 (t538.length : Int) x19_1 l0_0 (l0_0.length : Int) x26_2 l0_0 = some r) ∧ Aside0 (kq ≤ k1) ∧ Aside0 (Kd.R (Kd.int .i64) 3 w' w.heap.size (fun k_ => some k_ ≠ ((.slice (some ad541) t538.length co15) : Value).ownBlock) u3 x3_1) ∧ Aside0 (Kd.R Kd.bool 4 w' w.heap.size (fun _ => True) v536 t535) ∧ Aside0 (Kd.R (Kd.int .i64) 3 w' w.heap.size (fun k_ => some k_ ≠ (u3 : Value).ownBlock) (.slice (some ad541) t538.length co15) t538) ∧ Aside0 (w'.heap[gb530]? = some (.cells #[(.slice A0_0 l0_0.length c0_0)] 27 (0, 0))) ∧ Aside0 (Below w.heap.size w w'))
           case atStart => exact ⟨(true), (0), (by first | rfl | (simp; done) | (simp [*]; done)), (by first | rfl | (simp; done) | (simp [*]; done)), H', ⟨Nat.le_refl _⟩, ⟨re_ HO_3.out⟩, ⟨re_ HO_4.out⟩, ⟨re_ HO_17.out⟩, ⟨be_ BK530.out⟩, ⟨by repeat (first | (with_reducible first | exact HB.out | apply below_alloc | apply pw_below_drewN | apply below_drew1 | refine below_set ?_ GE530.out) | exact HB.out)⟩⟩
           case round =>
            clear H'
            try clear c1
            try clear c2
            try clear p2
            try clear c3
            try clear p5
            try clear q5
            try clear hx5
            try clear c6
            try clear c16
            try clear c16b0
            try clear c17
            try clear c17b0
            try clear c18
            try clear c18b0
            try clear hcz11_0
            try clear hcz13_0
            try clear hcz19_0
            try clear hcz7_0
            try clear hfz11_0
            try clear hfz13_0
            try clear hfz19_0
            try clear hfz7_0
            try clear hx541_0
            try clear p2
            try clear p541
            try clear q541
            obtain ⟨x7_2, x26_2, rfl, rfl, HA, HK2, HO_3, HO_4, HO_17, BK530, HB⟩ := hrel
            cases gk with
            | zero => exact absurd HA.out (by simp [impl_PseudoFrobenius.l1])
            | succ k2 =>
             have H := HA.out
             clear HA
             simp only [impl_PseudoFrobenius.l1] at H
             by_cases c20 : x26_2 < (l0_0.length : Int)
             · rw [if_pos c20] at H
               have c20b0 : decide (x26_2 < (l0_0.length : Int)) = true := decide_eq_true c20
               clear c20
               by_cases c21 : 0 ≤ x26_2
               · rw [if_pos c21] at H
                 have c21b0 : decide (0 ≤ x26_2) = true := decide_eq_true c21
                 clear c21
                 by_cases c22 : x26_2 < (l0_0.length : Int)
                 · rw [if_pos c22] at H
                   have c22b0 : decide (x26_2 < (l0_0.length : Int)) = true := decide_eq_true c22
                   clear c22
                   by_cases c23 : x7_2 = true
                   · subst c23
                     rw [if_pos rfl] at H
                     obtain ⟨ji24, hji24⟩ : ∃ j_ : Int, (wrap64 ((rd t538 x19_1) + (rd l0_0 x26_2))) = j_ := ⟨_, rfl⟩
                     replace H : (if 0 ≤ (ji24) then (if (ji24) < (t535.length : Int) then (impl_PseudoFrobenius.l1 k2 x3_1 t535 (rd t538 x19_1) (rdOf false t535 (ji24)) t538 (t538.length : Int) x19_1 l0_0 (l0_0.length : Int) (wrap64 (x26_2 + 1)) l0_0) else (none)) else (none)) = some r := by first | (rw [hji24] at H; exact H) | (simp only [hji24] at H ⊢; exact H)
                     have hji24w : (IntKind.i64.wrap ((rd t538 x19_1) + (rd l0_0 x26_2))) = ji24 := (i64_w _).trans hji24
                     by_cases c25 : 0 ≤ (ji24)
                     · rw [if_pos c25] at H
                       have c25b0 : decide (0 ≤ (ji24)) = true := decide_eq_true c25
                       clear c25
                       by_cases c26 : (ji24) < (t535.length : Int)
                       · rw [if_pos c26] at H
                         have c26b0 : decide ((ji24) < (t535.length : Int)) = true := decide_eq_true c26
                         clear c26
                         have H' := Aside0.mk H
                         clear H
                         have p542 : 0 ≤ (x26_2 : Int) := od_
                         have q542 : x26_2 < (l0_0.length : Int) := od_
                         obtain ⟨ad542, e542, hx542_0⟩ := Kd.at_int HR0_0.out x26_2 p542 q542
                         cases e542
                         (try replace hx542_0 := (HB.out.cell (World.block_lt_of_cell? w _ hx542_0)).trans hx542_0)
                         replace p542 := eq_true p542
                         replace q542 := eq_true q542
                         obtain ⟨Ao27, co27, eo27⟩ := Kd.R_slice HO_4.out
                         subst eo27
                         have p543 : 0 ≤ ((ji24) : Int) := od_
                         have q543 : (ji24) < (t535.length : Int) := od_
                         obtain ⟨ad543, e543, hx543_0⟩ := Kd.at_bool (Kd.R_reads' HO_4.out).2.2 (ji24) p543 q543
                         cases e543
                         replace p543 := eq_true p543
                         replace q543 := eq_true q543
                         go_wp2
                         go_roundg k2
                         case measure => have := HK1.out; have := HK2.out; omega
                         case rel => exact ⟨(rdOf false t535 (ji24)), (wrap64 (x26_2 + 1)), (by first | rfl | (simp; done) | (simp only [← hji24] <;> (first | rfl | simp)) | (simp [*]; done)), (by first | rfl | (simp; done) | (simp [*]; done)), H', ⟨by have := HK1.out; have := HK2.out; omega⟩, ⟨re_ HO_3.out⟩, ⟨re_ HO_4.out⟩, ⟨re_ HO_17.out⟩, ⟨be_ BK530.out⟩, ⟨by repeat (first | (with_reducible first | exact HB.out | apply below_alloc | apply pw_below_drewN | apply below_drew1 | refine below_set ?_ GE530.out) | exact HB.out)⟩⟩
                       · rw [if_neg c26] at H
                         exact absurd H (by simp)
                     · rw [if_neg c25] at H
                       exact absurd H (by simp)
                   · replace c23 := Bool.eq_false_iff.mpr c23
                     subst c23
                     rw [if_neg (show ¬ (false = true) by decide)] at H
                     have H' := Aside0.mk H
                     clear H
                     have p542 : 0 ≤ (x26_2 : Int) := od_
                     have q542 : x26_2 < (l0_0.length : Int) := od_
                     obtain ⟨ad542, e542, hx542_0⟩ := Kd.at_int HR0_0.out x26_2 p542 q542
                     cases e542
                     (try replace hx542_0 := (HB.out.cell (World.block_lt_of_cell? w _ hx542_0)).trans hx542_0)
                     replace p542 := eq_true p542
                     replace q542 := eq_true q542
                     go_wp2
                     go_roundg k2
                     case measure => have := HK1.out; have := HK2.out; omega
                     case rel => exact ⟨(false), (wrap64 (x26_2 + 1)), (by first | rfl | (simp; done) | (simp [*]; done)), (by first | rfl | (simp; done) | (simp [*]; done)), H', ⟨by have := HK1.out; have := HK2.out; omega⟩, ⟨re_ HO_3.out⟩, ⟨re_ HO_4.out⟩, ⟨re_ HO_17.out⟩, ⟨be_ BK530.out⟩, ⟨by repeat (first | (with_reducible first | exact HB.out | apply below_alloc | apply pw_below_drewN | apply below_drew1 | refine below_set ?_ GE530.out) | exact HB.out)⟩⟩
                 · rw [if_neg c22] at H
                   exact absurd H (by simp)
               · rw [if_neg c21] at H
                 exact absurd H (by simp)
             · rw [if_neg c20] at H
               have c20b0 : decide (x26_2 < (l0_0.length : Int)) = false := decide_eq_false c20
               clear c20
               by_cases c28 : x7_2 = true
               · subst c28
                 rw [if_pos rfl] at H
                 by_cases c29 : x3_1.length < 17592186044416
                 · rw [if_pos c29] at H
                   have LMc29 := Aside0.mk c29
                   clear c29
                   obtain ⟨y544, hy544⟩ : ∃ y_ : List Int, y_ = (x3_1 ++ [(rd t538 x19_1)]) := ⟨_, rfl⟩
                   replace H : (impl_PseudoFrobenius.l0 k2 y544 t535 t538 (t538.length : Int) (wrap64 (x19_1 + 1)) l0_0) = some r := by subst hy544; exact H
                   have Ny544 := Aside0.mk hy544
                   clear hy544
                   have H' := Aside0.mk H
                   clear H
                   go_wp2_with (first | ((with_reducible refine gate_builtin (b := .append) (xs := #[.tmp 41, .tmp 43]) rfl ?_); at_builtin; refine Kd.R_append (Kd.int .i64) (w0 := w) w.heap.size rfl (.tmp 41) (.tmp 43) 22 3 (.int .i64 0) 8 rfl Tryd.underlying22 info3 rfl (by decide) (by omega) u3 x3_1 (rd t538 x19_1) [.int .i64 (rd t538 x19_1)] (fun k_ => some k_ ≠ (.slice (some ad541) t538.length co15 : Value).ownBlock) (fun _ => False) rfl rfl ?aP (fun _ hk => hk.elim) ?aF ?aO ?aB ?aS ?aL ?_; (case aP => exact rfl); (case aB => exact (by repeat (first | (with_reducible first | exact HB.out | apply below_alloc | apply pw_below_drewN | apply below_drew1 | refine below_set ?_ GE530.out) | exact HB.out))); (case aF => exact (fun k_ hk => Kd.fresh' (Kd.R_lt (re_ HO_17.out)) k_ hk)); (case aO => exact (re_ HO_3.out)); (case aS => exact (below_size (by repeat (first | (with_reducible first | exact HB.out | apply below_alloc | apply pw_below_drewN | apply below_drew1 | refine below_set ?_ GE530.out) | exact HB.out)))); (case aL => have := LMc29.out; omega); intro v545 w30 ho hb hg hat; rw [← Ny544.out] at ho; replace HO_4 := Aside0.mk (Kd.R_over' (re_ HO_4.out) (Kd.R_typed (re_ HO_3.out)) (by decide) hg); replace HO_17 := Aside0.mk (Kd.R_after (ok := (fun _ => True)) (by (with_reducible repeat (first | apply Kd.R_alloc | apply Kd.R_drewN | apply Kd.R_drew)); exact Kd.R_mono HO_17.out (fun _ hk => ⟨trivial, hk⟩)) hg hat); replace BK530 := Aside0.mk (blk_grown (be_ BK530.out) hg (Kd.R_ne HO_3.out BK530.out (by decide))); replace HB := Aside0.mk (hb); have HO546 := Aside0.mk (ho); clear HO_3; clear ho hb hg hat))
                   go_roundg k2
                   case measure => have := HK1.out; have := HK2.out; omega
                   case rel => exact ⟨(y544), (wrap64 (x19_1 + 1)), (by first | rfl | (simp; done) | (simp [*]; done)), H', ⟨by have := HK1.out; have := HK2.out; omega⟩, ⟨re_ HO546.out⟩, ⟨re_ HO_4.out⟩, ⟨by (with_reducible repeat (first | apply Kd.R_alloc | apply Kd.R_drewN | apply Kd.R_drew)); exact Kd.R_mono HO_17.out (fun _ hk => hk.2)⟩, ⟨be_ BK530.out⟩, ⟨by repeat (first | (with_reducible first | exact HB.out | apply below_alloc | apply pw_below_drewN | apply below_drew1 | refine below_set ?_ GE530.out) | exact HB.out)⟩⟩
                 · rw [if_neg c29] at H
                   exact absurd H (by simp)
               · replace c28 := Bool.eq_false_iff.mpr c28
                 subst c28
                 rw [if_neg (show ¬ (false = true) by decide)] at H
                 have H' := Aside0.mk H
                 clear H
                 go_wp2
                 go_roundg k2
                 case measure => have := HK1.out; have := HK2.out; omega
                 case rel => exact ⟨(x3_1), (wrap64 (x19_1 + 1)), (by first | rfl | (simp; done) | (simp [*]; done)), H', ⟨by have := HK1.out; have := HK2.out; omega⟩, ⟨re_ HO_3.out⟩, ⟨re_ HO_4.out⟩, ⟨re_ HO_17.out⟩, ⟨be_ BK530.out⟩, ⟨by repeat (first | (with_reducible first | exact HB.out | apply below_alloc | apply pw_below_drewN | apply below_drew1 | refine below_set ?_ GE530.out) | exact HB.out)⟩⟩
         · rw [if_neg c18] at H
           exact absurd H (by simp)
       · rw [if_neg c17] at H
         exact absurd H (by simp)
     · rw [if_neg c16] at H
       have c16b0 : decide (x19_1 < (t538.length : Int)) = false := decide_eq_false c16
       clear c16
       obtain rfl := Option.some.inj H
       go_wp2
       go_ret
       exact ⟨_, by first | rfl | (simp [errW_none, errW_some] <;> rfl) | (simp [*, errW_none, errW_some] <;> rfl), by (with_reducible repeat (first | apply Kd.R_alloc | apply Kd.R_drewN | apply Kd.R_drew)); exact Kd.R_mono HO_3.out (fun _ hk => trivial), by repeat (first | (with_reducible first | exact HB.out | apply below_alloc | apply pw_below_drewN | apply below_drew1 | refine below_set ?_ GE530.out) | exact HB.out)⟩
 · replace c3 := Bool.eq_false_iff.mpr c3
   subst c3
   rw [if_neg (show ¬ (false = true) by decide)] at H
   obtain rfl := Option.some.inj H
   go_enter Tryd.func62, Tryd.ntmps62
   go_wp2_with (first | ((with_reducible refine gate_dst (N := 1) rfl ?_); refine box_event ?hg (N := 1) ?hd (cs := #[.slice A0_0 l0_0.length c0_0]) (t := 27) ?hr ?_; (case hd => rfl); (case hg => rfl); (case hr => first | (go_simp; done) | (go_simp; rfl)); intro gb530 hg w31 hbox hb; have BK530 := Aside0.mk (hbox); have GW530 := Aside0.mk ((by rw [hg]; exact (below_size (bl_ HB.out)) : w.heap.size ≤ gb530)); have GE530 := Aside0.mk ((by rw [hg]; exact (below_size (bl_ HB.out)) : w.heap.size ≤ gb530)); replace HB := Aside0.mk (below_step (bl_ HB.out) hb); clear hb hbox hg; have hcz32_0 : w31.cell? ⟨gb530, 0, none⟩ = some (.slice A0_0 l0_0.length c0_0) := (blk_cell BK530.out 0).trans rfl; have hfz32_0 := blk_frozen BK530.out 0) | ((with_reducible refine gate_callee (f := 21) rfl ?_); refine gL_ (some 11) Tryd.func21 #[.agg #[.slice A0_0 l0_0.length c0_0]] ?_; (with_reducible refine (impl_IsSemigroup.calls k _ _ l0_0 false _ ?side1 ?side2 A2.out).mono ?_); (case side1 => exact ce_ ((Kd.C_below HR0_0.out HB.out))); (case side2 => exact HC0_0.out); rintro e w33 ⟨rfl, hb⟩; refine ⟨_, rfl, ?_⟩; replace BK530 := Aside0.mk (blk_below (be_ BK530.out) hb); replace HB := Aside0.mk (below_step (by repeat (first | (with_reducible first | exact HB.out | apply below_alloc | apply pw_below_drewN | apply below_drew1 | refine below_set ?_ GE530.out) | exact HB.out)) hb); (try clear hb); (try clear hb2); (try clear hk); (try clear hi)))
   go_ret
   exact ⟨_, by first | rfl | (simp [errW_none, errW_some] <;> rfl) | (simp [*, errW_none, errW_some] <;> rfl), by first | exact Kd.R_nil _ _ _ _ _ | exact Kd.N_nil _ _ _ _ _ | exact Kd.V_nil _ _ _ _ _ | exact Kd.Q_nil _ _ _ _ _ | exact Kd.S_nil _ _ _ _ _, by repeat (first | (with_reducible first | exact HB.out | apply below_alloc | apply pw_below_drewN | apply below_drew1 | refine below_set ?_ GE530.out) | exact HB.out)⟩
def impl_TypeOf.f (k : Nat) (l0_0 : List Int) : Option (Int) := (impl_IsSemigroup.f k l0_0).bind fun t548 => (if t548 = true then ((impl_GenusOf.f k l0_0).bind fun t549 => (if t549 = 0 then (some 1) else ((impl_PseudoFrobenius.f k l0_0).bind fun t550 => (some (t550.length : Int))))) else ((impl_PseudoFrobenius.f k l0_0).bind fun t553 => (some (t553.length : Int))))
set_option maxHeartbeats 8000000 in
set_option maxRecDepth 100000 in
theorem impl_TypeOf.calls (k : Nat) (A0_0 : Option Addr) (c0_0 : Nat) (l0_0 : List Int) (r : Int) (w : World) (hr0_0 : Kd.C (Kd.int .i64) w A0_0 l0_0.length l0_0) (hc0_0 : l0_0.length ≤ c0_0) (h : impl_TypeOf.f k l0_0 = some r) :
 Calls Tryd.prog 28 #[.agg #[.slice A0_0 l0_0.length c0_0]] w fun e w' => e = .returned (.int .i64 r) ∧ Below w.heap.size w w' := by
 have hu27 := Tryd.underlying27
 have HR0_0 := Aside0.mk hr0_0
 have HC0_0 := Aside0.mk hc0_0
 clear hr0_0 hc0_0
 have HB := Aside0.mk (Below.refl w.heap.size w)
 have H : ((impl_IsSemigroup.f k l0_0).bind fun t548 => (if t548 = true then ((impl_GenusOf.f k l0_0).bind fun t549 => (if t549 = 0 then (some 1) else ((impl_PseudoFrobenius.f k l0_0).bind fun t550 => (some (t550.length : Int))))) else ((impl_PseudoFrobenius.f k l0_0).bind fun t553 => (some (t553.length : Int))))) = some r := h
 clear h
 replace H := Option.bind_eq_some_iff.mp H
 obtain ⟨t548, A20, H⟩ := H
 have A2 := Aside0.mk A20
 clear A20
 by_cases c3 : t548 = true
 · subst c3
   rw [if_pos rfl] at H
   replace H := Option.bind_eq_some_iff.mp H
   obtain ⟨t549, A40, H⟩ := H
   have A4 := Aside0.mk A40
   clear A40
   by_cases c5 : t549 = 0
   · rw [if_pos c5] at H
     have c5b0 : (t549 == 0) = true := beq_iff_eq.mpr c5
     have c5b1 : (t549 != 0) = false := bne_eq_false_iff_eq.mpr c5
     clear c5
     obtain rfl := Option.some.inj H
     go_enter Tryd.func28, Tryd.ntmps28
     go_wp2_with (first | ((with_reducible refine gate_dst (N := 1) rfl ?_); refine box_event ?hg (N := 1) ?hd (cs := #[.slice A0_0 l0_0.length c0_0]) (t := 27) ?hr ?_; (case hd => rfl); (case hg => rfl); (case hr => first | (go_simp; done) | (go_simp; rfl)); intro gb547 hg w6 hbox hb; have BK547 := Aside0.mk (hbox); have GW547 := Aside0.mk ((by rw [hg]; exact (below_size (bl_ HB.out)) : w.heap.size ≤ gb547)); have GE547 := Aside0.mk ((by rw [hg]; exact (below_size (bl_ HB.out)) : w.heap.size ≤ gb547)); replace HB := Aside0.mk (below_step (bl_ HB.out) hb); clear hb hbox hg; have hcz7_0 : w6.cell? ⟨gb547, 0, none⟩ = some (.slice A0_0 l0_0.length c0_0) := (blk_cell BK547.out 0).trans rfl; have hfz7_0 := blk_frozen BK547.out 0) | ((with_reducible refine gate_callee (f := 21) rfl ?_); refine gL_ (some 4) Tryd.func21 #[.agg #[.slice A0_0 l0_0.length c0_0]] ?_; (with_reducible refine (impl_IsSemigroup.calls k _ _ l0_0 true _ ?side1 ?side2 A2.out).mono ?_); (case side1 => exact ce_ ((Kd.C_below HR0_0.out HB.out))); (case side2 => exact HC0_0.out); rintro e w8 ⟨rfl, hb⟩; refine ⟨_, rfl, ?_⟩; replace BK547 := Aside0.mk (blk_below (be_ BK547.out) hb); replace HB := Aside0.mk (below_step (by repeat (first | (with_reducible first | exact HB.out | apply below_alloc | apply pw_below_drewN | apply below_drew1 | refine below_set ?_ GE547.out) | exact HB.out)) hb); (try clear hb); (try clear hb2); (try clear hk); (try clear hi); have hcz9_0 : w8.cell? ⟨gb547, 0, none⟩ = some (.slice A0_0 l0_0.length c0_0) := (blk_cell BK547.out 0).trans rfl; have hfz9_0 := blk_frozen BK547.out 0) | (go_at_call 27; (with_reducible refine (impl_GenusOf.calls k _ _ l0_0 t549 _ ?side1 ?side2 A4.out).mono ?_); (case side1 => exact ce_ ((Kd.C_below HR0_0.out HB.out))); (case side2 => exact HC0_0.out); rintro e w10 ⟨rfl, hb⟩; replace BK547 := Aside0.mk (blk_below (be_ BK547.out) hb); replace HB := Aside0.mk (below_step (by repeat (first | (with_reducible first | exact HB.out | apply below_alloc | apply pw_below_drewN | apply below_drew1 | refine below_set ?_ GE547.out) | exact HB.out)) hb); (try clear hb); (try clear hb2); (try clear hk); (try clear hi)))
     go_ret
     exact ⟨by first | rfl | (simp [errW_none, errW_some] <;> rfl) | (simp [*, errW_none, errW_some] <;> rfl), by repeat (first | (with_reducible first | exact HB.out | apply below_alloc | apply pw_below_drewN | apply below_drew1 | refine below_set ?_ GE547.out) | exact HB.out)⟩
   · rw [if_neg c5] at H
     have c5b0 : (t549 == 0) = false := beq_eq_false_iff_ne.mpr c5
     have c5b1 : (t549 != 0) = true := bne_iff_ne.mpr c5
     replace H := Option.bind_eq_some_iff.mp H
     obtain ⟨t550, A110, H⟩ := H
     have A11 := Aside0.mk A110
     clear A110
     obtain rfl := Option.some.inj H
     go_enter Tryd.func28, Tryd.ntmps28
     go_wp2_with (first | ((with_reducible refine gate_dst (N := 1) rfl ?_); refine box_event ?hg (N := 1) ?hd (cs := #[.slice A0_0 l0_0.length c0_0]) (t := 27) ?hr ?_; (case hd => rfl); (case hg => rfl); (case hr => first | (go_simp; done) | (go_simp; rfl)); intro gb547 hg w12 hbox hb; have BK547 := Aside0.mk (hbox); have GW547 := Aside0.mk ((by rw [hg]; exact (below_size (bl_ HB.out)) : w.heap.size ≤ gb547)); have GE547 := Aside0.mk ((by rw [hg]; exact (below_size (bl_ HB.out)) : w.heap.size ≤ gb547)); replace HB := Aside0.mk (below_step (bl_ HB.out) hb); clear hb hbox hg; have hcz13_0 : w12.cell? ⟨gb547, 0, none⟩ = some (.slice A0_0 l0_0.length c0_0) := (blk_cell BK547.out 0).trans rfl; have hfz13_0 := blk_frozen BK547.out 0) | ((with_reducible refine gate_callee (f := 21) rfl ?_); refine gL_ (some 4) Tryd.func21 #[.agg #[.slice A0_0 l0_0.length c0_0]] ?_; (with_reducible refine (impl_IsSemigroup.calls k _ _ l0_0 true _ ?side1 ?side2 A2.out).mono ?_); (case side1 => exact ce_ ((Kd.C_below HR0_0.out HB.out))); (case side2 => exact HC0_0.out); rintro e w14 ⟨rfl, hb⟩; refine ⟨_, rfl, ?_⟩; replace BK547 := Aside0.mk (blk_below (be_ BK547.out) hb); replace HB := Aside0.mk (below_step (by repeat (first | (with_reducible first | exact HB.out | apply below_alloc | apply pw_below_drewN | apply below_drew1 | refine below_set ?_ GE547.out) | exact HB.out)) hb); (try clear hb); (try clear hb2); (try clear hk); (try clear hi); have hcz15_0 : w14.cell? ⟨gb547, 0, none⟩ = some (.slice A0_0 l0_0.length c0_0) := (blk_cell BK547.out 0).trans rfl; have hfz15_0 := blk_frozen BK547.out 0) | (go_at_call 27; (with_reducible refine (impl_GenusOf.calls k _ _ l0_0 t549 _ ?side1 ?side2 A4.out).mono ?_); (case side1 => exact ce_ ((Kd.C_below HR0_0.out HB.out))); (case side2 => exact HC0_0.out); rintro e w16 ⟨rfl, hb⟩; replace BK547 := Aside0.mk (blk_below (be_ BK547.out) hb); replace HB := Aside0.mk (below_step (by repeat (first | (with_reducible first | exact HB.out | apply below_alloc | apply pw_below_drewN | apply below_drew1 | refine below_set ?_ GE547.out) | exact HB.out)) hb); (try clear hb); (try clear hb2); (try clear hk); (try clear hi); have hcz17_0 : w16.cell? ⟨gb547, 0, none⟩ = some (.slice A0_0 l0_0.length c0_0) := (blk_cell BK547.out 0).trans rfl; have hfz17_0 := blk_frozen BK547.out 0) | ((with_reducible refine gate_callee (f := 62) rfl ?_); refine gL_ (some 11) Tryd.func62 #[.agg #[.slice A0_0 l0_0.length c0_0]] ?_; (with_reducible refine (impl_PseudoFrobenius.calls k _ _ l0_0 t550 _ ?side1 ?side2 A11.out).mono ?_); (case side1 => exact ce_ ((Kd.C_below HR0_0.out HB.out))); (case side2 => exact HC0_0.out); rintro e w18 ⟨v551, rfl, ho0, hb⟩; refine ⟨_, rfl, ?_⟩; have HO552 := Aside0.mk (Kd.R_lower ho0 (below_size (by repeat (first | (with_reducible first | exact HB.out | apply below_alloc | apply pw_below_drewN | apply below_drew1 | refine below_set ?_ GE547.out) | exact HB.out)))); replace BK547 := Aside0.mk (blk_below (be_ BK547.out) hb); replace HB := Aside0.mk (below_step (by repeat (first | (with_reducible first | exact HB.out | apply below_alloc | apply pw_below_drewN | apply below_drew1 | refine below_set ?_ GE547.out) | exact HB.out)) hb); (try clear hb); (try clear hb2); (try clear hk); (try clear hi); (try clear ho0); obtain ⟨Ao19, co19, eo19⟩ := Kd.R_slice HO552.out; subst eo19))
     go_ret
     exact ⟨by first | rfl | (simp [errW_none, errW_some] <;> rfl) | (simp [*, errW_none, errW_some] <;> rfl), by repeat (first | (with_reducible first | exact HB.out | apply below_alloc | apply pw_below_drewN | apply below_drew1 | refine below_set ?_ GE547.out) | exact HB.out)⟩
 · replace c3 := Bool.eq_false_iff.mpr c3
   subst c3
   rw [if_neg (show ¬ (false = true) by decide)] at H
   replace H := Option.bind_eq_some_iff.mp H
   obtain ⟨t553, A200, H⟩ := H
   have A20 := Aside0.mk A200
   clear A200
   obtain rfl := Option.some.inj H
   go_enter Tryd.func28, Tryd.ntmps28
   go_wp2_with (first | ((with_reducible refine gate_dst (N := 1) rfl ?_); refine box_event ?hg (N := 1) ?hd (cs := #[.slice A0_0 l0_0.length c0_0]) (t := 27) ?hr ?_; (case hd => rfl); (case hg => rfl); (case hr => first | (go_simp; done) | (go_simp; rfl)); intro gb547 hg w21 hbox hb; have BK547 := Aside0.mk (hbox); have GW547 := Aside0.mk ((by rw [hg]; exact (below_size (bl_ HB.out)) : w.heap.size ≤ gb547)); have GE547 := Aside0.mk ((by rw [hg]; exact (below_size (bl_ HB.out)) : w.heap.size ≤ gb547)); replace HB := Aside0.mk (below_step (bl_ HB.out) hb); clear hb hbox hg; have hcz22_0 : w21.cell? ⟨gb547, 0, none⟩ = some (.slice A0_0 l0_0.length c0_0) := (blk_cell BK547.out 0).trans rfl; have hfz22_0 := blk_frozen BK547.out 0) | ((with_reducible refine gate_callee (f := 21) rfl ?_); refine gL_ (some 4) Tryd.func21 #[.agg #[.slice A0_0 l0_0.length c0_0]] ?_; (with_reducible refine (impl_IsSemigroup.calls k _ _ l0_0 false _ ?side1 ?side2 A2.out).mono ?_); (case side1 => exact ce_ ((Kd.C_below HR0_0.out HB.out))); (case side2 => exact HC0_0.out); rintro e w23 ⟨rfl, hb⟩; refine ⟨_, rfl, ?_⟩; replace BK547 := Aside0.mk (blk_below (be_ BK547.out) hb); replace HB := Aside0.mk (below_step (by repeat (first | (with_reducible first | exact HB.out | apply below_alloc | apply pw_below_drewN | apply below_drew1 | refine below_set ?_ GE547.out) | exact HB.out)) hb); (try clear hb); (try clear hb2); (try clear hk); (try clear hi); have hcz24_0 : w23.cell? ⟨gb547, 0, none⟩ = some (.slice A0_0 l0_0.length c0_0) := (blk_cell BK547.out 0).trans rfl; have hfz24_0 := blk_frozen BK547.out 0) | ((with_reducible refine gate_callee (f := 62) rfl ?_); refine gL_ (some 11) Tryd.func62 #[.agg #[.slice A0_0 l0_0.length c0_0]] ?_; (with_reducible refine (impl_PseudoFrobenius.calls k _ _ l0_0 t553 _ ?side1 ?side2 A20.out).mono ?_); (case side1 => exact ce_ ((Kd.C_below HR0_0.out HB.out))); (case side2 => exact HC0_0.out); rintro e w25 ⟨v554, rfl, ho0, hb⟩; refine ⟨_, rfl, ?_⟩; have HO555 := Aside0.mk (Kd.R_lower ho0 (below_size (by repeat (first | (with_reducible first | exact HB.out | apply below_alloc | apply pw_below_drewN | apply below_drew1 | refine below_set ?_ GE547.out) | exact HB.out)))); replace BK547 := Aside0.mk (blk_below (be_ BK547.out) hb); replace HB := Aside0.mk (below_step (by repeat (first | (with_reducible first | exact HB.out | apply below_alloc | apply pw_below_drewN | apply below_drew1 | refine below_set ?_ GE547.out) | exact HB.out)) hb); (try clear hb); (try clear hb2); (try clear hk); (try clear hi); (try clear ho0); obtain ⟨Ao26, co26, eo26⟩ := Kd.R_slice HO555.out; subst eo26))
   go_ret
   exact ⟨by first | rfl | (simp [errW_none, errW_some] <;> rfl) | (simp [*, errW_none, errW_some] <;> rfl), by repeat (first | (with_reducible first | exact HB.out | apply below_alloc | apply pw_below_drewN | apply below_drew1 | refine below_set ?_ GE547.out) | exact HB.out)⟩
def impl_ListText.l0 : Nat → List ByteArray → List Int → Int → Int → Option (ByteArray)
 | 0, _, _, _, _ => none
 | k + 1, x3, x10, x11, x12 => if x12 < x11 then (if 0 ≤ x12 then (if x12 < (x10.length : Int) then ((impl_FormatI.f k (rd x10 x12)).bind fun t560 => (if x3.length < 8796093022208 then (impl_ListText.l0 k (x3 ++ [t560]) x10 x11 (wrap64 (x12 + 1))) else (none))) else (none)) else (none)) else ((impl_Join.f k x3 (⟨#[44]⟩ : ByteArray)).bind fun t564 => (some t564))
def impl_ListText.f (k : Nat) (l0 : List Int) : Option (ByteArray) := if (l0.length : Int) = 0 then (some (⟨#[110, 111, 110, 101]⟩ : ByteArray)) else (impl_ListText.l0 k (([] : List ByteArray)) l0 (l0.length : Int) 0)
set_option maxHeartbeats 8000000 in
set_option maxRecDepth 100000 in
theorem impl_ListText.calls (k : Nat) (A0 : Option Addr) (c0 : Nat) (l0 : List Int) (r : ByteArray) (w : World) (hr0 : Kd.C (Kd.int .i64) w A0 l0.length l0) (hc0 : l0.length ≤ c0) (hT : Tab_ w) (h : impl_ListText.f k l0 = some r) :
 Calls Tryd.prog 30 #[.slice A0 l0.length c0] w fun e w' => e = .returned (.string r) ∧ Below w.heap.size w w' := by
 have hTab := Aside0.mk hT
 clear hT
 have HR0 := Aside0.mk hr0
 have HC0 := Aside0.mk hc0
 clear hr0 hc0
 have HB := Aside0.mk (Below.refl w.heap.size w)
 have H : (if (l0.length : Int) = 0 then (some (⟨#[110, 111, 110, 101]⟩ : ByteArray)) else (impl_ListText.l0 k (([] : List ByteArray)) l0 (l0.length : Int) 0)) = some r := h
 clear h
 by_cases c2 : (l0.length : Int) = 0
 · rw [if_pos c2] at H
   have c2b0 : ((l0.length : Int) == 0) = true := beq_iff_eq.mpr c2
   have c2b1 : ((l0.length : Int) != 0) = false := bne_eq_false_iff_eq.mpr c2
   clear c2
   obtain rfl := Option.some.inj H
   go_enter Tryd.func30, Tryd.ntmps30
   go_wp2
   go_ret
   exact ⟨by first | rfl | (simp [errW_none, errW_some] <;> rfl) | (simp [*, errW_none, errW_some] <;> rfl), bl_ HB.out⟩
 · rw [if_neg c2] at H
   have c2b0 : ((l0.length : Int) == 0) = false := beq_eq_false_iff_ne.mpr c2
   have c2b1 : ((l0.length : Int) != 0) = true := bne_iff_ne.mpr c2
   have c2b2 : ¬ (l0 = []) := fun h_ => c2 (by rw [h_]; rfl)
   obtain ⟨y556, hy556⟩ : ∃ y_ : List ByteArray, y_ = (([] : List ByteArray)) := ⟨_, rfl⟩
   replace H : (impl_ListText.l0 k y556 l0 (l0.length : Int) 0) = some r := by subst hy556; exact H
   have Ny556 := Aside0.mk hy556
   clear hy556
   have H' := Aside0.mk H
   clear H
   go_enter Tryd.func30, Tryd.ntmps30
   go_wp2_with (first | ((with_reducible refine gate_dst (N := 9) rfl ?_); refine Kd.R_lit Kd.string _ 9 ?hg (N := 9) ?hd (xs := ([] : List ByteArray)) (inner := []) (ok := fun _ => True) (okp := fun _ => True) ?hr ?hp (fun _ hk => hk) trivial (Below.refl _ _) (Nat.le_refl _) (by simp) ?_; (case hd => rfl); (case hg => rfl); (case hr => first | (go_simp; done) | (go_simp; rfl)); (case hp => exact (Reps.none _ _)); intro v557 w3 ho4 hb hg_ hnew_; clear hg_ hnew_; (first | rw [← Ny556.out] at ho4 | (simp only [Int.reduceToNat] at ho4; rw [← Ny556.out] at ho4)); have HO558 := Aside0.mk (Kd.R_lower ho4 (below_size (bl_ HB.out))); replace HB := Aside0.mk (below_step (bl_ HB.out) hb); clear hb ho4))
   go_loopg [3, 12] k (fun kq v3 v12 w' => ∃ (x3_1 : List ByteArray) (x12_1 : Int), v12 = .int .i64 x12_1 ∧ Aside0 (impl_ListText.l0 kq x3_1 l0 (l0.length : Int) x12_1 = some r) ∧ Aside0 (kq ≤ k) ∧ Aside0 (Kd.R Kd.string 9 w' w.heap.size (fun _ => True) v3 x3_1) ∧ Aside0 (Below w.heap.size w w'))
   case atStart => exact ⟨(y556), (0), (by first | rfl | (simp; done) | (simp [*]; done)), H', ⟨Nat.le_refl _⟩, ⟨re_ HO558.out⟩, ⟨bl_ HB.out⟩⟩
   case round =>
    clear H'
    try clear c2
    try clear c2b0
    try clear c2b1
    try clear c2b2
    try clear p2
    try clear c3
    obtain ⟨x3_1, x12_1, rfl, HA, HK1, HO_3, HB⟩ := hrel
    cases gk with
    | zero => exact absurd HA.out (by simp [impl_ListText.l0])
    | succ k1 =>
     have H := HA.out
     clear HA
     simp only [impl_ListText.l0] at H
     by_cases c5 : x12_1 < (l0.length : Int)
     · rw [if_pos c5] at H
       have c5b0 : decide (x12_1 < (l0.length : Int)) = true := decide_eq_true c5
       clear c5
       by_cases c6 : 0 ≤ x12_1
       · rw [if_pos c6] at H
         have c6b0 : decide (0 ≤ x12_1) = true := decide_eq_true c6
         clear c6
         by_cases c7 : x12_1 < (l0.length : Int)
         · rw [if_pos c7] at H
           have c7b0 : decide (x12_1 < (l0.length : Int)) = true := decide_eq_true c7
           clear c7
           replace H := Option.bind_eq_some_iff.mp H
           obtain ⟨t560, A80, H⟩ := H
           have A8 := Aside0.mk A80
           clear A80
           by_cases c9 : x3_1.length < 8796093022208
           · rw [if_pos c9] at H
             have LMc9 := Aside0.mk c9
             clear c9
             obtain ⟨y561, hy561⟩ : ∃ y_ : List ByteArray, y_ = (x3_1 ++ [t560]) := ⟨_, rfl⟩
             replace H : (impl_ListText.l0 k1 y561 l0 (l0.length : Int) (wrap64 (x12_1 + 1))) = some r := by subst hy561; exact H
             have Ny561 := Aside0.mk hy561
             clear hy561
             have H' := Aside0.mk H
             clear H
             have p559 : 0 ≤ (x12_1 : Int) := od_
             have q559 : x12_1 < (l0.length : Int) := od_
             obtain ⟨ad559, e559, hx559_0⟩ := Kd.at_int HR0.out x12_1 p559 q559
             cases e559
             (try replace hx559_0 := (HB.out.cell (World.block_lt_of_cell? w _ hx559_0)).trans hx559_0)
             replace p559 := eq_true p559
             replace q559 := eq_true q559
             go_wp2_with (first | ((with_reducible refine gate_callee (f := 25) rfl ?_); refine gL_ (some 18) Tryd.func25 #[.int .i64 (rd l0 x12_1)] ?_; (with_reducible refine (impl_FormatI.calls k1 (rd l0 x12_1) t560 _ ?sideT A8.out).mono ?_); (case sideT => exact hTab.out.below (bl_ HB.out)); rintro e w10 ⟨rfl, hb⟩; refine ⟨_, rfl, ?_⟩; replace HO_3 := Aside0.mk (Kd.R_below (re_ HO_3.out) hb); replace HB := Aside0.mk (below_step (bl_ HB.out) hb); (try clear hb); (try clear hb2); (try clear hk); (try clear hi)) | ((with_reducible refine gate_builtin (b := .append) (xs := #[.tmp 16, .tmp 19]) rfl ?_); at_builtin; refine Kd.R_append Kd.string (w0 := w) w.heap.size rfl (.tmp 16) (.tmp 19) 39 9 (.string ⟨#[]⟩) 16 rfl Tryd.underlying39 info9 rfl (by decide) (by omega) u3 x3_1 t560 [.string t560] (fun _ => True) (fun _ => False) rfl rfl ?aP (fun _ hk => hk.elim) ?aF ?aO ?aB ?aS ?aL ?_; (case aP => exact rfl); (case aB => exact (bl_ HB.out)); (case aF => exact (fun _ _ => trivial)); (case aO => exact (re_ HO_3.out)); (case aS => exact (below_size (bl_ HB.out))); (case aL => have := LMc9.out; omega); intro v562 w11 ho hb hg hat; rw [← Ny561.out] at ho; replace HB := Aside0.mk (hb); have HO563 := Aside0.mk (ho); clear HO_3; clear ho hb hg hat))
             go_roundg k1
             case measure => have := HK1.out; omega
             case rel => exact ⟨(y561), (wrap64 (x12_1 + 1)), (by first | rfl | (simp; done) | (simp [*]; done)), H', ⟨by have := HK1.out; omega⟩, ⟨re_ HO563.out⟩, ⟨bl_ HB.out⟩⟩
           · rw [if_neg c9] at H
             exact absurd H (by simp)
         · rw [if_neg c7] at H
           exact absurd H (by simp)
       · rw [if_neg c6] at H
         exact absurd H (by simp)
     · rw [if_neg c5] at H
       have c5b0 : decide (x12_1 < (l0.length : Int)) = false := decide_eq_false c5
       clear c5
       replace H := Option.bind_eq_some_iff.mp H
       obtain ⟨t564, A120, H⟩ := H
       have A12 := Aside0.mk A120
       clear A120
       obtain rfl := Option.some.inj H
       obtain ⟨Ao13, co13, eo13⟩ := Kd.R_slice HO_3.out
       subst eo13
       go_wp2_with (first | ((with_reducible refine gate_callee (f := 24) rfl ?_); refine gL_ (some 23) Tryd.func24 #[.slice Ao13 x3_1.length co13, .string (⟨#[44]⟩ : ByteArray)] ?_; (with_reducible refine (impl_Join.calls k1 _ _ x3_1 (⟨#[44]⟩ : ByteArray) t564 _ ?side1 ?side2 A12.out).mono ?_); (case side1 => exact ce_ ((Kd.R_reads' HO_3.out).2.2)); (case side2 => exact (Kd.R_reads' HO_3.out).2.1); rintro e w14 ⟨rfl, hb⟩; refine ⟨_, rfl, ?_⟩; replace HO_3 := Aside0.mk (Kd.R_below (re_ HO_3.out) hb); replace HB := Aside0.mk (below_step (bl_ HB.out) hb); (try clear hb); (try clear hb2); (try clear hk); (try clear hi)))
       go_ret
       exact ⟨by first | rfl | (simp [errW_none, errW_some] <;> rfl) | (simp [*, errW_none, errW_some] <;> rfl), bl_ HB.out⟩
def impl_GapText.f (k : Nat) (l0_0 : List Int) : Option (ByteArray) := (impl_IsSemigroup.f k l0_0).bind fun t566 => (if t566 = true then ((impl_Gaps.f k l0_0).bind fun t567 => ((impl_ListText.f k t567).bind fun t570 => (some t570))) else (some (⟨#[]⟩ : ByteArray)))
set_option maxHeartbeats 8000000 in
set_option maxRecDepth 100000 in
theorem impl_GapText.calls (k : Nat) (A0_0 : Option Addr) (c0_0 : Nat) (l0_0 : List Int) (r : ByteArray) (w : World) (hr0_0 : Kd.C (Kd.int .i64) w A0_0 l0_0.length l0_0) (hc0_0 : l0_0.length ≤ c0_0) (hT : Tab_ w) (h : impl_GapText.f k l0_0 = some r) :
 Calls Tryd.prog 29 #[.agg #[.slice A0_0 l0_0.length c0_0]] w fun e w' => e = .returned (.string r) ∧ Below w.heap.size w w' := by
 have hTab := Aside0.mk hT
 clear hT
 have hu27 := Tryd.underlying27
 have HR0_0 := Aside0.mk hr0_0
 have HC0_0 := Aside0.mk hc0_0
 clear hr0_0 hc0_0
 have HB := Aside0.mk (Below.refl w.heap.size w)
 have H : ((impl_IsSemigroup.f k l0_0).bind fun t566 => (if t566 = true then ((impl_Gaps.f k l0_0).bind fun t567 => ((impl_ListText.f k t567).bind fun t570 => (some t570))) else (some (⟨#[]⟩ : ByteArray)))) = some r := h
 clear h
 replace H := Option.bind_eq_some_iff.mp H
 obtain ⟨t566, A20, H⟩ := H
 have A2 := Aside0.mk A20
 clear A20
 by_cases c3 : t566 = true
 · subst c3
   rw [if_pos rfl] at H
   replace H := Option.bind_eq_some_iff.mp H
   obtain ⟨t567, A40, H⟩ := H
   have A4 := Aside0.mk A40
   clear A40
   replace H := Option.bind_eq_some_iff.mp H
   obtain ⟨t570, A50, H⟩ := H
   have A5 := Aside0.mk A50
   clear A50
   obtain rfl := Option.some.inj H
   go_enter Tryd.func29, Tryd.ntmps29
   go_wp2_with (first | ((with_reducible refine gate_dst (N := 1) rfl ?_); refine box_event ?hg (N := 1) ?hd (cs := #[.slice A0_0 l0_0.length c0_0]) (t := 27) ?hr ?_; (case hd => rfl); (case hg => rfl); (case hr => first | (go_simp; done) | (go_simp; rfl)); intro gb565 hg w6 hbox hb; have BK565 := Aside0.mk (hbox); have GW565 := Aside0.mk ((by rw [hg]; exact (below_size (bl_ HB.out)) : w.heap.size ≤ gb565)); have GE565 := Aside0.mk ((by rw [hg]; exact (below_size (bl_ HB.out)) : w.heap.size ≤ gb565)); replace HB := Aside0.mk (below_step (bl_ HB.out) hb); clear hb hbox hg; have hcz7_0 : w6.cell? ⟨gb565, 0, none⟩ = some (.slice A0_0 l0_0.length c0_0) := (blk_cell BK565.out 0).trans rfl; have hfz7_0 := blk_frozen BK565.out 0) | ((with_reducible refine gate_callee (f := 21) rfl ?_); refine gL_ (some 4) Tryd.func21 #[.agg #[.slice A0_0 l0_0.length c0_0]] ?_; (with_reducible refine (impl_IsSemigroup.calls k _ _ l0_0 true _ ?side1 ?side2 A2.out).mono ?_); (case side1 => exact ce_ ((Kd.C_below HR0_0.out HB.out))); (case side2 => exact HC0_0.out); rintro e w8 ⟨rfl, hb⟩; refine ⟨_, rfl, ?_⟩; replace BK565 := Aside0.mk (blk_below (be_ BK565.out) hb); replace HB := Aside0.mk (below_step (by repeat (first | (with_reducible first | exact HB.out | apply below_alloc | apply pw_below_drewN | apply below_drew1 | refine below_set ?_ GE565.out) | exact HB.out)) hb); (try clear hb); (try clear hb2); (try clear hk); (try clear hi); have hcz9_0 : w8.cell? ⟨gb565, 0, none⟩ = some (.slice A0_0 l0_0.length c0_0) := (blk_cell BK565.out 0).trans rfl; have hfz9_0 := blk_frozen BK565.out 0) | ((with_reducible refine gate_callee (f := 61) rfl ?_); refine gL_ (some 7) Tryd.func61 #[.agg #[.slice A0_0 l0_0.length c0_0]] ?_; (with_reducible refine (impl_Gaps.calls k _ _ l0_0 t567 _ ?side1 ?side2 A4.out).mono ?_); (case side1 => exact ce_ ((Kd.C_below HR0_0.out HB.out))); (case side2 => exact HC0_0.out); rintro e w10 ⟨v568, rfl, ho0, hb⟩; refine ⟨_, rfl, ?_⟩; have HO569 := Aside0.mk (Kd.R_lower ho0 (below_size (by repeat (first | (with_reducible first | exact HB.out | apply below_alloc | apply pw_below_drewN | apply below_drew1 | refine below_set ?_ GE565.out) | exact HB.out)))); replace BK565 := Aside0.mk (blk_below (be_ BK565.out) hb); replace HB := Aside0.mk (below_step (by repeat (first | (with_reducible first | exact HB.out | apply below_alloc | apply pw_below_drewN | apply below_drew1 | refine below_set ?_ GE565.out) | exact HB.out)) hb); (try clear hb); (try clear hb2); (try clear hk); (try clear hi); (try clear ho0); obtain ⟨Ao11, co11, eo11⟩ := Kd.R_slice HO569.out; subst eo11) | ((with_reducible refine gate_callee (f := 30) rfl ?_); refine gL_ (some 8) Tryd.func30 #[.slice Ao11 t567.length co11] ?_; (with_reducible refine (impl_ListText.calls k _ _ t567 t570 _ ?side1 ?side2 ?sideT A5.out).mono ?_); (case sideT => exact hTab.out.below (by repeat (first | (with_reducible first | exact HB.out | apply below_alloc | apply pw_below_drewN | apply below_drew1 | refine below_set ?_ GE565.out) | exact HB.out))); (case side1 => exact ce_ ((Kd.R_reads' HO569.out).2.2)); (case side2 => exact (Kd.R_reads' HO569.out).2.1); rintro e w12 ⟨rfl, hb⟩; refine ⟨_, rfl, ?_⟩; replace HO569 := Aside0.mk (Kd.R_below (re_ HO569.out) hb); replace BK565 := Aside0.mk (blk_below (be_ BK565.out) hb); replace HB := Aside0.mk (below_step (by repeat (first | (with_reducible first | exact HB.out | apply below_alloc | apply pw_below_drewN | apply below_drew1 | refine below_set ?_ GE565.out) | exact HB.out)) hb); (try clear hb); (try clear hb2); (try clear hk); (try clear hi)))
   go_ret
   exact ⟨by first | rfl | (simp [errW_none, errW_some] <;> rfl) | (simp [*, errW_none, errW_some] <;> rfl), by repeat (first | (with_reducible first | exact HB.out | apply below_alloc | apply pw_below_drewN | apply below_drew1 | refine below_set ?_ GE565.out) | exact HB.out)⟩
 · replace c3 := Bool.eq_false_iff.mpr c3
   subst c3
   rw [if_neg (show ¬ (false = true) by decide)] at H
   obtain rfl := Option.some.inj H
   go_enter Tryd.func29, Tryd.ntmps29
   go_wp2_with (first | ((with_reducible refine gate_dst (N := 1) rfl ?_); refine box_event ?hg (N := 1) ?hd (cs := #[.slice A0_0 l0_0.length c0_0]) (t := 27) ?hr ?_; (case hd => rfl); (case hg => rfl); (case hr => first | (go_simp; done) | (go_simp; rfl)); intro gb565 hg w13 hbox hb; have BK565 := Aside0.mk (hbox); have GW565 := Aside0.mk ((by rw [hg]; exact (below_size (bl_ HB.out)) : w.heap.size ≤ gb565)); have GE565 := Aside0.mk ((by rw [hg]; exact (below_size (bl_ HB.out)) : w.heap.size ≤ gb565)); replace HB := Aside0.mk (below_step (bl_ HB.out) hb); clear hb hbox hg; have hcz14_0 : w13.cell? ⟨gb565, 0, none⟩ = some (.slice A0_0 l0_0.length c0_0) := (blk_cell BK565.out 0).trans rfl; have hfz14_0 := blk_frozen BK565.out 0) | ((with_reducible refine gate_callee (f := 21) rfl ?_); refine gL_ (some 4) Tryd.func21 #[.agg #[.slice A0_0 l0_0.length c0_0]] ?_; (with_reducible refine (impl_IsSemigroup.calls k _ _ l0_0 false _ ?side1 ?side2 A2.out).mono ?_); (case side1 => exact ce_ ((Kd.C_below HR0_0.out HB.out))); (case side2 => exact HC0_0.out); rintro e w15 ⟨rfl, hb⟩; refine ⟨_, rfl, ?_⟩; replace BK565 := Aside0.mk (blk_below (be_ BK565.out) hb); replace HB := Aside0.mk (below_step (by repeat (first | (with_reducible first | exact HB.out | apply below_alloc | apply pw_below_drewN | apply below_drew1 | refine below_set ?_ GE565.out) | exact HB.out)) hb); (try clear hb); (try clear hb2); (try clear hk); (try clear hi)))
   go_ret
   exact ⟨by first | rfl | (simp [errW_none, errW_some] <;> rfl) | (simp [*, errW_none, errW_some] <;> rfl), by repeat (first | (with_reducible first | exact HB.out | apply below_alloc | apply pw_below_drewN | apply below_drew1 | refine below_set ?_ GE565.out) | exact HB.out)⟩
end Go.Proofs.YtjjajcldmkmgkaaDoor.PA
end
section
namespace Go.Proofs.YtjjajcldmkmgkaaDoor.PA
open Go.RowKit Go.Proofs.YtjjajcldmkmgkaaDoorW.PrintWords Go.Proofs.YtjjajcldmkmgkaaDoorW.PrintLast Go.Proofs.YtjjajcldmkmgkaaDoorW.PrintMore
attribute [local go_sem] max2_int min2_int max_two min_two max_three min_three max_four min_four
set_option linter.unusedVariables false
set_option linter.unusedSimpArgs false
def impl_Contains.f (k : Nat) (l0_0 : List Int) (a1 : Int) : Option (Bool) := if a1 < 0 then (some false) else ((impl_IsSemigroup.f k l0_0).bind fun t572 => (if t572 = true then (if a1 ≥ 200 then (some true) else (if 0 < (l0_0.length : Int) then ((impl_leasts.f k l0_0 (rd l0_0 0)).bind fun t574 => (if (rd l0_0 0) = 0 then (none) else (if 0 ≤ (Int.tmod a1 (rd l0_0 0)) then (if (Int.tmod a1 (rd l0_0 0)) < (t574.length : Int) then (some (decide ((rd t574 (Int.tmod a1 (rd l0_0 0))) ≤ a1))) else (none)) else (none)))) else (none))) else (some false)))
def impl_Contains.T3 : Bool × List (List Nat × List Nat) := (true, [([], []), ([0], [0]), ([1], [1]), ([2], [2]), ([3, 2], [2, 3]), ([2], [2]), ([5, 2], [2, 5]), ([6, 2], [2, 6]), ([7, 2], [2, 7]), ([4, 8, 2, 2], [2, 4, 8]), ([2], [2]), ([2], [2]), ([11, 2], [2, 11]), ([12, 2], [2, 12]), ([13, 2], [2, 13]), ([10, 14, 2], [2, 10, 14]), ([9, 15, 2], [2, 9, 15]), ([16, 2], [2, 16]), ([2], [2]), ([17, 18, 2], [2, 17, 18]), ([2, 19], [2, 19]), ([20, 9, 0, 1, 2, 3, 4, 5, 6, 7, 8, 9, 10, 11, 12, 13, 14, 15, 16, 17, 18, 19, 20], [20])])
def impl_Contains.B3 : List Nat := [0, 1, 3, 7, 15, 7, 39, 103, 231, 511, 7, 7, 2055, 6151, 14343, 31751, 65535, 131071, 7, 524287, 1048575, 2097151]
theorem impl_Contains.tab3 : rtab .any (opsOf Tryd.f63 3) = impl_Contains.T3 := by kernel_rfl
theorem impl_Contains.bits3 : waitsOk impl_Contains.T3.2 impl_Contains.B3 = true := by kernel_rfl
set_option maxHeartbeats 8000000 in
set_option maxRecDepth 100000 in
theorem impl_Contains.calls (k : Nat) (A0_0 : Option Addr) (c0_0 : Nat) (l0_0 : List Int) (a1 : Int) (r : Bool) (w : World) (hr0_0 : Kd.C (Kd.int .i64) w A0_0 l0_0.length l0_0) (hc0_0 : l0_0.length ≤ c0_0) (h : impl_Contains.f k l0_0 a1 = some r) :
 Calls Tryd.prog 63 #[.agg #[.slice A0_0 l0_0.length c0_0], .int .i64 a1] w fun e w' => e = .returned (.bool r) ∧ Below w.heap.size w w' := by
 have hu27 := Tryd.underlying27
 have HR0_0 := Aside0.mk hr0_0
 have HC0_0 := Aside0.mk hc0_0
 clear hr0_0 hc0_0
 have HB := Aside0.mk (Below.refl w.heap.size w)
 have H : (if a1 < 0 then (some false) else ((impl_IsSemigroup.f k l0_0).bind fun t572 => (if t572 = true then (if a1 ≥ 200 then (some true) else (if 0 < (l0_0.length : Int) then ((impl_leasts.f k l0_0 (rd l0_0 0)).bind fun t574 => (if (rd l0_0 0) = 0 then (none) else (if 0 ≤ (Int.tmod a1 (rd l0_0 0)) then (if (Int.tmod a1 (rd l0_0 0)) < (t574.length : Int) then (some (decide ((rd t574 (Int.tmod a1 (rd l0_0 0))) ≤ a1))) else (none)) else (none)))) else (none))) else (some false)))) = some r := h
 clear h
 by_cases c3 : a1 < 0
 · rw [if_pos c3] at H
   have c3b0 : decide (a1 < 0) = true := decide_eq_true c3
   clear c3
   obtain rfl := Option.some.inj H
   go_enter Tryd.func63, Tryd.ntmps63
   go_wp2_with (first | ((with_reducible refine gate_dst (N := 2) rfl ?_); refine box_event ?hg (N := 2) ?hd (cs := #[.slice A0_0 l0_0.length c0_0]) (t := 27) ?hr ?_; (case hd => rfl); (case hg => rfl); (case hr => first | (go_simp; done) | (go_simp; rfl)); intro gb571 hg w4 hbox hb; have BK571 := Aside0.mk (hbox); have GW571 := Aside0.mk ((by rw [hg]; exact (below_size (bl_ HB.out)) : w.heap.size ≤ gb571)); have GE571 := Aside0.mk ((by rw [hg]; exact (below_size (bl_ HB.out)) : w.heap.size ≤ gb571)); replace HB := Aside0.mk (below_step (bl_ HB.out) hb); clear hb hbox hg))
   go_ret
   exact ⟨by first | rfl | (simp [errW_none, errW_some] <;> rfl) | (simp [*, errW_none, errW_some] <;> rfl), by repeat (first | (with_reducible first | exact HB.out | apply below_alloc | apply pw_below_drewN | apply below_drew1 | refine below_set ?_ GE571.out) | exact HB.out)⟩
 · rw [if_neg c3] at H
   have c3b0 : decide (a1 < 0) = false := decide_eq_false c3
   clear c3
   replace H := Option.bind_eq_some_iff.mp H
   obtain ⟨t572, A50, H⟩ := H
   have A5 := Aside0.mk A50
   clear A50
   by_cases c6 : t572 = true
   · subst c6
     rw [if_pos rfl] at H
     by_cases c7 : a1 ≥ 200
     · rw [if_pos c7] at H
       have c7b0 : decide (200 ≤ a1) = true := decide_eq_true c7
       clear c7
       obtain rfl := Option.some.inj H
       go_enter Tryd.func63, Tryd.ntmps63
       try go_wp2_with (first | ((with_reducible refine gate_dst (N := 2) rfl ?_); refine box_event ?hg (N := 2) ?hd (cs := #[.slice A0_0 l0_0.length c0_0]) (t := 27) ?hr ?_; (case hd => rfl); (case hg => rfl); (case hr => first | (go_simp; done) | (go_simp; rfl)); intro gb571 hg w8 hbox hb; have BK571 := Aside0.mk (hbox); have GW571 := Aside0.mk ((by rw [hg]; exact (below_size (bl_ HB.out)) : w.heap.size ≤ gb571)); have GE571 := Aside0.mk ((by rw [hg]; exact (below_size (bl_ HB.out)) : w.heap.size ≤ gb571)); replace HB := Aside0.mk (below_step (bl_ HB.out) hb); clear hb hbox hg; have hcz9_0 : w8.cell? ⟨gb571, 0, none⟩ = some (.slice A0_0 l0_0.length c0_0) := (blk_cell BK571.out 0).trans rfl; have hfz9_0 := blk_frozen BK571.out 0) | (go_at_call 21; (with_reducible refine (impl_IsSemigroup.calls k _ _ l0_0 true _ ?side1 ?side2 A5.out).mono ?_); (case side1 => exact ce_ ((Kd.C_below HR0_0.out HB.out))); (case side2 => exact HC0_0.out); rintro e w10 ⟨rfl, hb⟩; replace BK571 := Aside0.mk (blk_below (be_ BK571.out) hb); replace HB := Aside0.mk (below_step (by repeat (first | (with_reducible first | exact HB.out | apply below_alloc | apply pw_below_drewN | apply below_drew1 | refine below_set ?_ GE571.out) | exact HB.out)) hb); (try clear hb); (try clear hb2); (try clear hk); (try clear hi)))
       replace BK571 := Aside0.mk (blk_drew BK571.out)
       replace HB := Aside0.mk (below_drew1 HB.out)
       refine start_ (n := 22) (S := fun w' => True) (ds := []) (B_ 0 22) (by kernel_rfl) rfl rfl trivial (fun hHeld => ?_); refine with_tabW impl_Contains.tab3 impl_Contains.bits3 (fun HT_ HW_ => ?_)
       generalize w10.drew = w11 at BK571 HB hHeld ⊢
       refine pu_ HT_ 0 12 (B_ 1 22) ?_
       refine pu_ HT_ 1 13 (B_ 3 22) ?_
       refine pu_ HT_ 2 14 (B_ 7 22) ?_
       refine pn_ HT_ 3 15 (B_ 15 22) ?_
       refine pn_ HT_ 4 16 (B_ 31 22) ?_
       refine pn_ HT_ 5 17 (B_ 63 22) ?_
       refine pn_ HT_ 6 18 (B_ 127 22) ?_
       refine pn_ HT_ 7 19 (B_ 255 22) ?_
       refine pn_ HT_ 8 20 (B_ 511 22) ?_
       refine pn_ HT_ 9 21 (B_ 1023 22) ?_
       refine pn_ HT_ 10 22 (B_ 2047 22) ?_
       refine pn_ HT_ 11 23 (B_ 4095 22) ?_
       refine pn_ HT_ 12 24 (B_ 8191 22) ?_
       refine pn_ HT_ 13 25 (B_ 16383 22) ?_
       refine pn_ HT_ 14 26 (B_ 32767 22) ?_
       refine pn_ HT_ 15 27 (B_ 65535 22) ?_
       refine pn_ HT_ 16 28 (B_ 131071 22) ?_
       refine pn_ HT_ 17 29 (B_ 262143 22) ?_
       refine pn_ HT_ 18 30 (B_ 524287 22) ?_
       refine pn_ HT_ 19 31 (B_ 1048575 22) ?_
       refine pu_ HT_ 20 32 (B_ 2097151 22) ?_
       refine pu_ HT_ 21 4 (B_ 4194303 22) ?_
       refine done_ (done_of HT_.out (by kernel_rfl)) ?_
       try go_wp2
       go_ret
       exact ⟨by first | rfl | (simp [errW_none, errW_some] <;> rfl) | (simp [*, errW_none, errW_some] <;> rfl), by repeat (first | (with_reducible first | exact HB.out | apply below_alloc | apply pw_below_drewN | apply below_drew1 | refine below_set ?_ GE571.out) | exact HB.out)⟩
     · rw [if_neg c7] at H
       have c7b0 : decide (200 ≤ a1) = false := decide_eq_false c7
       clear c7
       by_cases c12 : 0 < (l0_0.length : Int)
       · rw [if_pos c12] at H
         have c12b0 : decide (0 < (l0_0.length : Int)) = true := decide_eq_true c12
         have c12b1 : decide (0 < l0_0.length) = true := decide_eq_true (by omega)
         clear c12
         replace H := Option.bind_eq_some_iff.mp H
         obtain ⟨t574, A130, H⟩ := H
         have A13 := Aside0.mk A130
         clear A130
         by_cases c14 : (rd l0_0 0) = 0
         · rw [if_pos c14] at H
           exact absurd H (by simp)
         · rw [if_neg c14] at H
           have c14b0 : ((rd l0_0 0) == 0) = false := beq_eq_false_iff_ne.mpr c14
           have c14b1 : ((rd l0_0 0) != 0) = true := bne_iff_ne.mpr c14
           obtain ⟨ji15, hji15⟩ : ∃ j_ : Int, (Int.tmod a1 (rd l0_0 0)) = j_ := ⟨_, rfl⟩
           replace H : (if 0 ≤ (ji15) then (if (ji15) < (t574.length : Int) then (some (decide ((rd t574 (ji15)) ≤ a1))) else (none)) else (none)) = some r := by first | (rw [hji15] at H; exact H) | (simp only [hji15] at H ⊢; exact H)
           (try rw [hji15] at A5)
           (try rw [hji15] at A13)
           by_cases c16 : 0 ≤ (ji15)
           · rw [if_pos c16] at H
             have c16b0 : decide (0 ≤ (ji15)) = true := decide_eq_true c16
             clear c16
             by_cases c17 : (ji15) < (t574.length : Int)
             · rw [if_pos c17] at H
               have c17b0 : decide ((ji15) < (t574.length : Int)) = true := decide_eq_true c17
               clear c17
               obtain rfl := Option.some.inj H
               go_enter Tryd.func63, Tryd.ntmps63
               try go_wp2_with (first | ((with_reducible refine gate_dst (N := 2) rfl ?_); refine box_event ?hg (N := 2) ?hd (cs := #[.slice A0_0 l0_0.length c0_0]) (t := 27) ?hr ?_; (case hd => rfl); (case hg => rfl); (case hr => first | (go_simp; done) | (go_simp; rfl)); intro gb571 hg w18 hbox hb; have BK571 := Aside0.mk (hbox); have GW571 := Aside0.mk ((by rw [hg]; exact (below_size (bl_ HB.out)) : w.heap.size ≤ gb571)); have GE571 := Aside0.mk ((by rw [hg]; exact (below_size (bl_ HB.out)) : w.heap.size ≤ gb571)); replace HB := Aside0.mk (below_step (bl_ HB.out) hb); clear hb hbox hg; have hcz19_0 : w18.cell? ⟨gb571, 0, none⟩ = some (.slice A0_0 l0_0.length c0_0) := (blk_cell BK571.out 0).trans rfl; have hfz19_0 := blk_frozen BK571.out 0) | (go_at_call 21; (with_reducible refine (impl_IsSemigroup.calls k _ _ l0_0 true _ ?side1 ?side2 A5.out).mono ?_); (case side1 => exact ce_ ((Kd.C_below HR0_0.out HB.out))); (case side2 => exact HC0_0.out); rintro e w20 ⟨rfl, hb⟩; replace BK571 := Aside0.mk (blk_below (be_ BK571.out) hb); replace HB := Aside0.mk (below_step (by repeat (first | (with_reducible first | exact HB.out | apply below_alloc | apply pw_below_drewN | apply below_drew1 | refine below_set ?_ GE571.out) | exact HB.out)) hb); (try clear hb); (try clear hb2); (try clear hk); (try clear hi)))
               replace BK571 := Aside0.mk (blk_drew BK571.out)
               replace HB := Aside0.mk (below_drew1 HB.out)
               have p573 : 0 ≤ (0 : Int) := (by omega)
               have q573 : 0 < (l0_0.length : Int) := od_
               obtain ⟨ad573, e573, hx573_0⟩ := Kd.at_int HR0_0.out 0 p573 q573
               have hw573_0 := hx573_0
               (try rw [show ((0 : Int)).toNat = 0 from rfl] at hw573_0)
               (try rw [show 0 * 1 = 0 from rfl] at hw573_0)
               (try rw [Addr.add_zero'] at hw573_0)
               cases e573
               have qi573 : (0 < l0_0.length) = True := eq_true (by omega)
               (try rw [show ((0 : Int)).toNat = 0 from rfl] at hx573_0)
               (try rw [Addr.add_zero'] at hx573_0)
               (try replace hx573_0 := (HB.out.cell (World.block_lt_of_cell? w _ hx573_0)).trans hx573_0)
               replace p573 := eq_true p573
               replace q573 := eq_true q573
               have p577 : 0 ≤ (0 : Int) := (by omega)
               have q577 : 0 < (l0_0.length : Int) := od_
               obtain ⟨ad577, e577, hx577_0⟩ := Kd.at_int HR0_0.out 0 p577 q577
               have hw577_0 := hx577_0
               (try rw [show ((0 : Int)).toNat = 0 from rfl] at hw577_0)
               (try rw [show 0 * 1 = 0 from rfl] at hw577_0)
               (try rw [Addr.add_zero'] at hw577_0)
               obtain rfl : ad573 = ad577 := (by injection e577)
               have qi577 : (0 < l0_0.length) = True := eq_true (by omega)
               (try rw [show ((0 : Int)).toNat = 0 from rfl] at hx577_0)
               (try rw [Addr.add_zero'] at hx577_0)
               (try replace hx577_0 := (HB.out.cell (World.block_lt_of_cell? w _ hx577_0)).trans hx577_0)
               replace p577 := eq_true p577
               replace q577 := eq_true q577
               refine start_ (n := 22) (S := fun w' => w'.cell? ⟨gb571, 0, none⟩ = some (.slice (some ad573) l0_0.length c0_0) ∧ w'.cell? ad573 = some (.int .i64 (rd l0_0 0)) ∧ w'.cell? ad573 = some (.int .i64 (rd l0_0 0)) ∧ True) (ds := []) (B_ 0 22) (by kernel_rfl) rfl rfl ⟨(blk_cell BK571.out 0).trans rfl, ((HB.out.cell (World.block_lt_of_cell? w _ hw573_0)).trans hw573_0), ((HB.out.cell (World.block_lt_of_cell? w _ hw577_0)).trans hw577_0), trivial⟩ (fun hHeld => ?_); refine with_tabW impl_Contains.tab3 impl_Contains.bits3 (fun HT_ HW_ => ?_)
               generalize w20.drew = w21 at BK571 HB hx573_0 hx577_0 hHeld ⊢
               refine pu_ HT_ 0 12 (B_ 1 22) ?_
               refine pu_ HT_ 1 13 (B_ 3 22) ?_
               refine pu_ HT_ 2 14 (B_ 7 22) ?_
               refine pu_ HT_ 3 15 (B_ 15 22) ?_
               refine pu_ HT_ 5 17 (B_ 47 22) ?_
               refine pu_ HT_ 10 22 (B_ 1071 22) ?_
               refine pu_ HT_ 11 23 (B_ 3119 22) ?_
               refine pu_ HT_ 18 30 (B_ 265263 22) ?_
               refine take_ (i := 4) (N := some 16) (v := ?_) (a' := ?_) (B_ 265279 22) rfl rfl (take_ofW HT_.out HW_.out (by kernel_rfl)) (fun _ _ _ h => h) (Or.inl ⟨by rfl, ?_⟩) hHeld ?_ ?_
               rotate_left
               · rintro w' ⟨s0, s1, s2, s3⟩
                 go_simp
                 with_reducible rfl
               rotate_left
               · simp only [Act.put, z1_, z2_, z3_, i64_w, i32_w]
                 rfl
               refine take_ (i := 6) (N := some 18) (v := ?_) (a' := ?_) (B_ 265343 22) rfl rfl (take_ofW HT_.out HW_.out (by kernel_rfl)) (fun _ _ _ h => h) (Or.inl ⟨by rfl, ?_⟩) hHeld ?_ ?_
               rotate_left
               · rintro w' ⟨s0, s1, s2, s3⟩
                 go_simp
                 with_reducible rfl
               rotate_left
               · simp only [Act.put, z1_, z2_, z3_, i64_w, i32_w]
                 rfl
               refine pu_ HT_ 7 19 (B_ 265471 22) ?_
               refine take_ (i := 8) (N := some 20) (v := ?_) (a' := ?_) (B_ 265727 22) rfl rfl (take_ofW HT_.out HW_.out (by kernel_rfl)) (fun _ _ _ h => h) (Or.inl ⟨by rfl, ?_⟩) hHeld ?_ ?_
               rotate_left
               · rintro w' ⟨s0, s1, s2, s3⟩
                 go_simp
                 with_reducible rfl
               rotate_left
               · simp only [Act.put, z1_, z2_, z3_, i64_w, i32_w]
                 rfl
               refine take_ (i := 12) (N := some 24) (v := ?_) (a' := ?_) (B_ 269823 22) rfl rfl (take_ofW HT_.out HW_.out (by kernel_rfl)) (fun _ _ _ h => h) (Or.inl ⟨by rfl, ?_⟩) hHeld ?_ ?_
               rotate_left
               · rintro w' ⟨s0, s1, s2, s3⟩
                 go_simp
                 with_reducible rfl
               rotate_left
               · simp only [Act.put, z1_, z2_, z3_, i64_w, i32_w]
                 rfl
               refine pu_ HT_ 13 25 (B_ 278015 22) ?_
               refine take_ (i := 14) (N := some 26) (v := ?_) (a' := ?_) (B_ 294399 22) rfl rfl (take_ofW HT_.out HW_.out (by kernel_rfl)) (fun _ _ _ h => h) (Or.inl ⟨by rfl, ?_⟩) hHeld ?_ ?_
               rotate_left
               · rintro w' ⟨s0, s1, s2, s3⟩
                 go_simp
                 with_reducible rfl
               rotate_left
               · simp only [Act.put, z1_, z2_, z3_, i64_w, i32_w]
                 rfl
               refine pu_ HT_ 15 27 (B_ 327167 22) ?_
               refine one_ (i := 9) (N := some 21) (B_ 327679 22) rfl rfl (one_of HT_.out (by kernel_rfl)) (by decide) (fun K hK => ?_)
               refine goes_ Tryd.func57 (by kernel_rfl) rfl #[.slice (some ad573) l0_0.length c0_0, .int .i64 (rd l0_0 0)] (by rfl) rfl rfl (by (try simp only [List.map_toArray, List.map_cons, List.map_nil]); first | done | rfl | (simp only [List.length_drop, List.length_take]; rfl)) ?_
               with_reducible refine (impl_leasts.calls k _ _ l0_0 (rd l0_0 0) t574 _ ?side1 ?side2 A13.out).mono ?_
               (case side1 => exact ce_ ((Kd.C_below HR0_0.out HB.out)))
               (case side2 => exact HC0_0.out)
               rintro e w22 ⟨v575, rfl, ho0, hb⟩
               refine ⟨_, rfl, ?_⟩
               have HO576 := Aside0.mk (Kd.R_lower ho0 (below_size (by repeat (first | (with_reducible first | exact HB.out | apply below_alloc | apply pw_below_drewN | apply below_drew1 | refine below_set ?_ GE571.out) | exact HB.out))))
               replace BK571 := Aside0.mk (blk_below (be_ BK571.out) hb)
               replace HB := Aside0.mk (below_step (by repeat (first | (with_reducible first | exact HB.out | apply below_alloc | apply pw_below_drewN | apply below_drew1 | refine below_set ?_ GE571.out) | exact HB.out)) hb)
               (try clear hb)
               (try clear hb2)
               (try clear hk)
               (try clear hi)
               (try clear ho0)
               obtain ⟨Ao23, co23, eo23⟩ := Kd.R_slice HO576.out
               (first | subst eo23 | (injection eo23 with f1_ f2_ f3_; have f4_ := f1_.symm; have f5_ := f3_.symm; clear f1_ f2_ f3_; subst f4_; subst f5_))
               have p578 : 0 ≤ ((ji15) : Int) := od_
               have q578 : (ji15) < (t574.length : Int) := od_
               obtain ⟨ad578, e578, hx578_0⟩ := Kd.at_int (Kd.R_reads' HO576.out).2.2 (ji15) p578 q578
               cases e578
               replace p578 := eq_true p578
               replace q578 := eq_true q578
               refine hK.out _ _ ⟨(blk_cell BK571.out 0).trans rfl, ((HB.out.cell (World.block_lt_of_cell? w _ hw573_0)).trans hw573_0), ((HB.out.cell (World.block_lt_of_cell? w _ hw577_0)).trans hw577_0), trivial⟩ (fun _ => ?_); refine restart_ (S' := fun w' => w'.cell? ⟨gb571, 0, none⟩ = some (.slice (some ad573) l0_0.length c0_0) ∧ w'.cell? ad573 = some (.int .i64 (rd l0_0 0)) ∧ w'.cell? ad573 = some (.int .i64 (rd l0_0 0)) ∧ w'.cell? (ad578.add ((ji15)).toNat) = some (.int .i64 (rd t574 (ji15)))) (fun _ h => ⟨h.1, h.2.1, h.2.2.1, trivial⟩) ⟨(blk_cell BK571.out 0).trans rfl, ((HB.out.cell (World.block_lt_of_cell? w _ hw573_0)).trans hw573_0), ((HB.out.cell (World.block_lt_of_cell? w _ hw577_0)).trans hw577_0), hx578_0⟩ (fun hHeld => ?_)
               clear hK K
               refine norm_ (a' := ?_) ?_ ?_
               rotate_left
               · show Act.put _ (some 21) _ = _
                 simp only [Act.put, z1_, z2_, z3_, i64_w, i32_w]
                 rfl
               refine pu_ HT_ 16 28 (B_ 393215 22) ?_
               refine take_ (i := 17) (N := some 29) (v := ?_) (a' := ?_) (B_ 524287 22) rfl rfl (take_ofW HT_.out HW_.out (by kernel_rfl)) (fun _ _ _ h => h) (Or.inl ⟨by rfl, ?_⟩) hHeld ?_ ?_
               rotate_left
               · rintro w' ⟨s0, s1, s2, s3⟩
                 go_simp
                 with_reducible rfl
               rotate_left
               · simp only [Act.put, z1_, z2_, z3_, i64_w, i32_w]
                 rfl
               refine pu_ HT_ 19 31 (B_ 1048575 22) ?_
               refine pu_ HT_ 20 32 (B_ 2097151 22) ?_
               refine pu_ HT_ 21 4 (B_ 4194303 22) ?_
               refine done_ (done_of HT_.out (by kernel_rfl)) ?_
               try go_wp2
               go_ret
               exact ⟨by first | rfl | (simp [errW_none, errW_some] <;> rfl) | (simp only [← hji15]; first | rfl | (simp [errW_none, errW_some] <;> rfl)) | (simp [*, errW_none, errW_some] <;> rfl), by repeat (first | (with_reducible first | exact HB.out | apply below_alloc | apply pw_below_drewN | apply below_drew1 | refine below_set ?_ GE571.out) | exact HB.out)⟩
             · rw [if_neg c17] at H
               exact absurd H (by simp)
           · rw [if_neg c16] at H
             exact absurd H (by simp)
       · rw [if_neg c12] at H
         exact absurd H (by simp)
   · replace c6 := Bool.eq_false_iff.mpr c6
     subst c6
     rw [if_neg (show ¬ (false = true) by decide)] at H
     obtain rfl := Option.some.inj H
     go_enter Tryd.func63, Tryd.ntmps63
     go_wp2_with (first | ((with_reducible refine gate_dst (N := 2) rfl ?_); refine box_event ?hg (N := 2) ?hd (cs := #[.slice A0_0 l0_0.length c0_0]) (t := 27) ?hr ?_; (case hd => rfl); (case hg => rfl); (case hr => first | (go_simp; done) | (go_simp; rfl)); intro gb571 hg w24 hbox hb; have BK571 := Aside0.mk (hbox); have GW571 := Aside0.mk ((by rw [hg]; exact (below_size (bl_ HB.out)) : w.heap.size ≤ gb571)); have GE571 := Aside0.mk ((by rw [hg]; exact (below_size (bl_ HB.out)) : w.heap.size ≤ gb571)); replace HB := Aside0.mk (below_step (bl_ HB.out) hb); clear hb hbox hg; have hcz25_0 : w24.cell? ⟨gb571, 0, none⟩ = some (.slice A0_0 l0_0.length c0_0) := (blk_cell BK571.out 0).trans rfl; have hfz25_0 := blk_frozen BK571.out 0) | (go_at_call 21; (with_reducible refine (impl_IsSemigroup.calls k _ _ l0_0 false _ ?side1 ?side2 A5.out).mono ?_); (case side1 => exact ce_ ((Kd.C_below HR0_0.out HB.out))); (case side2 => exact HC0_0.out); rintro e w26 ⟨rfl, hb⟩; replace BK571 := Aside0.mk (blk_below (be_ BK571.out) hb); replace HB := Aside0.mk (below_step (by repeat (first | (with_reducible first | exact HB.out | apply below_alloc | apply pw_below_drewN | apply below_drew1 | refine below_set ?_ GE571.out) | exact HB.out)) hb); (try clear hb); (try clear hb2); (try clear hk); (try clear hi)))
     go_ret
     exact ⟨by first | rfl | (simp [errW_none, errW_some] <;> rfl) | (simp [*, errW_none, errW_some] <;> rfl), by repeat (first | (with_reducible first | exact HB.out | apply below_alloc | apply pw_below_drewN | apply below_drew1 | refine below_set ?_ GE571.out) | exact HB.out)⟩
end Go.Proofs.YtjjajcldmkmgkaaDoor.PA
end
