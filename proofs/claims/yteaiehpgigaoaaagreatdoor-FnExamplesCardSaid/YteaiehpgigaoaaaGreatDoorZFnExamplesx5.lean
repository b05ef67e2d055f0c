-- Bundled by shake.py from this session's printed and written texts; Lean checks it.
import Derived.Test.YteaiehpgigaoaaaGreatDoorZFnExamplesx1
import Derived.Test.YteaiehpgigaoaaaGreatDoorZFnExamplesx2
import Derived.Test.YteaiehpgigaoaaaGreatDoorZFnExamplesx3
import Derived.Test.YteaiehpgigaoaaaGreatDoorZFnExamplesx4
section
namespace Go.Proofs.YteaiehpgigaoaaaGreatDoor.PB
open Go.RowKit Go.Proofs.YteaiehpgigaoaaaGreatDoorW.PrintWords Go.Proofs.YteaiehpgigaoaaaGreatDoorW.PrintLast Go.Proofs.YteaiehpgigaoaaaGreatDoorW.PrintMore
attribute [local go_sem] max2_int min2_int max_two min_two max_three min_three max_four min_four
set_option linter.unusedVariables false
set_option linter.unusedSimpArgs false
set_option maxHeartbeats 8000000
set_option maxRecDepth 100000
mutual
def spec_l9Mirror.l0 : Nat → Bool → Int → Int → List Int → Option (Bool)
 | 0, _, _, _, _ => none
 | k + 1, x1, x5, x6, x331000 => if x6 ≤ x5 then (if x1 = true then (spec_l9Mirror.j1 k x1 x5 x6 ((wrap64 (2 * x6)) == x5) x331000) else (spec_l9Mirror.j1 k x1 x5 x6 false x331000)) else (some true)
def spec_l9Mirror.j1 : Nat → Bool → Int → Int → Bool → List Int → Option (Bool)
 | 0, _, _, _, _, _ => none
 | k + 1, x1, x5, x6, x20, x331000 => if x20 = true then (spec_l9Mirror.l0 k x1 x5 (wrap64 (x6 + 1)) x331000) else ((spec_l3Has.f k x331000 x6).bind fun t332 => ((spec_l3Has.f k x331000 (wrap64 (x5 - x6))).bind fun t333 => (if (t332 == t333) = true then (some false) else (spec_l9Mirror.l0 k x1 x5 (wrap64 (x6 + 1)) x331000))))
end
def spec_l9Mirror.f (k : Nat) (l0_0 : List Int) (a1 : Bool) : Option (Bool) := (spec_FrobeniusOf.f k l0_0).bind fun t331 => (spec_l9Mirror.l0 k a1 t331 0 l0_0)
def spec_l9Mirror.T6 : Bool × List (List Nat × List Nat) := (true, [([], []), ([], []), ([0, 1], [0, 1]), ([], []), ([], []), ([], []), ([4, 5], [4, 5]), ([3, 6, 2], [3, 6]), ([2, 7], [2, 7])])
def spec_l9Mirror.B6 : List Nat := [0, 0, 3, 0, 0, 0, 48, 127, 255]
theorem spec_l9Mirror.tab6 : rtab .any (opsOf Tryz.f103 6) = spec_l9Mirror.T6 := by kernel_rfl
theorem spec_l9Mirror.bits6 : waitsOk spec_l9Mirror.T6.2 spec_l9Mirror.B6 = true := by kernel_rfl
theorem spec_l9Mirror.calls (k : Nat) (A0_0 : Option Addr) (c0_0 : Nat) (l0_0 : List Int) (a1 : Bool) (r : Bool) (w : World) (hr0_0 : Kd.C (Kd.int .i64) w A0_0 l0_0.length l0_0) (hc0_0 : l0_0.length ≤ c0_0) (h : spec_l9Mirror.f k l0_0 a1 = some r) :
 Calls Tryz.prog 103 #[.agg #[.slice A0_0 l0_0.length c0_0], .bool a1] w fun e w' => e = .returned (.bool r) ∧ Below w.heap.size w w' := by
 have hu29 := Tryz.underlying29
 have HR0_0 := Aside0.mk hr0_0
 have HC0_0 := Aside0.mk hc0_0
 clear hr0_0 hc0_0
 have HB := Aside0.mk (Below.refl w.heap.size w)
 have H := h
 clear h
 unfold spec_l9Mirror.f at H
 obtain ⟨t331, A3, H⟩ := ob_ H
 have H' := Aside0.mk H
 clear H
 go_enter Tryz.func103, Tryz.ntmps103
 go_wp2_with (first | ((with_reducible refine gate_dst (N := 2) rfl ?_); refine bx_ 2 #[.slice A0_0 l0_0.length c0_0] 29 ?_; intro gb330 hg w4 hbox hb; have BK330 := Aside0.mk (hbox); have GW330 := gw_ hg HB; have GE330 := gw_ hg HB; replace HB := bo_ HB hb; clear hb hbox hg; have hcz5_0 := cz_ BK330; have hfz5_0 := blk_frozen BK330.out 0) | ((with_reducible refine gate_callee (f := 36) rfl ?_); refine gL_ (some 8) Tryz.func36 #[.agg #[.slice A0_0 l0_0.length c0_0]] ?_; (with_reducible refine (spec_FrobeniusOf.calls k _ _ l0_0 t331 _ ?side1 ?side2 A3.out).mono ?_); (case side1 => exact ch_ HR0_0 HB); (case side2 => exact HC0_0.out); rintro e w6 ⟨rfl, hb⟩; refine ⟨_, rfl, ?_⟩; replace BK330 := bk_ BK330 hb; replace HB := bp_ HB hb; (try clear hb)))
 go_loopg [6] k (fun kq v6 w' => ∃ (x6_1 : Int), v6 = .int .i64 x6_1 ∧ Aside0 (spec_l9Mirror.l0 kq a1 t331 x6_1 l0_0 = some r) ∧ Aside0 (kq ≤ k) ∧ Aside0 (w'.heap[gb330]? = some (.cells #[(.slice A0_0 l0_0.length c0_0)] 29 (0, 0))) ∧ Aside0 (Below w.heap.size w w'))
 case atStart => exact ⟨(0), rs_, H', ⟨Nat.le_refl _⟩, ⟨be_ BK330.out⟩, ⟨bq_ HB⟩⟩
 case round =>
  clear H'
  try clear c1
  try clear p2
  try clear c3
  try clear hcz5_0
  try clear hfz5_0
  obtain ⟨x6_1, rfl, HA, HK1, BK330, HB⟩ := hrel
  cases gk with
  | zero => exact absurd HA.out (by simp [spec_l9Mirror.l0])
  | succ k1 =>
   have H := HA.out
   clear HA
   simp only [spec_l9Mirror.l0] at H
   by_cases c7 : x6_1 ≤ t331
   · rw [if_pos c7] at H
     have c7b0 : decide (x6_1 ≤ t331) = true := decide_eq_true c7
     clear c7
     have HC8 := Aside0.mk H
     clear H
     go_upto_region 5 with (fail)
     go_cut [20] (fun v20 wc => ∃ (kq : Nat) (x20_7 : Bool), v20 = .bool x20_7 ∧ Aside0 (spec_l9Mirror.j1 kq a1 t331 x6_1 x20_7 l0_0 = some r) ∧ Aside0 (kq ≤ k1) ∧ Aside0 (wc.heap[gb330]? = some (.cells #[(.slice A0_0 l0_0.length c0_0)] 29 (0, 0))) ∧ Aside0 (Below w.heap.size w wc))
     case first =>
      have H := HC8.out
      clear HC8
      by_cases c9 : a1 = true
      · subst c9
        rw [if_pos rfl] at H
        have H' := Aside0.mk H
        clear H
        go_wp2
        go_meet
        case rel => exact ⟨_, (((wrap64 (2 * x6_1)) == t331)), rs_, H', ⟨by have := HK1.out; first | omega | exact Nat.le_refl _⟩, ⟨be_ BK330.out⟩, ⟨bq_ HB⟩⟩
      · replace c9 := Bool.eq_false_iff.mpr c9
        subst c9
        rw [if_neg (show ¬ (false = true) by decide)] at H
        have H' := Aside0.mk H
        clear H
        go_wp2
        go_meet
        case rel => exact ⟨_, (false), rs_, H', ⟨by have := HK1.out; first | omega | exact Nat.le_refl _⟩, ⟨be_ BK330.out⟩, ⟨bq_ HB⟩⟩
     case rest =>
      clear HC8
      try clear c1
      try clear p2
      try clear c3
      try clear p6
      try clear c7
      try clear c7b0
      try clear c9
      try clear hcz5_0
      try clear hfz5_0
      try clear p2
      obtain ⟨kq, x20_7, rfl, HA, HJ7, BK330, HB⟩ := hcut
      cases kq with
      | zero => exact absurd HA.out (by simp [spec_l9Mirror.j1])
      | succ kj7 =>
       have H := HA.out
       clear HA
       simp only [spec_l9Mirror.j1] at H
       by_cases c10 : x20_7 = true
       · subst c10
         rw [if_pos rfl] at H
         have H' := Aside0.mk H
         clear H
         go_wp2
         go_roundg kj7
         case measure => have := HK1.out; have := HJ7.out; omega
         case rel => exact ⟨(wrap64 (x6_1 + 1)), rs_, H', ⟨by have := HK1.out; have := HJ7.out; omega⟩, ⟨be_ BK330.out⟩, ⟨bq_ HB⟩⟩
       · replace c10 := Bool.eq_false_iff.mpr c10
         subst c10
         rw [if_neg (show ¬ (false = true) by decide)] at H
         obtain ⟨t332, A11, H⟩ := ob_ H
         obtain ⟨t333, A12, H⟩ := ob_ H
         by_cases c13 : (t332 == t333) = true
         · rw [if_pos c13] at H
           have c13b0 : (t332 == t333) = true := c13
           (try (have c13b1 : decide (t332 = t333) = true := by simpa using c13))
           (try (have c13b2 : (t332 == t333) = true := by simpa using c13))
           clear c13
           obtain rfl := Option.some.inj H
           try go_wp2
           replace BK330 := Aside0.mk (blk_drew BK330.out)
           replace HB := Aside0.mk (below_drew1 HB.out)
           refine start_ (n := 9) (S := fun w' => w'.cell? ⟨gb330, 0, none⟩ = some (.slice A0_0 l0_0.length c0_0)) (ds := []) (B_ 0 9) (by kernel_rfl) rfl rfl ((blk_cell BK330.out 0).trans rfl) (fun hHeld => ?_); refine with_tabW spec_l9Mirror.tab6 spec_l9Mirror.bits6 (fun HT_ HW_ => ?_)
           generalize wc.drew = w14 at BK330 HB hHeld ⊢
           refine pu_ HT_ 1 22 (B_ 2 9) ?_
           refine pu_ HT_ 4 25 (B_ 18 9) ?_
           refine pu_ HT_ 5 26 (B_ 50 9) ?_
           refine pu_ HT_ 6 27 (B_ 114 9) ?_
           refine tk1_ HT_ HW_ hHeld 0 21 (B_ 115 9) ?_
           refine tk1_ HT_ HW_ hHeld 3 24 (B_ 123 9) ?_
           refine on_ HT_ 2 23 (B_ 127 9) (fun K hK => ?_)
           refine goes_ Tryz.func104 (by kernel_rfl) rfl #[.agg #[.slice A0_0 l0_0.length c0_0], .int .i64 x6_1] (by rfl) rfl rfl (by (try simp only [List.map_toArray, List.map_cons, List.map_nil]); first | done | rfl | (simp only [List.length_drop, List.length_take]; rfl)) ?_
           with_reducible refine (spec_l3Has.calls kj7 _ _ l0_0 x6_1 t332 _ ?side1 ?side2 A11.out).mono ?_
           (case side1 => exact ch_ HR0_0 HB)
           (case side2 => exact HC0_0.out)
           rintro e w15 ⟨rfl, hb⟩
           refine ⟨_, rfl, ?_⟩
           replace BK330 := bk_ BK330 hb
           replace HB := bp_ HB hb
           (try clear hb)
           refine hK.out _ _ ((blk_cell BK330.out 0).trans rfl) (fun hHeld => ?_)
           clear hK K
           refine norm_ (a' := ?_) ?_ ?_
           rotate_left
           · show Act.put _ (some 23) _ = _
             simp only [Act.put, z1_, z2_, z3_, i64_w, i32_w]
             rfl
           refine on_ HT_ 7 28 (B_ 255 9) (fun K hK => ?_)
           refine goes_ Tryz.func104 (by kernel_rfl) rfl #[.agg #[.slice A0_0 l0_0.length c0_0], .int .i64 (wrap64 (t331 - x6_1))] (by rfl) rfl rfl (by (try simp only [List.map_toArray, List.map_cons, List.map_nil]); first | done | rfl | (simp only [List.length_drop, List.length_take]; rfl)) ?_
           with_reducible refine (spec_l3Has.calls kj7 _ _ l0_0 (wrap64 (t331 - x6_1)) t333 _ ?side1 ?side2 A12.out).mono ?_
           (case side1 => exact ch_ HR0_0 HB)
           (case side2 => exact HC0_0.out)
           rintro e w16 ⟨rfl, hb⟩
           refine ⟨_, rfl, ?_⟩
           replace BK330 := bk_ BK330 hb
           replace HB := bp_ HB hb
           (try clear hb)
           refine hK.out _ _ ((blk_cell BK330.out 0).trans rfl) (fun hHeld => ?_)
           clear hK K
           refine norm_ (a' := ?_) ?_ ?_
           rotate_left
           · show Act.put _ (some 28) _ = _
             simp only [Act.put, z1_, z2_, z3_, i64_w, i32_w]
             rfl
           refine pu_ HT_ 8 29 (B_ 511 9) ?_
           refine done_ (done_of HT_.out (by kernel_rfl)) ?_
           try go_wp2
           go_ret
           exact ⟨rf_, bq_ HB⟩
         · rw [if_neg c13] at H
           have c13b0 : (t332 == t333) = false := by simpa using c13
           (try (have c13b1 : decide (t332 = t333) = false := by simpa using c13))
           (try (have c13b2 : (t332 == t333) = false := by simpa using c13))
           (try (have c13b3 : ¬ (t332 = t333) := by simpa using c13))
           clear c13
           have H' := Aside0.mk H
           clear H
           try go_wp2
           replace BK330 := Aside0.mk (blk_drew BK330.out)
           replace HB := Aside0.mk (below_drew1 HB.out)
           refine start_ (n := 9) (S := fun w' => w'.cell? ⟨gb330, 0, none⟩ = some (.slice A0_0 l0_0.length c0_0)) (ds := []) (B_ 0 9) (by kernel_rfl) rfl rfl ((blk_cell BK330.out 0).trans rfl) (fun hHeld => ?_); refine with_tabW spec_l9Mirror.tab6 spec_l9Mirror.bits6 (fun HT_ HW_ => ?_)
           generalize wc.drew = w17 at BK330 HB hHeld ⊢
           refine pu_ HT_ 1 22 (B_ 2 9) ?_
           refine pu_ HT_ 4 25 (B_ 18 9) ?_
           refine pu_ HT_ 5 26 (B_ 50 9) ?_
           refine pu_ HT_ 6 27 (B_ 114 9) ?_
           refine tk1_ HT_ HW_ hHeld 0 21 (B_ 115 9) ?_
           refine tk1_ HT_ HW_ hHeld 3 24 (B_ 123 9) ?_
           refine on_ HT_ 2 23 (B_ 127 9) (fun K hK => ?_)
           refine goes_ Tryz.func104 (by kernel_rfl) rfl #[.agg #[.slice A0_0 l0_0.length c0_0], .int .i64 x6_1] (by rfl) rfl rfl (by (try simp only [List.map_toArray, List.map_cons, List.map_nil]); first | done | rfl | (simp only [List.length_drop, List.length_take]; rfl)) ?_
           with_reducible refine (spec_l3Has.calls kj7 _ _ l0_0 x6_1 t332 _ ?side1 ?side2 A11.out).mono ?_
           (case side1 => exact ch_ HR0_0 HB)
           (case side2 => exact HC0_0.out)
           rintro e w18 ⟨rfl, hb⟩
           refine ⟨_, rfl, ?_⟩
           replace BK330 := bk_ BK330 hb
           replace HB := bp_ HB hb
           (try clear hb)
           refine hK.out _ _ ((blk_cell BK330.out 0).trans rfl) (fun hHeld => ?_)
           clear hK K
           refine norm_ (a' := ?_) ?_ ?_
           rotate_left
           · show Act.put _ (some 23) _ = _
             simp only [Act.put, z1_, z2_, z3_, i64_w, i32_w]
             rfl
           refine on_ HT_ 7 28 (B_ 255 9) (fun K hK => ?_)
           refine goes_ Tryz.func104 (by kernel_rfl) rfl #[.agg #[.slice A0_0 l0_0.length c0_0], .int .i64 (wrap64 (t331 - x6_1))] (by rfl) rfl rfl (by (try simp only [List.map_toArray, List.map_cons, List.map_nil]); first | done | rfl | (simp only [List.length_drop, List.length_take]; rfl)) ?_
           with_reducible refine (spec_l3Has.calls kj7 _ _ l0_0 (wrap64 (t331 - x6_1)) t333 _ ?side1 ?side2 A12.out).mono ?_
           (case side1 => exact ch_ HR0_0 HB)
           (case side2 => exact HC0_0.out)
           rintro e w19 ⟨rfl, hb⟩
           refine ⟨_, rfl, ?_⟩
           replace BK330 := bk_ BK330 hb
           replace HB := bp_ HB hb
           (try clear hb)
           refine hK.out _ _ ((blk_cell BK330.out 0).trans rfl) (fun hHeld => ?_)
           clear hK K
           refine norm_ (a' := ?_) ?_ ?_
           rotate_left
           · show Act.put _ (some 28) _ = _
             simp only [Act.put, z1_, z2_, z3_, i64_w, i32_w]
             rfl
           refine pu_ HT_ 8 29 (B_ 511 9) ?_
           refine done_ (done_of HT_.out (by kernel_rfl)) ?_
           try go_wp2
           go_roundg kj7
           case measure => have := HK1.out; have := HJ7.out; omega
           case rel => exact ⟨(wrap64 (x6_1 + 1)), rs_, H', ⟨by have := HK1.out; have := HJ7.out; omega⟩, ⟨be_ BK330.out⟩, ⟨bq_ HB⟩⟩
   · rw [if_neg c7] at H
     have c7b0 : decide (x6_1 ≤ t331) = false := decide_eq_false c7
     clear c7
     obtain rfl := Option.some.inj H
     go_wp2
     go_ret
     exact ⟨rf_, bq_ HB⟩
def spec_IsSymmetric.f (k : Nat) (l0_0 : List Int) : Option (Bool) := (spec_IsSemigroup.f k l0_0).bind fun t335 => (if t335 = true then ((spec_l9Mirror.f k l0_0 false).bind fun t336 => (some t336)) else (some false))
theorem spec_IsSymmetric.calls (k : Nat) (A0_0 : Option Addr) (c0_0 : Nat) (l0_0 : List Int) (r : Bool) (w : World) (hr0_0 : Kd.C (Kd.int .i64) w A0_0 l0_0.length l0_0) (hc0_0 : l0_0.length ≤ c0_0) (h : spec_IsSymmetric.f k l0_0 = some r) :
 Calls Tryz.prog 76 #[.agg #[.slice A0_0 l0_0.length c0_0]] w fun e w' => e = .returned (.bool r) ∧ Below w.heap.size w w' := by
 have hu29 := Tryz.underlying29
 have HR0_0 := Aside0.mk hr0_0
 have HC0_0 := Aside0.mk hc0_0
 clear hr0_0 hc0_0
 have HB := Aside0.mk (Below.refl w.heap.size w)
 have H := h
 clear h
 unfold spec_IsSymmetric.f at H
 obtain ⟨t335, A2, H⟩ := ob_ H
 by_cases c3 : t335 = true
 · subst c3
   rw [if_pos rfl] at H
   obtain ⟨t336, A4, H⟩ := ob_ H
   obtain rfl := Option.some.inj H
   go_enter Tryz.func76, Tryz.ntmps76
   go_wp2_with (first | ((with_reducible refine gate_dst (N := 1) rfl ?_); refine bx_ 1 #[.slice A0_0 l0_0.length c0_0] 29 ?_; intro gb334 hg w5 hbox hb; have BK334 := Aside0.mk (hbox); have GW334 := gw_ hg HB; have GE334 := gw_ hg HB; replace HB := bo_ HB hb; clear hb hbox hg; have hcz6_0 := cz_ BK334; have hfz6_0 := blk_frozen BK334.out 0) | ((with_reducible refine gate_callee (f := 34) rfl ?_); refine gL_ (some 4) Tryz.func34 #[.agg #[.slice A0_0 l0_0.length c0_0]] ?_; (with_reducible refine (spec_IsSemigroup.calls k _ _ l0_0 true _ ?side1 ?side2 A2.out).mono ?_); (case side1 => exact ch_ HR0_0 HB); (case side2 => exact HC0_0.out); rintro e w7 ⟨rfl, hb⟩; refine ⟨_, rfl, ?_⟩; replace BK334 := bk_ BK334 hb; replace HB := bp_ HB hb; (try clear hb); have hcz8_0 := cz_ BK334; have hfz8_0 := blk_frozen BK334.out 0) | (go_at_call 103; (with_reducible refine (spec_l9Mirror.calls k _ _ l0_0 false t336 _ ?side1 ?side2 A4.out).mono ?_); (case side1 => exact ch_ HR0_0 HB); (case side2 => exact HC0_0.out); rintro e w9 ⟨rfl, hb⟩; replace BK334 := bk_ BK334 hb; replace HB := bp_ HB hb; (try clear hb)))
   go_ret
   exact ⟨rf_, bq_ HB⟩
 · replace c3 := Bool.eq_false_iff.mpr c3
   subst c3
   rw [if_neg (show ¬ (false = true) by decide)] at H
   obtain rfl := Option.some.inj H
   go_enter Tryz.func76, Tryz.ntmps76
   go_wp2_with (first | ((with_reducible refine gate_dst (N := 1) rfl ?_); refine bx_ 1 #[.slice A0_0 l0_0.length c0_0] 29 ?_; intro gb334 hg w10 hbox hb; have BK334 := Aside0.mk (hbox); have GW334 := gw_ hg HB; have GE334 := gw_ hg HB; replace HB := bo_ HB hb; clear hb hbox hg; have hcz11_0 := cz_ BK334; have hfz11_0 := blk_frozen BK334.out 0) | ((with_reducible refine gate_callee (f := 34) rfl ?_); refine gL_ (some 4) Tryz.func34 #[.agg #[.slice A0_0 l0_0.length c0_0]] ?_; (with_reducible refine (spec_IsSemigroup.calls k _ _ l0_0 false _ ?side1 ?side2 A2.out).mono ?_); (case side1 => exact ch_ HR0_0 HB); (case side2 => exact HC0_0.out); rintro e w12 ⟨rfl, hb⟩; refine ⟨_, rfl, ?_⟩; replace BK334 := bk_ BK334 hb; replace HB := bp_ HB hb; (try clear hb)))
   go_ret
   exact ⟨rf_, bq_ HB⟩
def spec_IsPseudoSymmetric.f (k : Nat) (l0_0 : List Int) : Option (Bool) := (spec_FrobeniusOf.f k l0_0).bind fun t338 => (if t338 > 0 then (if (Int.tmod t338 2) = 0 then ((spec_l9Mirror.f k l0_0 true).bind fun t339 => (some t339)) else (some false)) else (some false))
theorem spec_IsPseudoSymmetric.calls (k : Nat) (A0_0 : Option Addr) (c0_0 : Nat) (l0_0 : List Int) (r : Bool) (w : World) (hr0_0 : Kd.C (Kd.int .i64) w A0_0 l0_0.length l0_0) (hc0_0 : l0_0.length ≤ c0_0) (h : spec_IsPseudoSymmetric.f k l0_0 = some r) :
 Calls Tryz.prog 77 #[.agg #[.slice A0_0 l0_0.length c0_0]] w fun e w' => e = .returned (.bool r) ∧ Below w.heap.size w w' := by
 have hu29 := Tryz.underlying29
 have HR0_0 := Aside0.mk hr0_0
 have HC0_0 := Aside0.mk hc0_0
 clear hr0_0 hc0_0
 have HB := Aside0.mk (Below.refl w.heap.size w)
 have H := h
 clear h
 unfold spec_IsPseudoSymmetric.f at H
 obtain ⟨t338, A2, H⟩ := ob_ H
 by_cases c3 : t338 > 0
 · rw [if_pos c3] at H
   have c3b0 : decide (0 < t338) = true := decide_eq_true c3
   clear c3
   by_cases c4 : (Int.tmod t338 2) = 0
   · rw [if_pos c4] at H
     have c4b0 : ((Int.tmod t338 2) == 0) = true := beq_iff_eq.mpr c4
     have c4b1 : ((Int.tmod t338 2) != 0) = false := bne_eq_false_iff_eq.mpr c4
     clear c4
     obtain ⟨t339, A5, H⟩ := ob_ H
     obtain rfl := Option.some.inj H
     go_enter Tryz.func77, Tryz.ntmps77
     go_wp2_with (first | ((with_reducible refine gate_dst (N := 1) rfl ?_); refine bx_ 1 #[.slice A0_0 l0_0.length c0_0] 29 ?_; intro gb337 hg w6 hbox hb; have BK337 := Aside0.mk (hbox); have GW337 := gw_ hg HB; have GE337 := gw_ hg HB; replace HB := bo_ HB hb; clear hb hbox hg; have hcz7_0 := cz_ BK337; have hfz7_0 := blk_frozen BK337.out 0) | ((with_reducible refine gate_callee (f := 36) rfl ?_); refine gL_ (some 5) Tryz.func36 #[.agg #[.slice A0_0 l0_0.length c0_0]] ?_; (with_reducible refine (spec_FrobeniusOf.calls k _ _ l0_0 t338 _ ?side1 ?side2 A2.out).mono ?_); (case side1 => exact ch_ HR0_0 HB); (case side2 => exact HC0_0.out); rintro e w8 ⟨rfl, hb⟩; refine ⟨_, rfl, ?_⟩; replace BK337 := bk_ BK337 hb; replace HB := bp_ HB hb; (try clear hb); have hcz9_0 := cz_ BK337; have hfz9_0 := blk_frozen BK337.out 0) | (go_at_call 103; (with_reducible refine (spec_l9Mirror.calls k _ _ l0_0 true t339 _ ?side1 ?side2 A5.out).mono ?_); (case side1 => exact ch_ HR0_0 HB); (case side2 => exact HC0_0.out); rintro e w10 ⟨rfl, hb⟩; replace BK337 := bk_ BK337 hb; replace HB := bp_ HB hb; (try clear hb)))
     go_ret
     exact ⟨rf_, bq_ HB⟩
   · rw [if_neg c4] at H
     have c4b0 : ((Int.tmod t338 2) == 0) = false := beq_eq_false_iff_ne.mpr c4
     have c4b1 : ((Int.tmod t338 2) != 0) = true := bne_iff_ne.mpr c4
     obtain rfl := Option.some.inj H
     go_enter Tryz.func77, Tryz.ntmps77
     go_wp2_with (first | ((with_reducible refine gate_dst (N := 1) rfl ?_); refine bx_ 1 #[.slice A0_0 l0_0.length c0_0] 29 ?_; intro gb337 hg w11 hbox hb; have BK337 := Aside0.mk (hbox); have GW337 := gw_ hg HB; have GE337 := gw_ hg HB; replace HB := bo_ HB hb; clear hb hbox hg; have hcz12_0 := cz_ BK337; have hfz12_0 := blk_frozen BK337.out 0) | ((with_reducible refine gate_callee (f := 36) rfl ?_); refine gL_ (some 5) Tryz.func36 #[.agg #[.slice A0_0 l0_0.length c0_0]] ?_; (with_reducible refine (spec_FrobeniusOf.calls k _ _ l0_0 t338 _ ?side1 ?side2 A2.out).mono ?_); (case side1 => exact ch_ HR0_0 HB); (case side2 => exact HC0_0.out); rintro e w13 ⟨rfl, hb⟩; refine ⟨_, rfl, ?_⟩; replace BK337 := bk_ BK337 hb; replace HB := bp_ HB hb; (try clear hb)))
     go_ret
     exact ⟨rf_, bq_ HB⟩
 · rw [if_neg c3] at H
   have c3b0 : decide (0 < t338) = false := decide_eq_false c3
   clear c3
   obtain rfl := Option.some.inj H
   go_enter Tryz.func77, Tryz.ntmps77
   go_wp2_with (first | ((with_reducible refine gate_dst (N := 1) rfl ?_); refine bx_ 1 #[.slice A0_0 l0_0.length c0_0] 29 ?_; intro gb337 hg w14 hbox hb; have BK337 := Aside0.mk (hbox); have GW337 := gw_ hg HB; have GE337 := gw_ hg HB; replace HB := bo_ HB hb; clear hb hbox hg; have hcz15_0 := cz_ BK337; have hfz15_0 := blk_frozen BK337.out 0) | ((with_reducible refine gate_callee (f := 36) rfl ?_); refine gL_ (some 5) Tryz.func36 #[.agg #[.slice A0_0 l0_0.length c0_0]] ?_; (with_reducible refine (spec_FrobeniusOf.calls k _ _ l0_0 t338 _ ?side1 ?side2 A2.out).mono ?_); (case side1 => exact ch_ HR0_0 HB); (case side2 => exact HC0_0.out); rintro e w16 ⟨rfl, hb⟩; refine ⟨_, rfl, ?_⟩; replace BK337 := bk_ BK337 hb; replace HB := bp_ HB hb; (try clear hb)))
   go_ret
   exact ⟨rf_, bq_ HB⟩
def spec_l29Kind.f (k : Nat) (l0_0 : List Int) : Option (ByteArray) := (spec_IsSymmetric.f k l0_0).bind fun t341 => (if t341 = true then (some (⟨#[115, 121, 109, 109, 101, 116, 114, 105, 99]⟩ : ByteArray)) else ((spec_IsPseudoSymmetric.f k l0_0).bind fun t342 => (if t342 = true then (some (⟨#[112, 115, 101, 117, 100, 111, 45, 115, 121, 109, 109, 101, 116, 114, 105, 99]⟩ : ByteArray)) else (some (⟨#[114, 101, 100, 117, 99, 105, 98, 108, 101]⟩ : ByteArray)))))
theorem spec_l29Kind.calls (k : Nat) (A0_0 : Option Addr) (c0_0 : Nat) (l0_0 : List Int) (r : ByteArray) (w : World) (hr0_0 : Kd.C (Kd.int .i64) w A0_0 l0_0.length l0_0) (hc0_0 : l0_0.length ≤ c0_0) (h : spec_l29Kind.f k l0_0 = some r) :
 Calls Tryz.prog 39 #[.agg #[.slice A0_0 l0_0.length c0_0]] w fun e w' => e = .returned (.string r) ∧ Below w.heap.size w w' := by
 have hu29 := Tryz.underlying29
 have HR0_0 := Aside0.mk hr0_0
 have HC0_0 := Aside0.mk hc0_0
 clear hr0_0 hc0_0
 have HB := Aside0.mk (Below.refl w.heap.size w)
 have H := h
 clear h
 unfold spec_l29Kind.f at H
 obtain ⟨t341, A2, H⟩ := ob_ H
 by_cases c3 : t341 = true
 · subst c3
   rw [if_pos rfl] at H
   obtain rfl := Option.some.inj H
   go_enter Tryz.func39, Tryz.ntmps39
   go_wp2_with (first | ((with_reducible refine gate_dst (N := 1) rfl ?_); refine bx_ 1 #[.slice A0_0 l0_0.length c0_0] 29 ?_; intro gb340 hg w4 hbox hb; have BK340 := Aside0.mk (hbox); have GW340 := gw_ hg HB; have GE340 := gw_ hg HB; replace HB := bo_ HB hb; clear hb hbox hg; have hcz5_0 := cz_ BK340; have hfz5_0 := blk_frozen BK340.out 0) | ((with_reducible refine gate_callee (f := 76) rfl ?_); refine gL_ (some 4) Tryz.func76 #[.agg #[.slice A0_0 l0_0.length c0_0]] ?_; (with_reducible refine (spec_IsSymmetric.calls k _ _ l0_0 true _ ?side1 ?side2 A2.out).mono ?_); (case side1 => exact ch_ HR0_0 HB); (case side2 => exact HC0_0.out); rintro e w6 ⟨rfl, hb⟩; refine ⟨_, rfl, ?_⟩; replace BK340 := bk_ BK340 hb; replace HB := bp_ HB hb; (try clear hb)))
   go_ret
   exact ⟨rf_, bq_ HB⟩
 · replace c3 := Bool.eq_false_iff.mpr c3
   subst c3
   rw [if_neg (show ¬ (false = true) by decide)] at H
   obtain ⟨t342, A7, H⟩ := ob_ H
   by_cases c8 : t342 = true
   · subst c8
     rw [if_pos rfl] at H
     obtain rfl := Option.some.inj H
     go_enter Tryz.func39, Tryz.ntmps39
     go_wp2_with (first | ((with_reducible refine gate_dst (N := 1) rfl ?_); refine bx_ 1 #[.slice A0_0 l0_0.length c0_0] 29 ?_; intro gb340 hg w9 hbox hb; have BK340 := Aside0.mk (hbox); have GW340 := gw_ hg HB; have GE340 := gw_ hg HB; replace HB := bo_ HB hb; clear hb hbox hg; have hcz10_0 := cz_ BK340; have hfz10_0 := blk_frozen BK340.out 0) | ((with_reducible refine gate_callee (f := 76) rfl ?_); refine gL_ (some 4) Tryz.func76 #[.agg #[.slice A0_0 l0_0.length c0_0]] ?_; (with_reducible refine (spec_IsSymmetric.calls k _ _ l0_0 false _ ?side1 ?side2 A2.out).mono ?_); (case side1 => exact ch_ HR0_0 HB); (case side2 => exact HC0_0.out); rintro e w11 ⟨rfl, hb⟩; refine ⟨_, rfl, ?_⟩; replace BK340 := bk_ BK340 hb; replace HB := bp_ HB hb; (try clear hb); have hcz12_0 := cz_ BK340; have hfz12_0 := blk_frozen BK340.out 0) | ((with_reducible refine gate_callee (f := 77) rfl ?_); refine gL_ (some 6) Tryz.func77 #[.agg #[.slice A0_0 l0_0.length c0_0]] ?_; (with_reducible refine (spec_IsPseudoSymmetric.calls k _ _ l0_0 true _ ?side1 ?side2 A7.out).mono ?_); (case side1 => exact ch_ HR0_0 HB); (case side2 => exact HC0_0.out); rintro e w13 ⟨rfl, hb⟩; refine ⟨_, rfl, ?_⟩; replace BK340 := bk_ BK340 hb; replace HB := bp_ HB hb; (try clear hb)))
     go_ret
     exact ⟨rf_, bq_ HB⟩
   · replace c8 := Bool.eq_false_iff.mpr c8
     subst c8
     rw [if_neg (show ¬ (false = true) by decide)] at H
     obtain rfl := Option.some.inj H
     go_enter Tryz.func39, Tryz.ntmps39
     go_wp2_with (first | ((with_reducible refine gate_dst (N := 1) rfl ?_); refine bx_ 1 #[.slice A0_0 l0_0.length c0_0] 29 ?_; intro gb340 hg w14 hbox hb; have BK340 := Aside0.mk (hbox); have GW340 := gw_ hg HB; have GE340 := gw_ hg HB; replace HB := bo_ HB hb; clear hb hbox hg; have hcz15_0 := cz_ BK340; have hfz15_0 := blk_frozen BK340.out 0) | ((with_reducible refine gate_callee (f := 76) rfl ?_); refine gL_ (some 4) Tryz.func76 #[.agg #[.slice A0_0 l0_0.length c0_0]] ?_; (with_reducible refine (spec_IsSymmetric.calls k _ _ l0_0 false _ ?side1 ?side2 A2.out).mono ?_); (case side1 => exact ch_ HR0_0 HB); (case side2 => exact HC0_0.out); rintro e w16 ⟨rfl, hb⟩; refine ⟨_, rfl, ?_⟩; replace BK340 := bk_ BK340 hb; replace HB := bp_ HB hb; (try clear hb); have hcz17_0 := cz_ BK340; have hfz17_0 := blk_frozen BK340.out 0) | ((with_reducible refine gate_callee (f := 77) rfl ?_); refine gL_ (some 6) Tryz.func77 #[.agg #[.slice A0_0 l0_0.length c0_0]] ?_; (with_reducible refine (spec_IsPseudoSymmetric.calls k _ _ l0_0 false _ ?side1 ?side2 A7.out).mono ?_); (case side1 => exact ch_ HR0_0 HB); (case side2 => exact HC0_0.out); rintro e w18 ⟨rfl, hb⟩; refine ⟨_, rfl, ?_⟩; replace BK340 := bk_ BK340 hb; replace HB := bp_ HB hb; (try clear hb)))
     go_ret
     exact ⟨rf_, bq_ HB⟩
def spec_GapText.f (k : Nat) (l0_0 : List Int) : Option (ByteArray) := (spec_IsSemigroup.f k l0_0).bind fun t344 => (if t344 = true then ((spec_Gaps.f k l0_0).bind fun t345 => ((spec_ListText.f k t345).bind fun t348 => (some t348))) else (some (⟨#[]⟩ : ByteArray)))
theorem spec_GapText.calls (k : Nat) (A0_0 : Option Addr) (c0_0 : Nat) (l0_0 : List Int) (r : ByteArray) (w : World) (hr0_0 : Kd.C (Kd.int .i64) w A0_0 l0_0.length l0_0) (hc0_0 : l0_0.length ≤ c0_0) (h : spec_GapText.f k l0_0 = some r) :
 Calls Tryz.prog 40 #[.agg #[.slice A0_0 l0_0.length c0_0]] w fun e w' => e = .returned (.string r) ∧ Below w.heap.size w w' := by
 have hu29 := Tryz.underlying29
 have HR0_0 := Aside0.mk hr0_0
 have HC0_0 := Aside0.mk hc0_0
 clear hr0_0 hc0_0
 have HB := Aside0.mk (Below.refl w.heap.size w)
 have H := h
 clear h
 unfold spec_GapText.f at H
 obtain ⟨t344, A2, H⟩ := ob_ H
 by_cases c3 : t344 = true
 · subst c3
   rw [if_pos rfl] at H
   obtain ⟨t345, A4, H⟩ := ob_ H
   obtain ⟨t348, A5, H⟩ := ob_ H
   obtain rfl := Option.some.inj H
   go_enter Tryz.func40, Tryz.ntmps40
   go_wp2_with (first | ((with_reducible refine gate_dst (N := 1) rfl ?_); refine bx_ 1 #[.slice A0_0 l0_0.length c0_0] 29 ?_; intro gb343 hg w6 hbox hb; have BK343 := Aside0.mk (hbox); have GW343 := gw_ hg HB; have GE343 := gw_ hg HB; replace HB := bo_ HB hb; clear hb hbox hg; have hcz7_0 := cz_ BK343; have hfz7_0 := blk_frozen BK343.out 0) | ((with_reducible refine gate_callee (f := 34) rfl ?_); refine gL_ (some 4) Tryz.func34 #[.agg #[.slice A0_0 l0_0.length c0_0]] ?_; (with_reducible refine (spec_IsSemigroup.calls k _ _ l0_0 true _ ?side1 ?side2 A2.out).mono ?_); (case side1 => exact ch_ HR0_0 HB); (case side2 => exact HC0_0.out); rintro e w8 ⟨rfl, hb⟩; refine ⟨_, rfl, ?_⟩; replace BK343 := bk_ BK343 hb; replace HB := bp_ HB hb; (try clear hb); have hcz9_0 := cz_ BK343; have hfz9_0 := blk_frozen BK343.out 0) | ((with_reducible refine gate_callee (f := 72) rfl ?_); refine gL_ (some 7) Tryz.func72 #[.agg #[.slice A0_0 l0_0.length c0_0]] ?_; (with_reducible refine (spec_Gaps.calls k _ _ l0_0 t345 _ ?side1 ?side2 A4.out).mono ?_); (case side1 => exact ch_ HR0_0 HB); (case side2 => exact HC0_0.out); rintro e w10 ⟨v346, rfl, ho0, hb⟩; refine ⟨_, rfl, ?_⟩; have HO347 := Aside0.mk (Kd.R_lower ho0 (below_size (bq_ HB))); replace BK343 := bk_ BK343 hb; replace HB := bp_ HB hb; (try clear hb); (try clear ho0); obtain ⟨Ao11, co11, eo11⟩ := Kd.R_slice HO347.out; subst eo11) | ((with_reducible refine gate_callee (f := 41) rfl ?_); refine gL_ (some 8) Tryz.func41 #[.slice Ao11 t345.length co11] ?_; (with_reducible refine (spec_ListText.calls k _ _ t345 t348 _ ?side1 ?side2 A5.out).mono ?_); (case side1 => exact ce_ ((Kd.R_reads' HO347.out).2.2)); (case side2 => exact (Kd.R_reads' HO347.out).2.1); rintro e w12 ⟨rfl, hb⟩; refine ⟨_, rfl, ?_⟩; replace HO347 := Aside0.mk (Kd.R_below (re_ HO347.out) hb); replace BK343 := bk_ BK343 hb; replace HB := bp_ HB hb; (try clear hb)))
   go_ret
   exact ⟨rf_, bq_ HB⟩
 · replace c3 := Bool.eq_false_iff.mpr c3
   subst c3
   rw [if_neg (show ¬ (false = true) by decide)] at H
   obtain rfl := Option.some.inj H
   go_enter Tryz.func40, Tryz.ntmps40
   go_wp2_with (first | ((with_reducible refine gate_dst (N := 1) rfl ?_); refine bx_ 1 #[.slice A0_0 l0_0.length c0_0] 29 ?_; intro gb343 hg w13 hbox hb; have BK343 := Aside0.mk (hbox); have GW343 := gw_ hg HB; have GE343 := gw_ hg HB; replace HB := bo_ HB hb; clear hb hbox hg; have hcz14_0 := cz_ BK343; have hfz14_0 := blk_frozen BK343.out 0) | ((with_reducible refine gate_callee (f := 34) rfl ?_); refine gL_ (some 4) Tryz.func34 #[.agg #[.slice A0_0 l0_0.length c0_0]] ?_; (with_reducible refine (spec_IsSemigroup.calls k _ _ l0_0 false _ ?side1 ?side2 A2.out).mono ?_); (case side1 => exact ch_ HR0_0 HB); (case side2 => exact HC0_0.out); rintro e w15 ⟨rfl, hb⟩; refine ⟨_, rfl, ?_⟩; replace BK343 := bk_ BK343 hb; replace HB := bp_ HB hb; (try clear hb)))
   go_ret
   exact ⟨rf_, bq_ HB⟩
def spec_Contains.f (k : Nat) (l0_0 : List Int) (a1 : Int) : Option (Bool) := (spec_IsSemigroup.f k l0_0).bind fun t350 => (if t350 = true then ((spec_l3Has.f k l0_0 a1).bind fun t351 => (some t351)) else (some false))
theorem spec_Contains.calls (k : Nat) (A0_0 : Option Addr) (c0_0 : Nat) (l0_0 : List Int) (a1 : Int) (r : Bool) (w : World) (hr0_0 : Kd.C (Kd.int .i64) w A0_0 l0_0.length l0_0) (hc0_0 : l0_0.length ≤ c0_0) (h : spec_Contains.f k l0_0 a1 = some r) :
 Calls Tryz.prog 79 #[.agg #[.slice A0_0 l0_0.length c0_0], .int .i64 a1] w fun e w' => e = .returned (.bool r) ∧ Below w.heap.size w w' := by
 have hu29 := Tryz.underlying29
 have HR0_0 := Aside0.mk hr0_0
 have HC0_0 := Aside0.mk hc0_0
 clear hr0_0 hc0_0
 have HB := Aside0.mk (Below.refl w.heap.size w)
 have H := h
 clear h
 unfold spec_Contains.f at H
 obtain ⟨t350, A3, H⟩ := ob_ H
 by_cases c4 : t350 = true
 · subst c4
   rw [if_pos rfl] at H
   obtain ⟨t351, A5, H⟩ := ob_ H
   obtain rfl := Option.some.inj H
   go_enter Tryz.func79, Tryz.ntmps79
   go_wp2_with (first | ((with_reducible refine gate_dst (N := 2) rfl ?_); refine bx_ 2 #[.slice A0_0 l0_0.length c0_0] 29 ?_; intro gb349 hg w6 hbox hb; have BK349 := Aside0.mk (hbox); have GW349 := gw_ hg HB; have GE349 := gw_ hg HB; replace HB := bo_ HB hb; clear hb hbox hg; have hcz7_0 := cz_ BK349; have hfz7_0 := blk_frozen BK349.out 0) | ((with_reducible refine gate_callee (f := 34) rfl ?_); refine gL_ (some 6) Tryz.func34 #[.agg #[.slice A0_0 l0_0.length c0_0]] ?_; (with_reducible refine (spec_IsSemigroup.calls k _ _ l0_0 true _ ?side1 ?side2 A3.out).mono ?_); (case side1 => exact ch_ HR0_0 HB); (case side2 => exact HC0_0.out); rintro e w8 ⟨rfl, hb⟩; refine ⟨_, rfl, ?_⟩; replace BK349 := bk_ BK349 hb; replace HB := bp_ HB hb; (try clear hb); have hcz9_0 := cz_ BK349; have hfz9_0 := blk_frozen BK349.out 0) | (go_at_call 104; (with_reducible refine (spec_l3Has.calls k _ _ l0_0 a1 t351 _ ?side1 ?side2 A5.out).mono ?_); (case side1 => exact ch_ HR0_0 HB); (case side2 => exact HC0_0.out); rintro e w10 ⟨rfl, hb⟩; replace BK349 := bk_ BK349 hb; replace HB := bp_ HB hb; (try clear hb)))
   go_ret
   exact ⟨rf_, bq_ HB⟩
 · replace c4 := Bool.eq_false_iff.mpr c4
   subst c4
   rw [if_neg (show ¬ (false = true) by decide)] at H
   obtain rfl := Option.some.inj H
   go_enter Tryz.func79, Tryz.ntmps79
   go_wp2_with (first | ((with_reducible refine gate_dst (N := 2) rfl ?_); refine bx_ 2 #[.slice A0_0 l0_0.length c0_0] 29 ?_; intro gb349 hg w11 hbox hb; have BK349 := Aside0.mk (hbox); have GW349 := gw_ hg HB; have GE349 := gw_ hg HB; replace HB := bo_ HB hb; clear hb hbox hg; have hcz12_0 := cz_ BK349; have hfz12_0 := blk_frozen BK349.out 0) | ((with_reducible refine gate_callee (f := 34) rfl ?_); refine gL_ (some 6) Tryz.func34 #[.agg #[.slice A0_0 l0_0.length c0_0]] ?_; (with_reducible refine (spec_IsSemigroup.calls k _ _ l0_0 false _ ?side1 ?side2 A3.out).mono ?_); (case side1 => exact ch_ HR0_0 HB); (case side2 => exact HC0_0.out); rintro e w13 ⟨rfl, hb⟩; refine ⟨_, rfl, ?_⟩; replace BK349 := bk_ BK349 hb; replace HB := bp_ HB hb; (try clear hb)))
   go_ret
   exact ⟨rf_, bq_ HB⟩
mutual
def spec_l6Apery.l0 : Nat → Int → List Bool → List Int → Int → Option (List Int)
 | 0, _, _, _, _ => none
 | k + 1, x1, x5, x6, x7 => if x7 < x1 then (spec_l6Apery.l1 k x1 x5 x6 x7 x7) else (some x6)
def spec_l6Apery.l1 : Nat → Int → List Bool → List Int → Int → Int → Option (List Int)
 | 0, _, _, _, _, _ => none
 | k + 1, x1, x5, x6, x7, x8 => if 0 ≤ x8 then (if x8 < (x5.length : Int) then (if rdOf false x5 x8 = true then (if x6.length < 17592186044416 then (spec_l6Apery.l0 k x1 x5 (x6 ++ [x8]) (wrap64 (x7 + 1))) else (none)) else (spec_l6Apery.l1 k x1 x5 x6 x7 (wrap64 (x8 + x1)))) else (none)) else (none)
end
def spec_l6Apery.f (k : Nat) (l0_0 : List Int) (a1 : Int) : Option (List Int) := (spec_l3Table.f k l0_0 260).bind fun t353 => (spec_l6Apery.l0 k a1 t353 (([] : List Int)) 0)
theorem spec_l6Apery.calls (k : Nat) (A0_0 : Option Addr) (c0_0 : Nat) (l0_0 : List Int) (a1 : Int) (r : List Int) (w : World) (hr0_0 : Kd.C (Kd.int .i64) w A0_0 l0_0.length l0_0) (hc0_0 : l0_0.length ≤ c0_0) (h : spec_l6Apery.f k l0_0 a1 = some r) :
 Calls Tryz.prog 81 #[.agg #[.slice A0_0 l0_0.length c0_0], .int .i64 a1] w fun e w' => ∃ v0_ : Value, e = .returned (v0_) ∧ Kd.R (Kd.int .i64) 3 w' w.heap.size (fun _ => True) v0_ r ∧ Below w.heap.size w w' := by
 have hu29 := Tryz.underlying29
 have HR0_0 := Aside0.mk hr0_0
 have HC0_0 := Aside0.mk hc0_0
 clear hr0_0 hc0_0
 have HB := Aside0.mk (Below.refl w.heap.size w)
 have H := h
 clear h
 unfold spec_l6Apery.f at H
 obtain ⟨t353, A3, H⟩ := ob_ H
 obtain ⟨y356, hy356⟩ : ∃ y_ : List Int, y_ = (([] : List Int)) := ⟨_, rfl⟩
 replace H : (spec_l6Apery.l0 k a1 t353 y356 0) = some r := by subst hy356; exact H
 have Ny356 := Aside0.mk hy356
 clear hy356
 have H' := Aside0.mk H
 clear H
 go_enter Tryz.func81, Tryz.ntmps81
 go_wp2_with (first | ((with_reducible refine gate_dst (N := 2) rfl ?_); refine bx_ 2 #[.slice A0_0 l0_0.length c0_0] 29 ?_; intro gb352 hg w4 hbox hb; have BK352 := Aside0.mk (hbox); have GW352 := gw_ hg HB; have GE352 := gw_ hg HB; replace HB := bo_ HB hb; clear hb hbox hg; have hcz5_0 := cz_ BK352; have hfz5_0 := blk_frozen BK352.out 0) | ((with_reducible refine gate_callee (f := 101) rfl ?_); refine gL_ (some 11) Tryz.func101 #[.slice A0_0 l0_0.length c0_0, .int .i64 260] ?_; (with_reducible refine (spec_l3Table.calls k _ _ l0_0 260 t353 _ ?side1 ?side2 A3.out).mono ?_); (case side1 => exact ch_ HR0_0 HB); (case side2 => exact HC0_0.out); rintro e w6 ⟨v354, rfl, ho0, hb⟩; refine ⟨_, rfl, ?_⟩; have HO355 := Aside0.mk (Kd.R_lower ho0 (below_size (bq_ HB))); replace BK352 := bk_ BK352 hb; replace HB := bp_ HB hb; (try clear hb); (try clear ho0)) | ((with_reducible refine gate_dst (N := 12) rfl ?_); refine Kd.R_lit (Kd.int .i64) _ 3 ?hg (N := 12) ?hd (xs := ([] : List Int)) (inner := []) (ok := fun _ => True) (okp := fun _ => True) ?hr ?hp (fun _ hk => hk) trivial (Below.refl _ _) (Nat.le_refl _) (by simp) ?_; (case hd => rfl); (case hg => rfl); (case hr => first | (go_simp; done) | (go_simp; rfl)); (case hp => exact (Reps.none _ _)); intro v357 w7 ho8 hb hg_ hnew_; clear hg_ hnew_; (first | rw [← Ny356.out] at ho8 | (simp only [Int.reduceToNat] at ho8; rw [← Ny356.out] at ho8)); replace HO355 := Aside0.mk (Kd.R_below (re_ HO355.out) hb); have HO358 := Aside0.mk (Kd.R_lower ho8 (below_size (bq_ HB))); replace BK352 := bk_ BK352 hb; replace HB := bp_ HB hb; clear hb ho8))
 go_loopg [6, 7] k (fun kq v6 v7 w' => ∃ (x6_1 : List Int) (x7_1 : Int), v7 = .int .i64 x7_1 ∧ Aside0 (spec_l6Apery.l0 kq a1 t353 x6_1 x7_1 = some r) ∧ Aside0 (kq ≤ k) ∧ Aside0 (Kd.R Kd.bool 4 w' w.heap.size (fun _ => True) v354 t353) ∧ Aside0 (Kd.R (Kd.int .i64) 3 w' w.heap.size (fun _ => True) v6 x6_1) ∧ Aside0 (w'.heap[gb352]? = some (.cells #[(.slice A0_0 l0_0.length c0_0)] 29 (0, 0))) ∧ Aside0 (Below w.heap.size w w'))
 case atStart => exact ⟨(y356), (0), rs_, H', ⟨Nat.le_refl _⟩, ⟨re_ HO355.out⟩, ⟨re_ HO358.out⟩, ⟨be_ BK352.out⟩, ⟨bq_ HB⟩⟩
 case round =>
  clear H'
  try clear c1
  try clear p2
  try clear c8
  try clear hcz5_0
  try clear hfz5_0
  obtain ⟨x6_1, x7_1, rfl, HA, HK1, HO_5, HO_6, BK352, HB⟩ := hrel
  cases gk with
  | zero => exact absurd HA.out (by simp [spec_l6Apery.l0])
  | succ k1 =>
   have H := HA.out
   clear HA
   simp only [spec_l6Apery.l0] at H
   by_cases c9 : x7_1 < a1
   · rw [if_pos c9] at H
     have c9b0 : decide (x7_1 < a1) = true := decide_eq_true c9
     clear c9
     have H' := Aside0.mk H
     clear H
     go_wp2
     go_loopg [8] k1 (fun kq v8 w' => ∃ (x8_2 : Int), v8 = .int .i64 x8_2 ∧ Aside0 (spec_l6Apery.l1 kq a1 t353 x6_1 x7_1 x8_2 = some r) ∧ Aside0 (kq ≤ k1) ∧ Aside0 (Kd.R Kd.bool 4 w' w.heap.size (fun _ => True) v354 t353) ∧ Aside0 (Kd.R (Kd.int .i64) 3 w' w.heap.size (fun _ => True) u6 x6_1) ∧ Aside0 (w'.heap[gb352]? = some (.cells #[(.slice A0_0 l0_0.length c0_0)] 29 (0, 0))) ∧ Aside0 (Below w.heap.size w w'))
     case atStart => exact ⟨(x7_1), rs_, H', ⟨Nat.le_refl _⟩, ⟨re_ HO_5.out⟩, ⟨re_ HO_6.out⟩, ⟨be_ BK352.out⟩, ⟨bq_ HB⟩⟩
     case round =>
      clear H'
      try clear c1
      try clear p2
      try clear c8
      try clear c9
      try clear c9b0
      try clear hcz5_0
      try clear hfz5_0
      try clear p2
      obtain ⟨x8_2, rfl, HA, HK2, HO_5, HO_6, BK352, HB⟩ := hrel
      cases gk with
      | zero => exact absurd HA.out (by simp [spec_l6Apery.l1])
      | succ k2 =>
       have H := HA.out
       clear HA
       simp only [spec_l6Apery.l1] at H
       by_cases c10 : 0 ≤ x8_2
       · rw [if_pos c10] at H
         have c10b0 : decide (0 ≤ x8_2) = true := decide_eq_true c10
         clear c10
         by_cases c11 : x8_2 < (t353.length : Int)
         · rw [if_pos c11] at H
           have c11b0 : decide (x8_2 < (t353.length : Int)) = true := decide_eq_true c11
           clear c11
           obtain ⟨bq12, hbq12⟩ : ∃ b_ : Bool, b_ = (rdOf false t353 x8_2) := ⟨_, rfl⟩
           replace H : (if bq12 = true then (if x6_1.length < 17592186044416 then (spec_l6Apery.l0 k2 a1 t353 (x6_1 ++ [x8_2]) (wrap64 (x7_1 + 1))) else (none)) else (spec_l6Apery.l1 k2 a1 t353 x6_1 x7_1 (wrap64 (x8_2 + a1)))) = some r := by rw [← hbq12] at H; exact H
           have Nbq12 := Aside0.mk hbq12
           clear hbq12
           by_cases c13 : bq12 = true
           · subst c13
             rw [if_pos rfl] at H
             by_cases c14 : x6_1.length < 17592186044416
             · rw [if_pos c14] at H
               have LMc14 := Aside0.mk c14
               clear c14
               obtain ⟨y360, hy360⟩ : ∃ y_ : List Int, y_ = (x6_1 ++ [x8_2]) := ⟨_, rfl⟩
               replace H : (spec_l6Apery.l0 k2 a1 t353 y360 (wrap64 (x7_1 + 1))) = some r := by subst hy360; exact H
               have Ny360 := Aside0.mk hy360
               clear hy360
               have H' := Aside0.mk H
               clear H
               obtain ⟨Ao15, co15, eo15⟩ := Kd.R_slice HO_5.out
               subst eo15
               have p359 : 0 ≤ (x8_2 : Int) := od_
               have q359 : x8_2 < (t353.length : Int) := od_
               obtain ⟨ad359, e359, hx359_0⟩ := Kd.at_bool (Kd.R_reads' HO_5.out).2.2 x8_2 p359 q359
               (try rw [← Nbq12.out] at hx359_0)
               cases e359
               replace p359 := eq_true p359
               replace q359 := eq_true q359
               go_wp2_with (first | ((with_reducible refine gate_builtin (b := .append) (xs := #[.tmp 27, .tmp 29]) rfl ?_); at_builtin; refine Kd.R_append (Kd.int .i64) (w0 := w) w.heap.size rfl (.tmp 27) (.tmp 29) 27 3 (.int .i64 0) 8 rfl Tryz.underlying27 info3 rfl (by decide) (by omega) u6 x6_1 x8_2 [.int .i64 x8_2] (fun _ => True) (fun _ => False) rfl rfl ?aP (fun _ hk => hk.elim) ?aF ?aO ?aB ?aS ?aL ?_; (case aP => exact rfl); (case aB => exact (bq_ HB)); (case aF => exact (fun _ _ => trivial)); (case aO => exact (re_ HO_6.out)); (case aS => exact (below_size (bq_ HB))); (case aL => have := LMc14.out; omega); intro v361 w16 ho hb hg hat; rw [← Ny360.out] at ho; replace HO_5 := Aside0.mk (Kd.R_over' (re_ HO_5.out) (Kd.R_typed (re_ HO_6.out)) (by decide) hg); replace BK352 := Aside0.mk (blk_grown (be_ BK352.out) hg (Kd.R_ne HO_6.out BK352.out (by decide))); replace HB := Aside0.mk (hb); have HO362 := Aside0.mk (ho); clear HO_6; clear ho hb hg hat))
               go_roundg k2
               case measure => have := HK1.out; have := HK2.out; omega
               case rel => exact ⟨(y360), (wrap64 (x7_1 + 1)), rs_, H', ⟨by have := HK1.out; have := HK2.out; omega⟩, ⟨re_ HO_5.out⟩, ⟨re_ HO362.out⟩, ⟨be_ BK352.out⟩, ⟨bq_ HB⟩⟩
             · rw [if_neg c14] at H
               cases H
           · replace c13 := Bool.eq_false_iff.mpr c13
             subst c13
             rw [if_neg (show ¬ (false = true) by decide)] at H
             have H' := Aside0.mk H
             clear H
             obtain ⟨Ao17, co17, eo17⟩ := Kd.R_slice HO_5.out
             subst eo17
             have p359 : 0 ≤ (x8_2 : Int) := od_
             have q359 : x8_2 < (t353.length : Int) := od_
             obtain ⟨ad359, e359, hx359_0⟩ := Kd.at_bool (Kd.R_reads' HO_5.out).2.2 x8_2 p359 q359
             (try rw [← Nbq12.out] at hx359_0)
             cases e359
             replace p359 := eq_true p359
             replace q359 := eq_true q359
             go_wp2
             go_roundg k2
             case measure => have := HK1.out; have := HK2.out; omega
             case rel => exact ⟨(wrap64 (x8_2 + a1)), rs_, H', ⟨by have := HK1.out; have := HK2.out; omega⟩, ⟨re_ HO_5.out⟩, ⟨re_ HO_6.out⟩, ⟨be_ BK352.out⟩, ⟨bq_ HB⟩⟩
         · rw [if_neg c11] at H
           cases H
       · rw [if_neg c10] at H
         cases H
   · rw [if_neg c9] at H
     have c9b0 : decide (x7_1 < a1) = false := decide_eq_false c9
     clear c9
     obtain rfl := Option.some.inj H
     go_wp2
     go_ret
     exact ⟨_, rf_, re_ HO_6.out, bq_ HB⟩
def spec_AperySet.f (k : Nat) (l0_0 : List Int) (a1 : Int) : Option (List Int) := (spec_Contains.f k l0_0 a1).bind fun t364 => (if t364 = true then ((spec_l1In.f a1 1 60).bind fun t365 => (if t365 = true then ((spec_l6Apery.f k l0_0 a1).bind fun t366 => (some t366)) else (some (([] : List Int))))) else (some (([] : List Int))))
theorem spec_AperySet.calls (k : Nat) (A0_0 : Option Addr) (c0_0 : Nat) (l0_0 : List Int) (a1 : Int) (r : List Int) (w : World) (hr0_0 : Kd.C (Kd.int .i64) w A0_0 l0_0.length l0_0) (hc0_0 : l0_0.length ≤ c0_0) (h : spec_AperySet.f k l0_0 a1 = some r) :
 Calls Tryz.prog 42 #[.agg #[.slice A0_0 l0_0.length c0_0], .int .i64 a1] w fun e w' => ∃ v0_ : Value, e = .returned (v0_) ∧ Kd.R (Kd.int .i64) 3 w' w.heap.size (fun _ => True) v0_ r ∧ Below w.heap.size w w' := by
 have hu29 := Tryz.underlying29
 have HR0_0 := Aside0.mk hr0_0
 have HC0_0 := Aside0.mk hc0_0
 clear hr0_0 hc0_0
 have HB := Aside0.mk (Below.refl w.heap.size w)
 have H := h
 clear h
 unfold spec_AperySet.f at H
 obtain ⟨t364, A3, H⟩ := ob_ H
 by_cases c4 : t364 = true
 · subst c4
   rw [if_pos rfl] at H
   obtain ⟨t365, A5, H⟩ := ob_ H
   by_cases c6 : t365 = true
   · subst c6
     rw [if_pos rfl] at H
     obtain ⟨t366, A7, H⟩ := ob_ H
     obtain rfl := Option.some.inj H
     go_enter Tryz.func42, Tryz.ntmps42
     go_wp2_with (first | ((with_reducible refine gate_dst (N := 2) rfl ?_); refine bx_ 2 #[.slice A0_0 l0_0.length c0_0] 29 ?_; intro gb363 hg w8 hbox hb; have BK363 := Aside0.mk (hbox); have GW363 := gw_ hg HB; have GE363 := gw_ hg HB; replace HB := bo_ HB hb; clear hb hbox hg; have hcz9_0 := cz_ BK363; have hfz9_0 := blk_frozen BK363.out 0) | ((with_reducible refine gate_callee (f := 79) rfl ?_); refine gL_ (some 7) Tryz.func79 #[.agg #[.slice A0_0 l0_0.length c0_0], .int .i64 a1] ?_; (with_reducible refine (spec_Contains.calls k _ _ l0_0 a1 true _ ?side1 ?side2 A3.out).mono ?_); (case side1 => exact ch_ HR0_0 HB); (case side2 => exact HC0_0.out); rintro e w10 ⟨rfl, hb⟩; refine ⟨_, rfl, ?_⟩; replace BK363 := bk_ BK363 hb; replace HB := bp_ HB hb; (try clear hb)) | (go_at_call 80; (with_reducible refine (spec_l1In.calls a1 1 60 true _ A5.out).mono ?_); rintro e w' ⟨rfl, ⟨nd, rfl⟩⟩; have hcz11_0 := cz_ BK363; have hfz11_0 := blk_frozen BK363.out 0) | ((with_reducible refine gate_callee (f := 81) rfl ?_); refine gL_ (some 17) Tryz.func81 #[.agg #[.slice A0_0 l0_0.length c0_0], .int .i64 a1] ?_; (with_reducible refine (spec_l6Apery.calls k _ _ l0_0 a1 t366 _ ?side1 ?side2 A7.out).mono ?_); (case side1 => repeat (first | exact (Kd.C_below HR0_0.out (bq_ HB)) | (with_reducible refine Kd.C_alloc ?_ _) | (with_reducible refine Kd.C_drewN ?_ _) | (with_reducible refine Kd.C_drew ?_))); (case side2 => exact HC0_0.out); rintro e w12 ⟨v367, rfl, ho0, hb⟩; refine ⟨_, rfl, ?_⟩; have HO368 := Aside0.mk (Kd.R_lower ho0 (below_size (bq_ HB))); replace BK363 := bk_ BK363 hb; replace HB := bp_ HB hb; (try clear hb); (try clear ho0)))
     go_ret
     exact ⟨_, rf_, re_ HO368.out, bq_ HB⟩
   · replace c6 := Bool.eq_false_iff.mpr c6
     subst c6
     rw [if_neg (show ¬ (false = true) by decide)] at H
     obtain ⟨y369, hy369⟩ : ∃ y_ : List Int, y_ = (([] : List Int)) := ⟨_, rfl⟩
     replace H : (some y369) = some r := by subst hy369; exact H
     have Ny369 := Aside0.mk hy369
     clear hy369
     obtain rfl := Option.some.inj H
     go_enter Tryz.func42, Tryz.ntmps42
     go_wp2_with (first | ((with_reducible refine gate_dst (N := 2) rfl ?_); refine bx_ 2 #[.slice A0_0 l0_0.length c0_0] 29 ?_; intro gb363 hg w13 hbox hb; have BK363 := Aside0.mk (hbox); have GW363 := gw_ hg HB; have GE363 := gw_ hg HB; replace HB := bo_ HB hb; clear hb hbox hg; have hcz14_0 := cz_ BK363; have hfz14_0 := blk_frozen BK363.out 0) | ((with_reducible refine gate_callee (f := 79) rfl ?_); refine gL_ (some 7) Tryz.func79 #[.agg #[.slice A0_0 l0_0.length c0_0], .int .i64 a1] ?_; (with_reducible refine (spec_Contains.calls k _ _ l0_0 a1 true _ ?side1 ?side2 A3.out).mono ?_); (case side1 => exact ch_ HR0_0 HB); (case side2 => exact HC0_0.out); rintro e w15 ⟨rfl, hb⟩; refine ⟨_, rfl, ?_⟩; replace BK363 := bk_ BK363 hb; replace HB := bp_ HB hb; (try clear hb)) | (go_at_call 80; (with_reducible refine (spec_l1In.calls a1 1 60 false _ A5.out).mono ?_); rintro e w' ⟨rfl, ⟨nd, rfl⟩⟩) | ((with_reducible refine gate_dst (N := 14) rfl ?_); refine Kd.R_lit (Kd.int .i64) _ 3 ?hg (N := 14) ?hd (xs := ([] : List Int)) (inner := []) (ok := fun _ => True) (okp := fun _ => True) ?hr ?hp (fun _ hk => hk) trivial (Below.refl _ _) (Nat.le_refl _) (by simp) ?_; (case hd => rfl); (case hg => rfl); (case hr => first | (go_simp; done) | (go_simp; rfl)); (case hp => exact (Reps.none _ _)); intro v370 w16 ho17 hb hg_ hnew_; clear hg_ hnew_; (first | rw [← Ny369.out] at ho17 | (simp only [Int.reduceToNat] at ho17; rw [← Ny369.out] at ho17)); have HO371 := Aside0.mk (Kd.R_lower ho17 (below_size (bq_ HB))); replace BK363 := bk_ BK363 hb; replace HB := bp_ HB hb; clear hb ho17))
     go_ret
     exact ⟨_, rf_, re_ HO371.out, bq_ HB⟩
 · replace c4 := Bool.eq_false_iff.mpr c4
   subst c4
   rw [if_neg (show ¬ (false = true) by decide)] at H
   obtain ⟨y372, hy372⟩ : ∃ y_ : List Int, y_ = (([] : List Int)) := ⟨_, rfl⟩
   replace H : (some y372) = some r := by subst hy372; exact H
   have Ny372 := Aside0.mk hy372
   clear hy372
   obtain rfl := Option.some.inj H
   go_enter Tryz.func42, Tryz.ntmps42
   go_wp2_with (first | ((with_reducible refine gate_dst (N := 2) rfl ?_); refine bx_ 2 #[.slice A0_0 l0_0.length c0_0] 29 ?_; intro gb363 hg w18 hbox hb; have BK363 := Aside0.mk (hbox); have GW363 := gw_ hg HB; have GE363 := gw_ hg HB; replace HB := bo_ HB hb; clear hb hbox hg; have hcz19_0 := cz_ BK363; have hfz19_0 := blk_frozen BK363.out 0) | ((with_reducible refine gate_callee (f := 79) rfl ?_); refine gL_ (some 7) Tryz.func79 #[.agg #[.slice A0_0 l0_0.length c0_0], .int .i64 a1] ?_; (with_reducible refine (spec_Contains.calls k _ _ l0_0 a1 false _ ?side1 ?side2 A3.out).mono ?_); (case side1 => exact ch_ HR0_0 HB); (case side2 => exact HC0_0.out); rintro e w20 ⟨rfl, hb⟩; refine ⟨_, rfl, ?_⟩; replace BK363 := bk_ BK363 hb; replace HB := bp_ HB hb; (try clear hb)) | ((with_reducible refine gate_dst (N := 14) rfl ?_); refine Kd.R_lit (Kd.int .i64) _ 3 ?hg (N := 14) ?hd (xs := ([] : List Int)) (inner := []) (ok := fun _ => True) (okp := fun _ => True) ?hr ?hp (fun _ hk => hk) trivial (Below.refl _ _) (Nat.le_refl _) (by simp) ?_; (case hd => rfl); (case hg => rfl); (case hr => first | (go_simp; done) | (go_simp; rfl)); (case hp => exact (Reps.none _ _)); intro v373 w21 ho22 hb hg_ hnew_; clear hg_ hnew_; (first | rw [← Ny372.out] at ho22 | (simp only [Int.reduceToNat] at ho22; rw [← Ny372.out] at ho22)); have HO374 := Aside0.mk (Kd.R_lower ho22 (below_size (bq_ HB))); replace BK363 := bk_ BK363 hb; replace HB := bp_ HB hb; clear hb ho22))
   go_ret
   exact ⟨_, rf_, re_ HO374.out, bq_ HB⟩
def spec_ConductorOf.f (k : Nat) (l0_0 : List Int) : Option (Int) := (spec_FrobeniusOf.f k l0_0).bind fun t376 => (some (wrap64 (t376 + 1)))
theorem spec_ConductorOf.calls (k : Nat) (A0_0 : Option Addr) (c0_0 : Nat) (l0_0 : List Int) (r : Int) (w : World) (hr0_0 : Kd.C (Kd.int .i64) w A0_0 l0_0.length l0_0) (hc0_0 : l0_0.length ≤ c0_0) (h : spec_ConductorOf.f k l0_0 = some r) :
 Calls Tryz.prog 83 #[.agg #[.slice A0_0 l0_0.length c0_0]] w fun e w' => e = .returned (.int .i64 r) ∧ Below w.heap.size w w' := by
 have hu29 := Tryz.underlying29
 have HR0_0 := Aside0.mk hr0_0
 have HC0_0 := Aside0.mk hc0_0
 clear hr0_0 hc0_0
 have HB := Aside0.mk (Below.refl w.heap.size w)
 have H := h
 clear h
 unfold spec_ConductorOf.f at H
 obtain ⟨t376, A2, H⟩ := ob_ H
 obtain rfl := Option.some.inj H
 go_enter Tryz.func83, Tryz.ntmps83
 go_wp2_with (first | ((with_reducible refine gate_dst (N := 1) rfl ?_); refine bx_ 1 #[.slice A0_0 l0_0.length c0_0] 29 ?_; intro gb375 hg w3 hbox hb; have BK375 := Aside0.mk (hbox); have GW375 := gw_ hg HB; have GE375 := gw_ hg HB; replace HB := bo_ HB hb; clear hb hbox hg; have hcz4_0 := cz_ BK375; have hfz4_0 := blk_frozen BK375.out 0) | ((with_reducible refine gate_callee (f := 36) rfl ?_); refine gL_ (some 4) Tryz.func36 #[.agg #[.slice A0_0 l0_0.length c0_0]] ?_; (with_reducible refine (spec_FrobeniusOf.calls k _ _ l0_0 t376 _ ?side1 ?side2 A2.out).mono ?_); (case side1 => exact ch_ HR0_0 HB); (case side2 => exact HC0_0.out); rintro e w5 ⟨rfl, hb⟩; refine ⟨_, rfl, ?_⟩; replace BK375 := bk_ BK375 hb; replace HB := bp_ HB hb; (try clear hb)))
 go_ret
 exact ⟨rf_, bq_ HB⟩
def spec_l4Small.l0 : Nat → Int → List Int → List Bool → Int → Option (List Int)
 | 0, _, _, _, _ => none
 | k + 1, x1, x5, x6, x7 => if x7 < x1 then (if 0 ≤ x7 then (if x7 < (x6.length : Int) then (if rdOf false x6 x7 = true then (if x5.length < 17592186044416 then (spec_l4Small.l0 k x1 (x5 ++ [x7]) x6 (wrap64 (x7 + 1))) else (none)) else (spec_l4Small.l0 k x1 x5 x6 (wrap64 (x7 + 1)))) else (none)) else (none)) else (some x5)
def spec_l4Small.f (k : Nat) (l0_0 : List Int) (a1 : Int) : Option (List Int) := (some (([] : List Int) : List Int)).bind fun y378 => (if a1 < 1 then (some y378) else ((spec_l3Table.f k l0_0 a1).bind fun t381 => (spec_l4Small.l0 k a1 y378 t381 0)))
theorem spec_l4Small.calls (k : Nat) (A0_0 : Option Addr) (c0_0 : Nat) (l0_0 : List Int) (a1 : Int) (r : List Int) (w : World) (hr0_0 : Kd.C (Kd.int .i64) w A0_0 l0_0.length l0_0) (hc0_0 : l0_0.length ≤ c0_0) (h : spec_l4Small.f k l0_0 a1 = some r) :
 Calls Tryz.prog 113 #[.agg #[.slice A0_0 l0_0.length c0_0], .int .i64 a1] w fun e w' => ∃ v0_ : Value, e = .returned (v0_) ∧ Kd.R (Kd.int .i64) 3 w' w.heap.size (fun _ => True) v0_ r ∧ Below w.heap.size w w' := by
 have hu29 := Tryz.underlying29
 have HR0_0 := Aside0.mk hr0_0
 have HC0_0 := Aside0.mk hc0_0
 clear hr0_0 hc0_0
 have HB := Aside0.mk (Below.refl w.heap.size w)
 have H := h
 clear h
 unfold spec_l4Small.f at H
 obtain ⟨y378, hy378⟩ : ∃ y_ : List Int, y_ = (([] : List Int)) := ⟨_, rfl⟩
 replace H : (if a1 < 1 then (some y378) else ((spec_l3Table.f k l0_0 a1).bind fun t381 => (spec_l4Small.l0 k a1 y378 t381 0))) = some r := by subst hy378; exact H
 have Ny378 := Aside0.mk hy378
 clear hy378
 by_cases c3 : a1 < 1
 · rw [if_pos c3] at H
   have c3b0 : decide (a1 < 1) = true := decide_eq_true c3
   clear c3
   obtain rfl := Option.some.inj H
   go_enter Tryz.func113, Tryz.ntmps113
   go_wp2_with (first | ((with_reducible refine gate_dst (N := 2) rfl ?_); refine bx_ 2 #[.slice A0_0 l0_0.length c0_0] 29 ?_; intro gb377 hg w4 hbox hb; have BK377 := Aside0.mk (hbox); have GW377 := gw_ hg HB; have GE377 := gw_ hg HB; replace HB := bo_ HB hb; clear hb hbox hg) | ((with_reducible refine gate_dst (N := 8) rfl ?_); refine Kd.R_lit (Kd.int .i64) _ 3 ?hg (N := 8) ?hd (xs := ([] : List Int)) (inner := []) (ok := fun _ => True) (okp := fun _ => True) ?hr ?hp (fun _ hk => hk) trivial (Below.refl _ _) (Nat.le_refl _) (by simp) ?_; (case hd => rfl); (case hg => rfl); (case hr => first | (go_simp; done) | (go_simp; rfl)); (case hp => exact (Reps.none _ _)); intro v379 w5 ho6 hb hg_ hnew_; clear hg_ hnew_; (first | rw [← Ny378.out] at ho6 | (simp only [Int.reduceToNat] at ho6; rw [← Ny378.out] at ho6)); have HO380 := Aside0.mk (Kd.R_lower ho6 (below_size (bq_ HB))); replace BK377 := bk_ BK377 hb; replace HB := bp_ HB hb; clear hb ho6))
   go_ret
   exact ⟨_, rf_, re_ HO380.out, bq_ HB⟩
 · rw [if_neg c3] at H
   have c3b0 : decide (a1 < 1) = false := decide_eq_false c3
   clear c3
   obtain ⟨t381, A7, H⟩ := ob_ H
   have H' := Aside0.mk H
   clear H
   go_enter Tryz.func113, Tryz.ntmps113
   go_wp2_with (first | ((with_reducible refine gate_dst (N := 2) rfl ?_); refine bx_ 2 #[.slice A0_0 l0_0.length c0_0] 29 ?_; intro gb377 hg w8 hbox hb; have BK377 := Aside0.mk (hbox); have GW377 := gw_ hg HB; have GE377 := gw_ hg HB; replace HB := bo_ HB hb; clear hb hbox hg) | ((with_reducible refine gate_dst (N := 8) rfl ?_); refine Kd.R_lit (Kd.int .i64) _ 3 ?hg (N := 8) ?hd (xs := ([] : List Int)) (inner := []) (ok := fun _ => True) (okp := fun _ => True) ?hr ?hp (fun _ hk => hk) trivial (Below.refl _ _) (Nat.le_refl _) (by simp) ?_; (case hd => rfl); (case hg => rfl); (case hr => first | (go_simp; done) | (go_simp; rfl)); (case hp => exact (Reps.none _ _)); intro v379 w9 ho10 hb hg_ hnew_; clear hg_ hnew_; (first | rw [← Ny378.out] at ho10 | (simp only [Int.reduceToNat] at ho10; rw [← Ny378.out] at ho10)); have HO380 := Aside0.mk (Kd.R_lower ho10 (below_size (bq_ HB))); replace BK377 := bk_ BK377 hb; replace HB := bp_ HB hb; clear hb ho10; have hcz11_0 := cz_ BK377; have hfz11_0 := blk_frozen BK377.out 0) | ((with_reducible refine gate_callee (f := 101) rfl ?_); refine gL_ (some 15) Tryz.func101 #[.slice A0_0 l0_0.length c0_0, .int .i64 a1] ?_; (with_reducible refine (spec_l3Table.calls k _ _ l0_0 a1 t381 _ ?side1 ?side2 A7.out).mono ?_); (case side1 => exact ch_ HR0_0 HB); (case side2 => exact HC0_0.out); rintro e w12 ⟨v382, rfl, ho0, hb⟩; refine ⟨_, rfl, ?_⟩; replace HO380 := Aside0.mk (Kd.R_below (re_ HO380.out) hb); have HO383 := Aside0.mk (Kd.R_lower ho0 (below_size (bq_ HB))); replace BK377 := bk_ BK377 hb; replace HB := bp_ HB hb; (try clear hb); (try clear ho0)))
   go_loopg [5, 7] k (fun kq v5 v7 w' => ∃ (x5_1 : List Int) (x7_1 : Int), v7 = .int .i64 x7_1 ∧ Aside0 (spec_l4Small.l0 kq a1 x5_1 t381 x7_1 = some r) ∧ Aside0 (kq ≤ k) ∧ Aside0 (Kd.R (Kd.int .i64) 3 w' w.heap.size (fun _ => True) v5 x5_1) ∧ Aside0 (Kd.R Kd.bool 4 w' w.heap.size (fun _ => True) v382 t381) ∧ Aside0 (w'.heap[gb377]? = some (.cells #[(.slice A0_0 l0_0.length c0_0)] 29 (0, 0))) ∧ Aside0 (Below w.heap.size w w'))
   case atStart => exact ⟨(y378), (0), rs_, H', ⟨Nat.le_refl _⟩, ⟨re_ HO380.out⟩, ⟨re_ HO383.out⟩, ⟨be_ BK377.out⟩, ⟨bq_ HB⟩⟩
   case round =>
    clear H'
    try clear c1
    try clear p2
    try clear c3
    try clear c3b0
    try clear c10
    try clear c11
    try clear hcz11_0
    try clear hfz11_0
    obtain ⟨x5_1, x7_1, rfl, HA, HK1, HO_5, HO_6, BK377, HB⟩ := hrel
    cases gk with
    | zero => exact absurd HA.out (by simp [spec_l4Small.l0])
    | succ k1 =>
     have H := HA.out
     clear HA
     simp only [spec_l4Small.l0] at H
     by_cases c13 : x7_1 < a1
     · rw [if_pos c13] at H
       have c13b0 : decide (x7_1 < a1) = true := decide_eq_true c13
       clear c13
       by_cases c14 : 0 ≤ x7_1
       · rw [if_pos c14] at H
         have c14b0 : decide (0 ≤ x7_1) = true := decide_eq_true c14
         clear c14
         by_cases c15 : x7_1 < (t381.length : Int)
         · rw [if_pos c15] at H
           have c15b0 : decide (x7_1 < (t381.length : Int)) = true := decide_eq_true c15
           clear c15
           obtain ⟨bq16, hbq16⟩ : ∃ b_ : Bool, b_ = (rdOf false t381 x7_1) := ⟨_, rfl⟩
           replace H : (if bq16 = true then (if x5_1.length < 17592186044416 then (spec_l4Small.l0 k1 a1 (x5_1 ++ [x7_1]) t381 (wrap64 (x7_1 + 1))) else (none)) else (spec_l4Small.l0 k1 a1 x5_1 t381 (wrap64 (x7_1 + 1)))) = some r := by rw [← hbq16] at H; exact H
           have Nbq16 := Aside0.mk hbq16
           clear hbq16
           by_cases c17 : bq16 = true
           · subst c17
             rw [if_pos rfl] at H
             by_cases c18 : x5_1.length < 17592186044416
             · rw [if_pos c18] at H
               have LMc18 := Aside0.mk c18
               clear c18
               obtain ⟨y385, hy385⟩ : ∃ y_ : List Int, y_ = (x5_1 ++ [x7_1]) := ⟨_, rfl⟩
               replace H : (spec_l4Small.l0 k1 a1 y385 t381 (wrap64 (x7_1 + 1))) = some r := by subst hy385; exact H
               have Ny385 := Aside0.mk hy385
               clear hy385
               have H' := Aside0.mk H
               clear H
               obtain ⟨Ao19, co19, eo19⟩ := Kd.R_slice HO_6.out
               subst eo19
               have p384 : 0 ≤ (x7_1 : Int) := od_
               have q384 : x7_1 < (t381.length : Int) := od_
               obtain ⟨ad384, e384, hx384_0⟩ := Kd.at_bool (Kd.R_reads' HO_6.out).2.2 x7_1 p384 q384
               (try rw [← Nbq16.out] at hx384_0)
               cases e384
               replace p384 := eq_true p384
               replace q384 := eq_true q384
               go_wp2_with (first | ((with_reducible refine gate_builtin (b := .append) (xs := #[.tmp 25, .tmp 27]) rfl ?_); at_builtin; refine Kd.R_append (Kd.int .i64) (w0 := w) w.heap.size rfl (.tmp 25) (.tmp 27) 27 3 (.int .i64 0) 8 rfl Tryz.underlying27 info3 rfl (by decide) (by omega) u5 x5_1 x7_1 [.int .i64 x7_1] (fun _ => True) (fun _ => False) rfl rfl ?aP (fun _ hk => hk.elim) ?aF ?aO ?aB ?aS ?aL ?_; (case aP => exact rfl); (case aB => exact (bq_ HB)); (case aF => exact (fun _ _ => trivial)); (case aO => exact (re_ HO_5.out)); (case aS => exact (below_size (bq_ HB))); (case aL => have := LMc18.out; omega); intro v386 w20 ho hb hg hat; rw [← Ny385.out] at ho; replace HO_6 := Aside0.mk (Kd.R_over' (re_ HO_6.out) (Kd.R_typed (re_ HO_5.out)) (by decide) hg); replace BK377 := Aside0.mk (blk_grown (be_ BK377.out) hg (Kd.R_ne HO_5.out BK377.out (by decide))); replace HB := Aside0.mk (hb); have HO387 := Aside0.mk (ho); clear HO_5; clear ho hb hg hat))
               go_roundg k1
               case measure => have := HK1.out; omega
               case rel => exact ⟨(y385), (wrap64 (x7_1 + 1)), rs_, H', ⟨by have := HK1.out; omega⟩, ⟨re_ HO387.out⟩, ⟨re_ HO_6.out⟩, ⟨be_ BK377.out⟩, ⟨bq_ HB⟩⟩
             · rw [if_neg c18] at H
               cases H
           · replace c17 := Bool.eq_false_iff.mpr c17
             subst c17
             rw [if_neg (show ¬ (false = true) by decide)] at H
             have H' := Aside0.mk H
             clear H
             obtain ⟨Ao21, co21, eo21⟩ := Kd.R_slice HO_6.out
             subst eo21
             have p384 : 0 ≤ (x7_1 : Int) := od_
             have q384 : x7_1 < (t381.length : Int) := od_
             obtain ⟨ad384, e384, hx384_0⟩ := Kd.at_bool (Kd.R_reads' HO_6.out).2.2 x7_1 p384 q384
             (try rw [← Nbq16.out] at hx384_0)
             cases e384
             replace p384 := eq_true p384
             replace q384 := eq_true q384
             go_wp2
             go_roundg k1
             case measure => have := HK1.out; omega
             case rel => exact ⟨(x5_1), (wrap64 (x7_1 + 1)), rs_, H', ⟨by have := HK1.out; omega⟩, ⟨re_ HO_5.out⟩, ⟨re_ HO_6.out⟩, ⟨be_ BK377.out⟩, ⟨bq_ HB⟩⟩
         · rw [if_neg c15] at H
           cases H
       · rw [if_neg c14] at H
         cases H
     · rw [if_neg c13] at H
       have c13b0 : decide (x7_1 < a1) = false := decide_eq_false c13
       clear c13
       obtain rfl := Option.some.inj H
       go_wp2
       go_ret
       exact ⟨_, rf_, re_ HO_5.out, bq_ HB⟩
def spec_SmallElements.f (k : Nat) (l0_0 : List Int) : Option (List Int) := (spec_IsSemigroup.f k l0_0).bind fun t389 => (if t389 = true then ((spec_ConductorOf.f k l0_0).bind fun t390 => ((spec_l4Small.f k l0_0 t390).bind fun t391 => (some t391))) else (some (([] : List Int))))
theorem spec_SmallElements.calls (k : Nat) (A0_0 : Option Addr) (c0_0 : Nat) (l0_0 : List Int) (r : List Int) (w : World) (hr0_0 : Kd.C (Kd.int .i64) w A0_0 l0_0.length l0_0) (hc0_0 : l0_0.length ≤ c0_0) (h : spec_SmallElements.f k l0_0 = some r) :
 Calls Tryz.prog 105 #[.agg #[.slice A0_0 l0_0.length c0_0]] w fun e w' => ∃ v0_ : Value, e = .returned (v0_) ∧ Kd.R (Kd.int .i64) 3 w' w.heap.size (fun _ => True) v0_ r ∧ Below w.heap.size w w' := by
 have hu29 := Tryz.underlying29
 have HR0_0 := Aside0.mk hr0_0
 have HC0_0 := Aside0.mk hc0_0
 clear hr0_0 hc0_0
 have HB := Aside0.mk (Below.refl w.heap.size w)
 have H := h
 clear h
 unfold spec_SmallElements.f at H
 obtain ⟨t389, A2, H⟩ := ob_ H
 by_cases c3 : t389 = true
 · subst c3
   rw [if_pos rfl] at H
   obtain ⟨t390, A4, H⟩ := ob_ H
   obtain ⟨t391, A5, H⟩ := ob_ H
   obtain rfl := Option.some.inj H
   go_enter Tryz.func105, Tryz.ntmps105
   try go_wp2_with (first | ((with_reducible refine gate_dst (N := 1) rfl ?_); refine bx_ 1 #[.slice A0_0 l0_0.length c0_0] 29 ?_; intro gb388 hg w6 hbox hb; have BK388 := Aside0.mk (hbox); have GW388 := gw_ hg HB; have GE388 := gw_ hg HB; replace HB := bo_ HB hb; clear hb hbox hg; have hcz7_0 := cz_ BK388; have hfz7_0 := blk_frozen BK388.out 0) | ((with_reducible refine gate_callee (f := 34) rfl ?_); refine gL_ (some 4) Tryz.func34 #[.agg #[.slice A0_0 l0_0.length c0_0]] ?_; (with_reducible refine (spec_IsSemigroup.calls k _ _ l0_0 true _ ?side1 ?side2 A2.out).mono ?_); (case side1 => exact ch_ HR0_0 HB); (case side2 => exact HC0_0.out); rintro e w8 ⟨rfl, hb⟩; refine ⟨_, rfl, ?_⟩; replace BK388 := bk_ BK388 hb; replace HB := bp_ HB hb; (try clear hb)))
   replace BK388 := Aside0.mk (blk_drew BK388.out)
   replace HB := Aside0.mk (below_drew1 HB.out)
   refine start_ (n := 5) (S := fun w' => w'.cell? ⟨gb388, 0, none⟩ = some (.slice A0_0 l0_0.length c0_0)) (ds := []) (B_ 0 5) (by kernel_rfl) rfl rfl ((blk_cell BK388.out 0).trans rfl) (fun hHeld => ?_)
   generalize w8.drew = w9 at BK388 HB hHeld ⊢
   refine take_ (i := 0) (N := some 7) (v := ?_) (a' := ?_) (B_ 1 5) rfl rfl (by kernel_rfl) (fun _ _ _ h => h) (Or.inl ⟨by rfl, ?_⟩) hHeld ?_ ?_
   rotate_left
   · intro w' s0
     go_simp
     with_reducible rfl
   rotate_left
   · simp only [Act.put, z1_, z2_, z3_, i64_w, i32_w]
     rfl
   refine take_ (i := 1) (N := some 8) (v := ?_) (a' := ?_) (B_ 3 5) rfl rfl (by kernel_rfl) (fun _ _ _ h => h) (Or.inl ⟨by rfl, ?_⟩) hHeld ?_ ?_
   rotate_left
   · intro w' s0
     go_simp
     with_reducible rfl
   rotate_left
   · simp only [Act.put, z1_, z2_, z3_, i64_w, i32_w]
     rfl
   refine one_ (i := 2) (N := some 9) (B_ 7 5) rfl rfl (by kernel_rfl) (by decide) (fun K hK => ?_)
   refine goes_ Tryz.func83 (by kernel_rfl) rfl #[.agg #[.slice A0_0 l0_0.length c0_0]] (by rfl) rfl rfl (by (try simp only [List.map_toArray, List.map_cons, List.map_nil]); first | done | rfl | (simp only [List.length_drop, List.length_take]; rfl)) ?_
   with_reducible refine (spec_ConductorOf.calls k _ _ l0_0 t390 _ ?side1 ?side2 A4.out).mono ?_
   (case side1 => exact ch_ HR0_0 HB)
   (case side2 => exact HC0_0.out)
   rintro e w10 ⟨rfl, hb⟩
   refine ⟨_, rfl, ?_⟩
   replace BK388 := bk_ BK388 hb
   replace HB := bp_ HB hb
   (try clear hb)
   refine hK.out _ _ ((blk_cell BK388.out 0).trans rfl) (fun hHeld => ?_)
   clear hK K
   refine norm_ (a' := ?_) ?_ ?_
   rotate_left
   · show Act.put _ (some 9) _ = _
     simp only [Act.put, z1_, z2_, z3_, i64_w, i32_w]
     rfl
   refine one_ (i := 3) (N := some 10) (B_ 15 5) rfl rfl (by kernel_rfl) (by decide) (fun K hK => ?_)
   refine goes_ Tryz.func113 (by kernel_rfl) rfl #[.agg #[.slice A0_0 l0_0.length c0_0], .int .i64 t390] (by rfl) rfl rfl (by (try simp only [List.map_toArray, List.map_cons, List.map_nil]); first | done | rfl | (simp only [List.length_drop, List.length_take]; rfl)) ?_
   with_reducible refine (spec_l4Small.calls k _ _ l0_0 t390 t391 _ ?side1 ?side2 A5.out).mono ?_
   (case side1 => exact ch_ HR0_0 HB)
   (case side2 => exact HC0_0.out)
   rintro e w11 ⟨v392, rfl, ho0, hb⟩
   refine ⟨_, rfl, ?_⟩
   have HO393 := Aside0.mk (Kd.R_lower ho0 (below_size (bq_ HB)))
   replace BK388 := bk_ BK388 hb
   replace HB := bp_ HB hb
   (try clear hb)
   (try clear ho0)
   refine hK.out _ _ ((blk_cell BK388.out 0).trans rfl) (fun hHeld => ?_)
   clear hK K
   refine norm_ (a' := ?_) ?_ ?_
   rotate_left
   · show Act.put _ (some 10) _ = _
     simp only [Act.put, z1_, z2_, z3_, i64_w, i32_w]
     rfl
   refine pure_ (i := 4) (N := some 2) (v := ?_) (a' := ?_) (B_ 31 5) rfl rfl (by kernel_rfl) (fun _ _ _ h => h) (Or.inl ⟨by rfl, ?_⟩) ?_ ?_
   rotate_left
   · intro w'
     go_simp
     with_reducible rfl
   rotate_left
   · simp only [Act.put, z1_, z2_, z3_, i64_w, i32_w]
     rfl
   refine done_ (by kernel_rfl) ?_
   try go_wp2
   go_ret
   exact ⟨_, rf_, re_ HO393.out, bq_ HB⟩
 · replace c3 := Bool.eq_false_iff.mpr c3
   subst c3
   rw [if_neg (show ¬ (false = true) by decide)] at H
   obtain ⟨y394, hy394⟩ : ∃ y_ : List Int, y_ = (([] : List Int)) := ⟨_, rfl⟩
   replace H : (some y394) = some r := by subst hy394; exact H
   have Ny394 := Aside0.mk hy394
   clear hy394
   obtain rfl := Option.some.inj H
   go_enter Tryz.func105, Tryz.ntmps105
   go_wp2_with (first | ((with_reducible refine gate_dst (N := 1) rfl ?_); refine bx_ 1 #[.slice A0_0 l0_0.length c0_0] 29 ?_; intro gb388 hg w12 hbox hb; have BK388 := Aside0.mk (hbox); have GW388 := gw_ hg HB; have GE388 := gw_ hg HB; replace HB := bo_ HB hb; clear hb hbox hg; have hcz13_0 := cz_ BK388; have hfz13_0 := blk_frozen BK388.out 0) | ((with_reducible refine gate_callee (f := 34) rfl ?_); refine gL_ (some 4) Tryz.func34 #[.agg #[.slice A0_0 l0_0.length c0_0]] ?_; (with_reducible refine (spec_IsSemigroup.calls k _ _ l0_0 false _ ?side1 ?side2 A2.out).mono ?_); (case side1 => exact ch_ HR0_0 HB); (case side2 => exact HC0_0.out); rintro e w14 ⟨rfl, hb⟩; refine ⟨_, rfl, ?_⟩; replace BK388 := bk_ BK388 hb; replace HB := bp_ HB hb; (try clear hb)) | ((with_reducible refine gate_dst (N := 6) rfl ?_); refine Kd.R_lit (Kd.int .i64) _ 3 ?hg (N := 6) ?hd (xs := ([] : List Int)) (inner := []) (ok := fun _ => True) (okp := fun _ => True) ?hr ?hp (fun _ hk => hk) trivial (Below.refl _ _) (Nat.le_refl _) (by simp) ?_; (case hd => rfl); (case hg => rfl); (case hr => first | (go_simp; done) | (go_simp; rfl)); (case hp => exact (Reps.none _ _)); intro v395 w15 ho16 hb hg_ hnew_; clear hg_ hnew_; (first | rw [← Ny394.out] at ho16 | (simp only [Int.reduceToNat] at ho16; rw [← Ny394.out] at ho16)); have HO396 := Aside0.mk (Kd.R_lower ho16 (below_size (bq_ HB))); replace BK388 := bk_ BK388 hb; replace HB := bp_ HB hb; clear hb ho16))
   go_ret
   exact ⟨_, rf_, re_ HO396.out, bq_ HB⟩
def spec_LeftCount.f (k : Nat) (l0_0 : List Int) : Option (Int) := (spec_IsSemigroup.f k l0_0).bind fun t398 => (if t398 = true then ((spec_SmallElements.f k l0_0).bind fun t399 => (some (t399.length : Int))) else (some (-1)))
theorem spec_LeftCount.calls (k : Nat) (A0_0 : Option Addr) (c0_0 : Nat) (l0_0 : List Int) (r : Int) (w : World) (hr0_0 : Kd.C (Kd.int .i64) w A0_0 l0_0.length l0_0) (hc0_0 : l0_0.length ≤ c0_0) (h : spec_LeftCount.f k l0_0 = some r) :
 Calls Tryz.prog 82 #[.agg #[.slice A0_0 l0_0.length c0_0]] w fun e w' => e = .returned (.int .i64 r) ∧ Below w.heap.size w w' := by
 have hu29 := Tryz.underlying29
 have HR0_0 := Aside0.mk hr0_0
 have HC0_0 := Aside0.mk hc0_0
 clear hr0_0 hc0_0
 have HB := Aside0.mk (Below.refl w.heap.size w)
 have H := h
 clear h
 unfold spec_LeftCount.f at H
 obtain ⟨t398, A2, H⟩ := ob_ H
 by_cases c3 : t398 = true
 · subst c3
   rw [if_pos rfl] at H
   obtain ⟨t399, A4, H⟩ := ob_ H
   obtain rfl := Option.some.inj H
   go_enter Tryz.func82, Tryz.ntmps82
   go_wp2_with (first | ((with_reducible refine gate_dst (N := 1) rfl ?_); refine bx_ 1 #[.slice A0_0 l0_0.length c0_0] 29 ?_; intro gb397 hg w5 hbox hb; have BK397 := Aside0.mk (hbox); have GW397 := gw_ hg HB; have GE397 := gw_ hg HB; replace HB := bo_ HB hb; clear hb hbox hg; have hcz6_0 := cz_ BK397; have hfz6_0 := blk_frozen BK397.out 0) | ((with_reducible refine gate_callee (f := 34) rfl ?_); refine gL_ (some 4) Tryz.func34 #[.agg #[.slice A0_0 l0_0.length c0_0]] ?_; (with_reducible refine (spec_IsSemigroup.calls k _ _ l0_0 true _ ?side1 ?side2 A2.out).mono ?_); (case side1 => exact ch_ HR0_0 HB); (case side2 => exact HC0_0.out); rintro e w7 ⟨rfl, hb⟩; refine ⟨_, rfl, ?_⟩; replace BK397 := bk_ BK397 hb; replace HB := bp_ HB hb; (try clear hb); have hcz8_0 := cz_ BK397; have hfz8_0 := blk_frozen BK397.out 0) | ((with_reducible refine gate_callee (f := 105) rfl ?_); refine gL_ (some 7) Tryz.func105 #[.agg #[.slice A0_0 l0_0.length c0_0]] ?_; (with_reducible refine (spec_SmallElements.calls k _ _ l0_0 t399 _ ?side1 ?side2 A4.out).mono ?_); (case side1 => exact ch_ HR0_0 HB); (case side2 => exact HC0_0.out); rintro e w9 ⟨v400, rfl, ho0, hb⟩; refine ⟨_, rfl, ?_⟩; have HO401 := Aside0.mk (Kd.R_lower ho0 (below_size (bq_ HB))); replace BK397 := bk_ BK397 hb; replace HB := bp_ HB hb; (try clear hb); (try clear ho0); obtain ⟨Ao10, co10, eo10⟩ := Kd.R_slice HO401.out; subst eo10))
   go_ret
   exact ⟨rf_, bq_ HB⟩
 · replace c3 := Bool.eq_false_iff.mpr c3
   subst c3
   rw [if_neg (show ¬ (false = true) by decide)] at H
   obtain rfl := Option.some.inj H
   go_enter Tryz.func82, Tryz.ntmps82
   go_wp2_with (first | ((with_reducible refine gate_dst (N := 1) rfl ?_); refine bx_ 1 #[.slice A0_0 l0_0.length c0_0] 29 ?_; intro gb397 hg w11 hbox hb; have BK397 := Aside0.mk (hbox); have GW397 := gw_ hg HB; have GE397 := gw_ hg HB; replace HB := bo_ HB hb; clear hb hbox hg; have hcz12_0 := cz_ BK397; have hfz12_0 := blk_frozen BK397.out 0) | ((with_reducible refine gate_callee (f := 34) rfl ?_); refine gL_ (some 4) Tryz.func34 #[.agg #[.slice A0_0 l0_0.length c0_0]] ?_; (with_reducible refine (spec_IsSemigroup.calls k _ _ l0_0 false _ ?side1 ?side2 A2.out).mono ?_); (case side1 => exact ch_ HR0_0 HB); (case side2 => exact HC0_0.out); rintro e w13 ⟨rfl, hb⟩; refine ⟨_, rfl, ?_⟩; replace BK397 := bk_ BK397 hb; replace HB := bp_ HB hb; (try clear hb)))
   go_ret
   exact ⟨rf_, bq_ HB⟩
def spec_WilfNumber.f (k : Nat) (l0_0 : List Int) : Option (Int) := (spec_IsSemigroup.f k l0_0).bind fun t403 => (if t403 = true then ((spec_LeftCount.f k l0_0).bind fun t404 => ((spec_ConductorOf.f k l0_0).bind fun t405 => (some (wrap64 ((wrap64 ((l0_0.length : Int) * t404)) - t405))))) else (some (-1)))
def spec_WilfNumber.T3 : Bool × List (List Nat × List Nat) := (true, [([], []), ([0], [0]), ([1], [1]), ([], []), ([3], [3]), ([2, 4], [2, 4]), ([], []), ([6, 4], [6]), ([5, 7], [5, 7]), ([8, 7, 0, 1, 2, 3, 4, 5, 6, 7, 8], [8])])
def spec_WilfNumber.B3 : List Nat := [0, 1, 3, 0, 8, 31, 0, 88, 255, 511]
theorem spec_WilfNumber.tab3 : rtab .any (opsOf Tryz.f43 3) = spec_WilfNumber.T3 := by kernel_rfl
theorem spec_WilfNumber.bits3 : waitsOk spec_WilfNumber.T3.2 spec_WilfNumber.B3 = true := by kernel_rfl
theorem spec_WilfNumber.calls (k : Nat) (A0_0 : Option Addr) (c0_0 : Nat) (l0_0 : List Int) (r : Int) (w : World) (hr0_0 : Kd.C (Kd.int .i64) w A0_0 l0_0.length l0_0) (hc0_0 : l0_0.length ≤ c0_0) (h : spec_WilfNumber.f k l0_0 = some r) :
 Calls Tryz.prog 43 #[.agg #[.slice A0_0 l0_0.length c0_0]] w fun e w' => e = .returned (.int .i64 r) ∧ Below w.heap.size w w' := by
 have hu29 := Tryz.underlying29
 have HR0_0 := Aside0.mk hr0_0
 have HC0_0 := Aside0.mk hc0_0
 clear hr0_0 hc0_0
 have HB := Aside0.mk (Below.refl w.heap.size w)
 have H := h
 clear h
 unfold spec_WilfNumber.f at H
 obtain ⟨t403, A2, H⟩ := ob_ H
 by_cases c3 : t403 = true
 · subst c3
   rw [if_pos rfl] at H
   obtain ⟨t404, A4, H⟩ := ob_ H
   obtain ⟨t405, A5, H⟩ := ob_ H
   obtain rfl := Option.some.inj H
   go_enter Tryz.func43, Tryz.ntmps43
   try go_wp2_with (first | ((with_reducible refine gate_dst (N := 1) rfl ?_); refine bx_ 1 #[.slice A0_0 l0_0.length c0_0] 29 ?_; intro gb402 hg w6 hbox hb; have BK402 := Aside0.mk (hbox); have GW402 := gw_ hg HB; have GE402 := gw_ hg HB; replace HB := bo_ HB hb; clear hb hbox hg; have hcz7_0 := cz_ BK402; have hfz7_0 := blk_frozen BK402.out 0) | ((with_reducible refine gate_callee (f := 34) rfl ?_); refine gL_ (some 4) Tryz.func34 #[.agg #[.slice A0_0 l0_0.length c0_0]] ?_; (with_reducible refine (spec_IsSemigroup.calls k _ _ l0_0 true _ ?side1 ?side2 A2.out).mono ?_); (case side1 => exact ch_ HR0_0 HB); (case side2 => exact HC0_0.out); rintro e w8 ⟨rfl, hb⟩; refine ⟨_, rfl, ?_⟩; replace BK402 := bk_ BK402 hb; replace HB := bp_ HB hb; (try clear hb)))
   replace BK402 := Aside0.mk (blk_drew BK402.out)
   replace HB := Aside0.mk (below_drew1 HB.out)
   refine start_ (n := 10) (S := fun w' => w'.cell? ⟨gb402, 0, none⟩ = some (.slice A0_0 l0_0.length c0_0)) (ds := []) (B_ 0 10) (by kernel_rfl) rfl rfl ((blk_cell BK402.out 0).trans rfl) (fun hHeld => ?_); refine with_tabW spec_WilfNumber.tab3 spec_WilfNumber.bits3 (fun HT_ HW_ => ?_)
   generalize w8.drew = w9 at BK402 HB hHeld ⊢
   refine pu_ HT_ 0 6 (B_ 1 10) ?_
   refine tk1_ HT_ HW_ hHeld 1 7 (B_ 3 10) ?_
   refine pu_ HT_ 2 8 (B_ 7 10) ?_
   refine tk1_ HT_ HW_ hHeld 3 9 (B_ 15 10) ?_
   refine tk1_ HT_ HW_ hHeld 6 12 (B_ 79 10) ?_
   refine on_ HT_ 4 10 (B_ 95 10) (fun K hK => ?_)
   refine goes_ Tryz.func82 (by kernel_rfl) rfl #[.agg #[.slice A0_0 l0_0.length c0_0]] (by rfl) rfl rfl (by (try simp only [List.map_toArray, List.map_cons, List.map_nil]); first | done | rfl | (simp only [List.length_drop, List.length_take]; rfl)) ?_
   with_reducible refine (spec_LeftCount.calls k _ _ l0_0 t404 _ ?side1 ?side2 A4.out).mono ?_
   (case side1 => exact ch_ HR0_0 HB)
   (case side2 => exact HC0_0.out)
   rintro e w10 ⟨rfl, hb⟩
   refine ⟨_, rfl, ?_⟩
   replace BK402 := bk_ BK402 hb
   replace HB := bp_ HB hb
   (try clear hb)
   refine hK.out _ _ ((blk_cell BK402.out 0).trans rfl) (fun hHeld => ?_)
   clear hK K
   refine norm_ (a' := ?_) ?_ ?_
   rotate_left
   · show Act.put _ (some 10) _ = _
     simp only [Act.put, z1_, z2_, z3_, i64_w, i32_w]
     rfl
   refine pu_ HT_ 5 11 (B_ 127 10) ?_
   refine on_ HT_ 7 13 (B_ 255 10) (fun K hK => ?_)
   refine goes_ Tryz.func83 (by kernel_rfl) rfl #[.agg #[.slice A0_0 l0_0.length c0_0]] (by rfl) rfl rfl (by (try simp only [List.map_toArray, List.map_cons, List.map_nil]); first | done | rfl | (simp only [List.length_drop, List.length_take]; rfl)) ?_
   with_reducible refine (spec_ConductorOf.calls k _ _ l0_0 t405 _ ?side1 ?side2 A5.out).mono ?_
   (case side1 => exact ch_ HR0_0 HB)
   (case side2 => exact HC0_0.out)
   rintro e w11 ⟨rfl, hb⟩
   refine ⟨_, rfl, ?_⟩
   replace BK402 := bk_ BK402 hb
   replace HB := bp_ HB hb
   (try clear hb)
   refine hK.out _ _ ((blk_cell BK402.out 0).trans rfl) (fun hHeld => ?_)
   clear hK K
   refine norm_ (a' := ?_) ?_ ?_
   rotate_left
   · show Act.put _ (some 13) _ = _
     simp only [Act.put, z1_, z2_, z3_, i64_w, i32_w]
     rfl
   refine pu_ HT_ 8 14 (B_ 511 10) ?_
   refine pu_ HT_ 9 2 (B_ 1023 10) ?_
   refine done_ (done_of HT_.out (by kernel_rfl)) ?_
   try go_wp2
   go_ret
   exact ⟨rf_, bq_ HB⟩
 · replace c3 := Bool.eq_false_iff.mpr c3
   subst c3
   rw [if_neg (show ¬ (false = true) by decide)] at H
   obtain rfl := Option.some.inj H
   go_enter Tryz.func43, Tryz.ntmps43
   go_wp2_with (first | ((with_reducible refine gate_dst (N := 1) rfl ?_); refine bx_ 1 #[.slice A0_0 l0_0.length c0_0] 29 ?_; intro gb402 hg w12 hbox hb; have BK402 := Aside0.mk (hbox); have GW402 := gw_ hg HB; have GE402 := gw_ hg HB; replace HB := bo_ HB hb; clear hb hbox hg; have hcz13_0 := cz_ BK402; have hfz13_0 := blk_frozen BK402.out 0) | ((with_reducible refine gate_callee (f := 34) rfl ?_); refine gL_ (some 4) Tryz.func34 #[.agg #[.slice A0_0 l0_0.length c0_0]] ?_; (with_reducible refine (spec_IsSemigroup.calls k _ _ l0_0 false _ ?side1 ?side2 A2.out).mono ?_); (case side1 => exact ch_ HR0_0 HB); (case side2 => exact HC0_0.out); rintro e w14 ⟨rfl, hb⟩; refine ⟨_, rfl, ?_⟩; replace BK402 := bk_ BK402 hb; replace HB := bp_ HB hb; (try clear hb)))
   go_ret
   exact ⟨rf_, bq_ HB⟩
end Go.Proofs.YteaiehpgigaoaaaGreatDoor.PB
end
