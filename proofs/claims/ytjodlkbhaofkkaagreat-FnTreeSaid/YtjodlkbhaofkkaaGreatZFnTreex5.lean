-- Bundled by shake.py from this session's printed and written texts; Lean checks it.
import Derived.Test.YtjodlkbhaofkkaaGreatZFnTreex3
import Derived.Test.YtjodlkbhaofkkaaGreatZFnTreex4
section
namespace Go.Proofs.YtjodlkbhaofkkaaGreat.PA
open Go.RowKit Go.Proofs.YtjodlkbhaofkkaaGreatW.PrintWords Go.Proofs.YtjodlkbhaofkkaaGreatW.PrintLast Go.Proofs.YtjodlkbhaofkkaaGreatW.PrintMore
attribute [local go_sem] ja jb j5 j6 hY hZ jc jd
set_option linter.unusedVariables false
set_option linter.unusedSimpArgs false
set_option maxHeartbeats 8000000
set_option maxRecDepth 100000
def aA.f (k : Nat) (an : List Int) : Option (Bool) := (bZ.f k an).bind fun ach => (if ach = true then (if (an.length : Int) ≤ 12 then ((bf.f k an).bind fun aci => (if aci = true then ((bN.f k an).bind fun A_ => (if A_ = 1 then ((az.f k an).bind fun EG => ((cJ.f k EG an).bind fun acj => (if acj = true then ((cQ.f k an).bind fun ack => (some ack)) else (some false)))) else (some false))) else (some false))) else (some false)) else (some false))
theorem aA.mono : ∀ a0 k, bK (aA.f k a0) (aA.f (k + 1) a0) := by
 intro a0 k
 unfold aA.f
 repeat' first
  | (with_reducible exact bN.mono _ _)
  | (with_reducible exact bf.mono _ _)
  | (with_reducible exact cJ.mono _ _ _)
  | (with_reducible exact cQ.mono _ _)
  | (with_reducible exact bZ.mono _ _)
  | (with_reducible exact az.mono _ _)
  | (with_reducible exact bK.refl _)
  | (with_reducible exact bK.none _)
  | (with_reducible refine bK.ite ?_ ?_)
  | (with_reducible refine bK.bind ?_ (fun _ => ?_))
  | exact bK.none _
  | refine bK.ite ?_ ?_
  | refine bK.bind ?_ (fun _ => ?_)
def aA.T1 : Bool × List (List Nat × List Nat) := (true, [([], []), ([0], [0]), ([1], [1]), ([2, 2], [2]), ([3], [3]), ([4, 3], [3, 4]), ([5, 3], [3, 5]), ([6, 3], [3, 6]), ([3, 7], [3, 7]), ([8, 3], [8]), ([9], [9]), ([10, 9], [9, 10]), ([11, 9, 9], [9, 11]), ([9, 12], [9, 12]), ([13, 12], [13]), ([14], [14]), ([15, 14], [14, 15]), ([16, 14, 14], [14, 16]), ([17, 14], [14, 17]), ([14, 18], [14, 18]), ([19, 17], [19]), ([20], [20]), ([21, 20], [20, 21]), ([22, 20, 20], [20, 22]), ([20], [20]), ([24, 20], [20, 24]), ([23, 25, 23, 20], [20, 23, 25]), ([20, 26], [20, 26]), ([27, 26], [27]), ([28], [28]), ([29, 28], [28, 29]), ([30, 28, 28], [28, 30]), ([28, 31], [28, 31]), ([32, 31, 0, 1, 2, 3, 4, 5, 6, 7, 8, 9, 10, 11, 12, 13, 14, 15, 16, 17, 18, 19, 20, 21, 22, 23, 24, 25, 26, 27, 28, 29, 30, 31, 32], [32])])
def aA.B1 : List Nat := [0, 1, 3, 7, 15, 31, 63, 127, 255, 511, 1023, 2047, 4095, 8191, 16383, 32767, 65535, 131071, 262143, 524287, 1048575, 2097151, 4194303, 8388607, 2097151, 18874367, 67108863, 134217727, 268435455, 536870911, 1073741823, 2147483647, 4294967295, 8589934591]
theorem aA.El : gX .any (opsOf Tryz.f45 1) = aA.T1 := by kernel_rfl
theorem aA.wM : gm aA.T1.2 aA.B1 = true := by kernel_rfl
theorem aA.calls (k : Nat) (bF : Option Addr) (bl : Nat) (an : List Int) (r : Bool) (w : World) (eB : Kd.C (Kd.int .i64) w bF an.length an) (eC : an.length ≤ bl) (h : aA.f k an = some r) :
 Calls Tryz.prog 45 #[.agg #[.slice bF an.length bl]] w fun e w' => e = .returned (.bool r) ∧ Below w.heap.size w w' := by
 have kJ := Tryz.underlying26
 have bV := aa.mk eB
 have cH := aa.mk eC
 clear eB eC
 have HB := aa.mk (Below.refl w.heap.size w)
 have H := h
 clear h
 unfold aA.f at H
 obtain ⟨ach, A2, H⟩ := eA H
 by_cases c3 : ach = true
 rotate_left
 · replace c3 := Bool.eq_false_iff.mpr c3
   subst c3
   rw [if_neg (show ¬ (false = true) by decide)] at H
   obtain rfl := Option.some.inj H
   go_enter Tryz.func45, Tryz.ntmps45
   try go_wp2_with (first | ((with_reducible refine gate_dst (N := 1) rfl ?_); (try (refine gate_guard (by rfl) ?_; dsimp only)); refine iP 1 #[.slice bF an.length bl] 26 ?_; intro rR hg Pe hbox hb; have e7 := aa.mk (hbox); have EH := ij hg HB; have EI := ij hg HB; replace HB := jL HB hb; clear hb hbox hg))
   replace e7 := aa.mk (bg e7.out)
   replace HB := aa.mk (bD HB.out)
   refine fy (n := 34) (S := fun w' => w'.cell? ⟨rR, 0, none⟩ = some (.slice bF an.length bl)) (ds := []) (B_ 0 34) (by kernel_rfl) rfl rfl ((aH e7.out 0).trans rfl) (fun hHeld => ?_); refine dv aA.El aA.wM (fun HT_ HW_ => ?_)
   generalize Pe.drew = w29 at e7 HB hHeld ⊢
   refine b5 HT_ 0 3 (B_ 1 34) ?_
   refine lL HT_ HW_ hHeld 1 4 (B_ 3 34) ?_
   refine o2 HT_ 2 5 (B_ 7 34) (fun K hK => ?_)
   refine gu Tryz.func91 (by kernel_rfl) rfl #[.slice bF an.length bl] (by rfl) rfl rfl (by (try simp only [List.map_toArray, List.map_cons, List.map_nil]); first | done | rfl | (simp only [List.length_drop, List.length_take]; rfl)) ?_
   with_reducible refine (bZ.calls k _ _ an false _ ?ah ?aj A2.out).mono ?_
   (case ah => exact iZ bV HB)
   (case aj => exact cH.out)
   rintro e w' ⟨rfl, ⟨nd, rfl⟩⟩
   refine ⟨_, rfl, ?_⟩
   refine hK.out _ _ ((aH e7.out 0).trans rfl) (fun hHeld => ?_)
   clear hK K
   refine ep (a' := ?_) ?_ ?_
   rotate_left
   · show Act.put _ (some 5) _ = _
     simp only [Act.put, jK, jA, jB, b6, dw]
     rfl
   refine b5 HT_ 3 6 (B_ 15 34) ?_
   refine gx HT_ 4 7 (B_ 31 34) ?_
   refine gx HT_ 5 8 (B_ 63 34) ?_
   refine gx HT_ 6 9 (B_ 127 34) ?_
   refine gx HT_ 7 10 (B_ 255 34) ?_
   refine b5 HT_ 8 11 (B_ 511 34) ?_
   refine b5 HT_ 9 12 (B_ 1023 34) ?_
   refine gx HT_ 10 13 (B_ 2047 34) ?_
   refine gx HT_ 11 14 (B_ 4095 34) ?_
   refine gx HT_ 12 15 (B_ 8191 34) ?_
   refine b5 HT_ 13 16 (B_ 16383 34) ?_
   refine b5 HT_ 14 17 (B_ 32767 34) ?_
   refine gx HT_ 15 18 (B_ 65535 34) ?_
   refine gx HT_ 16 19 (B_ 131071 34) ?_
   refine gx HT_ 17 20 (B_ 262143 34) ?_
   refine gx HT_ 18 21 (B_ 524287 34) ?_
   refine b5 HT_ 19 22 (B_ 1048575 34) ?_
   refine b5 HT_ 20 23 (B_ 2097151 34) ?_
   refine gx HT_ 21 24 (B_ 4194303 34) ?_
   refine gx HT_ 22 25 (B_ 8388607 34) ?_
   refine gx HT_ 23 26 (B_ 16777215 34) ?_
   refine gx HT_ 24 27 (B_ 33554431 34) ?_
   refine gx HT_ 25 28 (B_ 67108863 34) ?_
   refine gx HT_ 26 29 (B_ 134217727 34) ?_
   refine b5 HT_ 27 30 (B_ 268435455 34) ?_
   refine b5 HT_ 28 31 (B_ 536870911 34) ?_
   refine gx HT_ 29 32 (B_ 1073741823 34) ?_
   refine gx HT_ 30 33 (B_ 2147483647 34) ?_
   refine gx HT_ 31 34 (B_ 4294967295 34) ?_
   refine b5 HT_ 32 35 (B_ 8589934591 34) ?_
   refine b5 HT_ 33 2 (B_ 17179869183 34) ?_
   refine ik (eS HT_.out (by kernel_rfl)) ?_
   try go_wp2
   go_ret
   exact ⟨ig, bC HB⟩
 subst c3
 rw [if_pos rfl] at H
 by_cases c4 : (an.length : Int) ≤ 12
 rotate_left
 · rw [if_neg c4] at H
   have kI : decide ((an.length : Int) ≤ 12) = false := decide_eq_false c4
   have Ea : decide (an.length ≤ 12) = false := decide_eq_false (by omega)
   clear c4
   obtain rfl := Option.some.inj H
   go_enter Tryz.func45, Tryz.ntmps45
   try go_wp2_with (first | ((with_reducible refine gate_dst (N := 1) rfl ?_); (try (refine gate_guard (by rfl) ?_; dsimp only)); refine iP 1 #[.slice bF an.length bl] 26 ?_; intro rR hg Eo hbox hb; have e7 := aa.mk (hbox); have EH := ij hg HB; have EI := ij hg HB; replace HB := jL HB hb; clear hb hbox hg))
   replace e7 := aa.mk (bg e7.out)
   replace HB := aa.mk (bD HB.out)
   refine fy (n := 34) (S := fun w' => w'.cell? ⟨rR, 0, none⟩ = some (.slice bF an.length bl)) (ds := []) (B_ 0 34) (by kernel_rfl) rfl rfl ((aH e7.out 0).trans rfl) (fun hHeld => ?_); refine dv aA.El aA.wM (fun HT_ HW_ => ?_)
   generalize Eo.drew = TL at e7 HB hHeld ⊢
   refine b5 HT_ 0 3 (B_ 1 34) ?_
   refine lL HT_ HW_ hHeld 1 4 (B_ 3 34) ?_
   refine o2 HT_ 2 5 (B_ 7 34) (fun K hK => ?_)
   refine gu Tryz.func91 (by kernel_rfl) rfl #[.slice bF an.length bl] (by rfl) rfl rfl (by (try simp only [List.map_toArray, List.map_cons, List.map_nil]); first | done | rfl | (simp only [List.length_drop, List.length_take]; rfl)) ?_
   with_reducible refine (bZ.calls k _ _ an true _ ?ah ?aj A2.out).mono ?_
   (case ah => exact iZ bV HB)
   (case aj => exact cH.out)
   rintro e w' ⟨rfl, ⟨nd, rfl⟩⟩
   refine ⟨_, rfl, ?_⟩
   refine hK.out _ _ ((aH e7.out 0).trans rfl) (fun hHeld => ?_)
   clear hK K
   refine ep (a' := ?_) ?_ ?_
   rotate_left
   · show Act.put _ (some 5) _ = _
     simp only [Act.put, jK, jA, jB, b6, dw]
     rfl
   refine b5 HT_ 3 6 (B_ 15 34) ?_
   refine b5 HT_ 4 7 (B_ 31 34) ?_
   refine lL HT_ HW_ hHeld 5 8 (B_ 63 34) ?_
   refine b5 HT_ 6 9 (B_ 127 34) ?_
   refine b5 HT_ 7 10 (B_ 255 34) ?_
   refine b5 HT_ 8 11 (B_ 511 34) ?_
   refine b5 HT_ 9 12 (B_ 1023 34) ?_
   refine gx HT_ 10 13 (B_ 2047 34) ?_
   refine gx HT_ 11 14 (B_ 4095 34) ?_
   refine gx HT_ 12 15 (B_ 8191 34) ?_
   refine b5 HT_ 13 16 (B_ 16383 34) ?_
   refine b5 HT_ 14 17 (B_ 32767 34) ?_
   refine gx HT_ 15 18 (B_ 65535 34) ?_
   refine gx HT_ 16 19 (B_ 131071 34) ?_
   refine gx HT_ 17 20 (B_ 262143 34) ?_
   refine gx HT_ 18 21 (B_ 524287 34) ?_
   refine b5 HT_ 19 22 (B_ 1048575 34) ?_
   refine b5 HT_ 20 23 (B_ 2097151 34) ?_
   refine gx HT_ 21 24 (B_ 4194303 34) ?_
   refine gx HT_ 22 25 (B_ 8388607 34) ?_
   refine gx HT_ 23 26 (B_ 16777215 34) ?_
   refine gx HT_ 24 27 (B_ 33554431 34) ?_
   refine gx HT_ 25 28 (B_ 67108863 34) ?_
   refine gx HT_ 26 29 (B_ 134217727 34) ?_
   refine b5 HT_ 27 30 (B_ 268435455 34) ?_
   refine b5 HT_ 28 31 (B_ 536870911 34) ?_
   refine gx HT_ 29 32 (B_ 1073741823 34) ?_
   refine gx HT_ 30 33 (B_ 2147483647 34) ?_
   refine gx HT_ 31 34 (B_ 4294967295 34) ?_
   refine b5 HT_ 32 35 (B_ 8589934591 34) ?_
   refine b5 HT_ 33 2 (B_ 17179869183 34) ?_
   refine ik (eS HT_.out (by kernel_rfl)) ?_
   try go_wp2
   go_ret
   exact ⟨ig, bC HB⟩
 rw [if_pos c4] at H
 have kI : decide ((an.length : Int) ≤ 12) = true := decide_eq_true c4
 have Ea : decide (an.length ≤ 12) = true := decide_eq_true (by omega)
 clear c4
 obtain ⟨aci, A5, H⟩ := eA H
 by_cases c6 : aci = true
 rotate_left
 · replace c6 := Bool.eq_false_iff.mpr c6
   subst c6
   rw [if_neg (show ¬ (false = true) by decide)] at H
   obtain rfl := Option.some.inj H
   go_enter Tryz.func45, Tryz.ntmps45
   try go_wp2_with (first | ((with_reducible refine gate_dst (N := 1) rfl ?_); (try (refine gate_guard (by rfl) ?_; dsimp only)); refine iP 1 #[.slice bF an.length bl] 26 ?_; intro rR hg Ek hbox hb; have e7 := aa.mk (hbox); have EH := ij hg HB; have EI := ij hg HB; replace HB := jL HB hb; clear hb hbox hg))
   replace e7 := aa.mk (bg e7.out)
   replace HB := aa.mk (bD HB.out)
   refine fy (n := 34) (S := fun w' => w'.cell? ⟨rR, 0, none⟩ = some (.slice bF an.length bl)) (ds := []) (B_ 0 34) (by kernel_rfl) rfl rfl ((aH e7.out 0).trans rfl) (fun hHeld => ?_); refine dv aA.El aA.wM (fun HT_ HW_ => ?_)
   generalize Ek.drew = TN at e7 HB hHeld ⊢
   refine b5 HT_ 0 3 (B_ 1 34) ?_
   refine lL HT_ HW_ hHeld 1 4 (B_ 3 34) ?_
   refine o2 HT_ 2 5 (B_ 7 34) (fun K hK => ?_)
   refine gu Tryz.func91 (by kernel_rfl) rfl #[.slice bF an.length bl] (by rfl) rfl rfl (by (try simp only [List.map_toArray, List.map_cons, List.map_nil]); first | done | rfl | (simp only [List.length_drop, List.length_take]; rfl)) ?_
   with_reducible refine (bZ.calls k _ _ an true _ ?ah ?aj A2.out).mono ?_
   (case ah => exact iZ bV HB)
   (case aj => exact cH.out)
   rintro e w' ⟨rfl, ⟨nd, rfl⟩⟩
   refine ⟨_, rfl, ?_⟩
   refine hK.out _ _ ((aH e7.out 0).trans rfl) (fun hHeld => ?_)
   clear hK K
   refine ep (a' := ?_) ?_ ?_
   rotate_left
   · show Act.put _ (some 5) _ = _
     simp only [Act.put, jK, jA, jB, b6, dw]
     rfl
   refine b5 HT_ 3 6 (B_ 15 34) ?_
   refine b5 HT_ 4 7 (B_ 31 34) ?_
   refine lL HT_ HW_ hHeld 5 8 (B_ 63 34) ?_
   refine b5 HT_ 6 9 (B_ 127 34) ?_
   refine b5 HT_ 7 10 (B_ 255 34) ?_
   refine b5 HT_ 8 11 (B_ 511 34) ?_
   refine b5 HT_ 9 12 (B_ 1023 34) ?_
   refine b5 HT_ 10 13 (B_ 2047 34) ?_
   refine lL HT_ HW_ hHeld 11 14 (B_ 4095 34) ?_
   refine o2 HT_ 12 15 (B_ 8191 34) (fun K hK => ?_)
   refine gu Tryz.func92 (by kernel_rfl) rfl #[.slice bF an.length bl] (by rfl) rfl rfl (by (try simp only [List.map_toArray, List.map_cons, List.map_nil]); first | done | rfl | (simp only [List.length_drop, List.length_take]; rfl)) ?_
   with_reducible refine (bf.calls k _ _ an false _ ?ah ?aj A5.out).mono ?_
   (case ah => repeat (first | exact (Kd.dx bV.out (bC HB)) | (with_reducible refine Kd.cz ?_ _) | (with_reducible refine Kd.cA ?_ _) | (with_reducible refine Kd.di ?_)))
   (case aj => exact cH.out)
   rintro e w' ⟨rfl, ⟨nd, rfl⟩⟩
   refine ⟨_, rfl, ?_⟩
   refine hK.out _ _ ((aH e7.out 0).trans rfl) (fun hHeld => ?_)
   clear hK K
   refine ep (a' := ?_) ?_ ?_
   rotate_left
   · show Act.put _ (some 15) _ = _
     simp only [Act.put, jK, jA, jB, b6, dw]
     rfl
   refine b5 HT_ 13 16 (B_ 16383 34) ?_
   refine b5 HT_ 14 17 (B_ 32767 34) ?_
   refine gx HT_ 15 18 (B_ 65535 34) ?_
   refine gx HT_ 16 19 (B_ 131071 34) ?_
   refine gx HT_ 17 20 (B_ 262143 34) ?_
   refine gx HT_ 18 21 (B_ 524287 34) ?_
   refine b5 HT_ 19 22 (B_ 1048575 34) ?_
   refine b5 HT_ 20 23 (B_ 2097151 34) ?_
   refine gx HT_ 21 24 (B_ 4194303 34) ?_
   refine gx HT_ 22 25 (B_ 8388607 34) ?_
   refine gx HT_ 23 26 (B_ 16777215 34) ?_
   refine gx HT_ 24 27 (B_ 33554431 34) ?_
   refine gx HT_ 25 28 (B_ 67108863 34) ?_
   refine gx HT_ 26 29 (B_ 134217727 34) ?_
   refine b5 HT_ 27 30 (B_ 268435455 34) ?_
   refine b5 HT_ 28 31 (B_ 536870911 34) ?_
   refine gx HT_ 29 32 (B_ 1073741823 34) ?_
   refine gx HT_ 30 33 (B_ 2147483647 34) ?_
   refine gx HT_ 31 34 (B_ 4294967295 34) ?_
   refine b5 HT_ 32 35 (B_ 8589934591 34) ?_
   refine b5 HT_ 33 2 (B_ 17179869183 34) ?_
   refine ik (eS HT_.out (by kernel_rfl)) ?_
   try go_wp2
   go_ret
   exact ⟨ig, bC HB⟩
 subst c6
 rw [if_pos rfl] at H
 obtain ⟨A_, A7, H⟩ := eA H
 by_cases c8 : A_ = 1
 rotate_left
 · rw [if_neg c8] at H
   have rD : (A_ == 1) = false := beq_eq_false_iff_ne.mpr c8
   have Pt : (A_ != 1) = true := bne_iff_ne.mpr c8
   obtain rfl := Option.some.inj H
   go_enter Tryz.func45, Tryz.ntmps45
   try go_wp2_with (first | ((with_reducible refine gate_dst (N := 1) rfl ?_); (try (refine gate_guard (by rfl) ?_; dsimp only)); refine iP 1 #[.slice bF an.length bl] 26 ?_; intro rR hg DT hbox hb; have e7 := aa.mk (hbox); have EH := ij hg HB; have EI := ij hg HB; replace HB := jL HB hb; clear hb hbox hg))
   replace e7 := aa.mk (bg e7.out)
   replace HB := aa.mk (bD HB.out)
   refine fy (n := 34) (S := fun w' => w'.cell? ⟨rR, 0, none⟩ = some (.slice bF an.length bl)) (ds := []) (B_ 0 34) (by kernel_rfl) rfl rfl ((aH e7.out 0).trans rfl) (fun hHeld => ?_); refine dv aA.El aA.wM (fun HT_ HW_ => ?_)
   generalize DT.drew = xV at e7 HB hHeld ⊢
   refine b5 HT_ 0 3 (B_ 1 34) ?_
   refine lL HT_ HW_ hHeld 1 4 (B_ 3 34) ?_
   refine o2 HT_ 2 5 (B_ 7 34) (fun K hK => ?_)
   refine gu Tryz.func91 (by kernel_rfl) rfl #[.slice bF an.length bl] (by rfl) rfl rfl (by (try simp only [List.map_toArray, List.map_cons, List.map_nil]); first | done | rfl | (simp only [List.length_drop, List.length_take]; rfl)) ?_
   with_reducible refine (bZ.calls k _ _ an true _ ?ah ?aj A2.out).mono ?_
   (case ah => exact iZ bV HB)
   (case aj => exact cH.out)
   rintro e w' ⟨rfl, ⟨nd, rfl⟩⟩
   refine ⟨_, rfl, ?_⟩
   refine hK.out _ _ ((aH e7.out 0).trans rfl) (fun hHeld => ?_)
   clear hK K
   refine ep (a' := ?_) ?_ ?_
   rotate_left
   · show Act.put _ (some 5) _ = _
     simp only [Act.put, jK, jA, jB, b6, dw]
     rfl
   refine b5 HT_ 3 6 (B_ 15 34) ?_
   refine b5 HT_ 4 7 (B_ 31 34) ?_
   refine lL HT_ HW_ hHeld 5 8 (B_ 63 34) ?_
   refine b5 HT_ 6 9 (B_ 127 34) ?_
   refine b5 HT_ 7 10 (B_ 255 34) ?_
   refine b5 HT_ 8 11 (B_ 511 34) ?_
   refine b5 HT_ 9 12 (B_ 1023 34) ?_
   refine b5 HT_ 10 13 (B_ 2047 34) ?_
   refine lL HT_ HW_ hHeld 11 14 (B_ 4095 34) ?_
   refine o2 HT_ 12 15 (B_ 8191 34) (fun K hK => ?_)
   refine gu Tryz.func92 (by kernel_rfl) rfl #[.slice bF an.length bl] (by rfl) rfl rfl (by (try simp only [List.map_toArray, List.map_cons, List.map_nil]); first | done | rfl | (simp only [List.length_drop, List.length_take]; rfl)) ?_
   with_reducible refine (bf.calls k _ _ an true _ ?ah ?aj A5.out).mono ?_
   (case ah => repeat (first | exact (Kd.dx bV.out (bC HB)) | (with_reducible refine Kd.cz ?_ _) | (with_reducible refine Kd.cA ?_ _) | (with_reducible refine Kd.di ?_)))
   (case aj => exact cH.out)
   rintro e w' ⟨rfl, ⟨nd, rfl⟩⟩
   refine ⟨_, rfl, ?_⟩
   refine hK.out _ _ ((aH e7.out 0).trans rfl) (fun hHeld => ?_)
   clear hK K
   refine ep (a' := ?_) ?_ ?_
   rotate_left
   · show Act.put _ (some 15) _ = _
     simp only [Act.put, jK, jA, jB, b6, dw]
     rfl
   refine b5 HT_ 13 16 (B_ 16383 34) ?_
   refine b5 HT_ 14 17 (B_ 32767 34) ?_
   refine b5 HT_ 15 18 (B_ 65535 34) ?_
   refine lL HT_ HW_ hHeld 16 19 (B_ 131071 34) ?_
   refine o2 HT_ 17 20 (B_ 262143 34) (fun K hK => ?_)
   refine gu Tryz.func93 (by kernel_rfl) rfl #[.slice bF an.length bl] (by rfl) rfl rfl (by (try simp only [List.map_toArray, List.map_cons, List.map_nil]); first | done | rfl | (simp only [List.length_drop, List.length_take]; rfl)) ?_
   with_reducible refine (bN.calls k _ _ an A_ _ ?ah ?aj A7.out).mono ?_
   (case ah => repeat (first | exact (Kd.dx bV.out (bC HB)) | (with_reducible refine Kd.cz ?_ _) | (with_reducible refine Kd.cA ?_ _) | (with_reducible refine Kd.di ?_)))
   (case aj => exact cH.out)
   rintro e w' ⟨rfl, ⟨nd, rfl⟩⟩
   refine ⟨_, rfl, ?_⟩
   refine hK.out _ _ ((aH e7.out 0).trans rfl) (fun hHeld => ?_)
   clear hK K
   refine ep (a' := ?_) ?_ ?_
   rotate_left
   · show Act.put _ (some 20) _ = _
     simp only [Act.put, jK, jA, jB, b6, dw]
     rfl
   refine b5 HT_ 18 21 (B_ 524287 34) ?_
   refine b5 HT_ 19 22 (B_ 1048575 34) ?_
   refine b5 HT_ 20 23 (B_ 2097151 34) ?_
   refine gx HT_ 21 24 (B_ 4194303 34) ?_
   refine gx HT_ 22 25 (B_ 8388607 34) ?_
   refine gx HT_ 23 26 (B_ 16777215 34) ?_
   refine gx HT_ 24 27 (B_ 33554431 34) ?_
   refine gx HT_ 25 28 (B_ 67108863 34) ?_
   refine gx HT_ 26 29 (B_ 134217727 34) ?_
   refine b5 HT_ 27 30 (B_ 268435455 34) ?_
   refine b5 HT_ 28 31 (B_ 536870911 34) ?_
   refine gx HT_ 29 32 (B_ 1073741823 34) ?_
   refine gx HT_ 30 33 (B_ 2147483647 34) ?_
   refine gx HT_ 31 34 (B_ 4294967295 34) ?_
   refine b5 HT_ 32 35 (B_ 8589934591 34) ?_
   refine b5 HT_ 33 2 (B_ 17179869183 34) ?_
   refine ik (eS HT_.out (by kernel_rfl)) ?_
   try go_wp2
   go_ret
   exact ⟨ig, bC HB⟩
 rw [if_pos c8] at H
 have rD : (A_ == 1) = true := beq_iff_eq.mpr c8
 have Pt : (A_ != 1) = false := bne_eq_false_iff_eq.mpr c8
 clear c8
 obtain ⟨EG, A9, H⟩ := eA H
 obtain ⟨acj, Nc, H⟩ := eA H
 by_cases rL : acj = true
 rotate_left
 · replace rL := Bool.eq_false_iff.mpr rL
   subst rL
   rw [if_neg (show ¬ (false = true) by decide)] at H
   obtain rfl := Option.some.inj H
   go_enter Tryz.func45, Tryz.ntmps45
   try go_wp2_with (first | ((with_reducible refine gate_dst (N := 1) rfl ?_); (try (refine gate_guard (by rfl) ?_; dsimp only)); refine iP 1 #[.slice bF an.length bl] 26 ?_; intro rR hg Ut hbox hb; have e7 := aa.mk (hbox); have EH := ij hg HB; have EI := ij hg HB; replace HB := jL HB hb; clear hb hbox hg))
   replace e7 := aa.mk (bg e7.out)
   replace HB := aa.mk (bD HB.out)
   refine fy (n := 34) (S := fun w' => w'.cell? ⟨rR, 0, none⟩ = some (.slice bF an.length bl)) (ds := []) (B_ 0 34) (by kernel_rfl) rfl rfl ((aH e7.out 0).trans rfl) (fun hHeld => ?_); refine dv aA.El aA.wM (fun HT_ HW_ => ?_)
   generalize Ut.drew = TJ at e7 HB hHeld ⊢
   refine b5 HT_ 0 3 (B_ 1 34) ?_
   refine lL HT_ HW_ hHeld 1 4 (B_ 3 34) ?_
   refine o2 HT_ 2 5 (B_ 7 34) (fun K hK => ?_)
   refine gu Tryz.func91 (by kernel_rfl) rfl #[.slice bF an.length bl] (by rfl) rfl rfl (by (try simp only [List.map_toArray, List.map_cons, List.map_nil]); first | done | rfl | (simp only [List.length_drop, List.length_take]; rfl)) ?_
   with_reducible refine (bZ.calls k _ _ an true _ ?ah ?aj A2.out).mono ?_
   (case ah => exact iZ bV HB)
   (case aj => exact cH.out)
   rintro e w' ⟨rfl, ⟨nd, rfl⟩⟩
   refine ⟨_, rfl, ?_⟩
   refine hK.out _ _ ((aH e7.out 0).trans rfl) (fun hHeld => ?_)
   clear hK K
   refine ep (a' := ?_) ?_ ?_
   rotate_left
   · show Act.put _ (some 5) _ = _
     simp only [Act.put, jK, jA, jB, b6, dw]
     rfl
   refine b5 HT_ 3 6 (B_ 15 34) ?_
   refine b5 HT_ 4 7 (B_ 31 34) ?_
   refine lL HT_ HW_ hHeld 5 8 (B_ 63 34) ?_
   refine b5 HT_ 6 9 (B_ 127 34) ?_
   refine b5 HT_ 7 10 (B_ 255 34) ?_
   refine b5 HT_ 8 11 (B_ 511 34) ?_
   refine b5 HT_ 9 12 (B_ 1023 34) ?_
   refine b5 HT_ 10 13 (B_ 2047 34) ?_
   refine lL HT_ HW_ hHeld 11 14 (B_ 4095 34) ?_
   refine o2 HT_ 12 15 (B_ 8191 34) (fun K hK => ?_)
   refine gu Tryz.func92 (by kernel_rfl) rfl #[.slice bF an.length bl] (by rfl) rfl rfl (by (try simp only [List.map_toArray, List.map_cons, List.map_nil]); first | done | rfl | (simp only [List.length_drop, List.length_take]; rfl)) ?_
   with_reducible refine (bf.calls k _ _ an true _ ?ah ?aj A5.out).mono ?_
   (case ah => repeat (first | exact (Kd.dx bV.out (bC HB)) | (with_reducible refine Kd.cz ?_ _) | (with_reducible refine Kd.cA ?_ _) | (with_reducible refine Kd.di ?_)))
   (case aj => exact cH.out)
   rintro e w' ⟨rfl, ⟨nd, rfl⟩⟩
   refine ⟨_, rfl, ?_⟩
   refine hK.out _ _ ((aH e7.out 0).trans rfl) (fun hHeld => ?_)
   clear hK K
   refine ep (a' := ?_) ?_ ?_
   rotate_left
   · show Act.put _ (some 15) _ = _
     simp only [Act.put, jK, jA, jB, b6, dw]
     rfl
   refine b5 HT_ 13 16 (B_ 16383 34) ?_
   refine b5 HT_ 14 17 (B_ 32767 34) ?_
   refine b5 HT_ 15 18 (B_ 65535 34) ?_
   refine lL HT_ HW_ hHeld 16 19 (B_ 131071 34) ?_
   refine o2 HT_ 17 20 (B_ 262143 34) (fun K hK => ?_)
   refine gu Tryz.func93 (by kernel_rfl) rfl #[.slice bF an.length bl] (by rfl) rfl rfl (by (try simp only [List.map_toArray, List.map_cons, List.map_nil]); first | done | rfl | (simp only [List.length_drop, List.length_take]; rfl)) ?_
   with_reducible refine (bN.calls k _ _ an A_ _ ?ah ?aj A7.out).mono ?_
   (case ah => repeat (first | exact (Kd.dx bV.out (bC HB)) | (with_reducible refine Kd.cz ?_ _) | (with_reducible refine Kd.cA ?_ _) | (with_reducible refine Kd.di ?_)))
   (case aj => exact cH.out)
   rintro e w' ⟨rfl, ⟨nd, rfl⟩⟩
   refine ⟨_, rfl, ?_⟩
   refine hK.out _ _ ((aH e7.out 0).trans rfl) (fun hHeld => ?_)
   clear hK K
   refine ep (a' := ?_) ?_ ?_
   rotate_left
   · show Act.put _ (some 20) _ = _
     simp only [Act.put, jK, jA, jB, b6, dw]
     rfl
   refine b5 HT_ 18 21 (B_ 524287 34) ?_
   refine b5 HT_ 19 22 (B_ 1048575 34) ?_
   refine b5 HT_ 20 23 (B_ 2097151 34) ?_
   refine b5 HT_ 21 24 (B_ 4194303 34) ?_
   refine b5 HT_ 24 27 (B_ 20971519 34) ?_
   refine lL HT_ HW_ hHeld 22 25 (B_ 25165823 34) ?_
   refine lL HT_ HW_ hHeld 25 28 (B_ 58720255 34) ?_
   refine o2 HT_ 23 26 (B_ 67108863 34) (fun K hK => ?_)
   refine gu Tryz.func94 (by kernel_rfl) rfl #[.slice bF an.length bl] (by rfl) rfl rfl (by (try simp only [List.map_toArray, List.map_cons, List.map_nil]); first | done | rfl | (simp only [List.length_drop, List.length_take]; rfl)) ?_
   with_reducible refine (az.calls k _ _ an EG _ ?ah ?aj A9.out).mono ?_
   (case ah => repeat (first | exact (Kd.dx bV.out (bC HB)) | (with_reducible refine Kd.cz ?_ _) | (with_reducible refine Kd.cA ?_ _) | (with_reducible refine Kd.di ?_)))
   (case aj => exact cH.out)
   rintro e UB ⟨aq6, rfl, b0, hb⟩
   refine ⟨_, rfl, ?_⟩
   have uE := aa.mk (Kd.aW b0 (ag (bC HB)))
   replace e7 := cn e7 hb
   replace HB := eM HB hb
   (try clear hb)
   (try clear b0)
   obtain ⟨Pu, Pv, Pw⟩ := Kd.aN uE.out
   (first | subst Pw | (injection Pw with ox tM oy; have tN := ox.symm; have tO := oy.symm; clear ox tM oy; subst tN; subst tO))
   refine hK.out _ _ ((aH e7.out 0).trans rfl) (fun hHeld => ?_)
   clear hK K
   refine ep (a' := ?_) ?_ ?_
   rotate_left
   · show Act.put _ (some 26) _ = _
     simp only [Act.put, jK, jA, jB, b6, dw]
     rfl
   refine o2 HT_ 26 29 (B_ 134217727 34) (fun K hK => ?_)
   refine gu Tryz.func56 (by kernel_rfl) rfl #[.slice Pu EG.length Pv, .slice bF an.length bl] (by rfl) rfl rfl (by (try simp only [List.map_toArray, List.map_cons, List.map_nil]); first | done | rfl | (simp only [List.length_drop, List.length_take]; rfl)) ?_
   with_reducible refine (cJ.calls k _ _ EG _ _ an false _ ?ah ?aj ?fB ?hD Nc.out).mono ?_
   (case ah => exact kx ((Kd.ao uE.out).2.2))
   (case aj => exact (Kd.ao uE.out).2.1)
   (case fB => exact iZ bV HB)
   (case hD => exact cH.out)
   rintro e w' ⟨rfl, ⟨nd, rfl⟩⟩
   refine ⟨_, rfl, ?_⟩
   refine hK.out _ _ ((aH e7.out 0).trans rfl) (fun hHeld => ?_)
   clear hK K
   refine ep (a' := ?_) ?_ ?_
   rotate_left
   · show Act.put _ (some 29) _ = _
     simp only [Act.put, jK, jA, jB, b6, dw]
     rfl
   refine b5 HT_ 27 30 (B_ 268435455 34) ?_
   refine b5 HT_ 28 31 (B_ 536870911 34) ?_
   refine gx HT_ 29 32 (B_ 1073741823 34) ?_
   refine gx HT_ 30 33 (B_ 2147483647 34) ?_
   refine gx HT_ 31 34 (B_ 4294967295 34) ?_
   refine b5 HT_ 32 35 (B_ 8589934591 34) ?_
   refine b5 HT_ 33 2 (B_ 17179869183 34) ?_
   refine ik (eS HT_.out (by kernel_rfl)) ?_
   try go_wp2
   go_ret
   exact ⟨ig, bC HB⟩
 subst rL
 rw [if_pos rfl] at H
 obtain ⟨ack, A12, H⟩ := eA H
 obtain rfl := Option.some.inj H
 go_enter Tryz.func45, Tryz.ntmps45
 try go_wp2_with (first | ((with_reducible refine gate_dst (N := 1) rfl ?_); (try (refine gate_guard (by rfl) ?_; dsimp only)); refine iP 1 #[.slice bF an.length bl] 26 ?_; intro rR hg Eb hbox hb; have e7 := aa.mk (hbox); have EH := ij hg HB; have EI := ij hg HB; replace HB := jL HB hb; clear hb hbox hg))
 replace e7 := aa.mk (bg e7.out)
 replace HB := aa.mk (bD HB.out)
 refine fy (n := 34) (S := fun w' => w'.cell? ⟨rR, 0, none⟩ = some (.slice bF an.length bl)) (ds := []) (B_ 0 34) (by kernel_rfl) rfl rfl ((aH e7.out 0).trans rfl) (fun hHeld => ?_); refine dv aA.El aA.wM (fun HT_ HW_ => ?_)
 generalize Eb.drew = TI at e7 HB hHeld ⊢
 refine b5 HT_ 0 3 (B_ 1 34) ?_
 refine lL HT_ HW_ hHeld 1 4 (B_ 3 34) ?_
 refine o2 HT_ 2 5 (B_ 7 34) (fun K hK => ?_)
 refine gu Tryz.func91 (by kernel_rfl) rfl #[.slice bF an.length bl] (by rfl) rfl rfl (by (try simp only [List.map_toArray, List.map_cons, List.map_nil]); first | done | rfl | (simp only [List.length_drop, List.length_take]; rfl)) ?_
 with_reducible refine (bZ.calls k _ _ an true _ ?ah ?aj A2.out).mono ?_
 (case ah => exact iZ bV HB)
 (case aj => exact cH.out)
 rintro e w' ⟨rfl, ⟨nd, rfl⟩⟩
 refine ⟨_, rfl, ?_⟩
 refine hK.out _ _ ((aH e7.out 0).trans rfl) (fun hHeld => ?_)
 clear hK K
 refine ep (a' := ?_) ?_ ?_
 rotate_left
 · show Act.put _ (some 5) _ = _
   simp only [Act.put, jK, jA, jB, b6, dw]
   rfl
 refine b5 HT_ 3 6 (B_ 15 34) ?_
 refine b5 HT_ 4 7 (B_ 31 34) ?_
 refine lL HT_ HW_ hHeld 5 8 (B_ 63 34) ?_
 refine b5 HT_ 6 9 (B_ 127 34) ?_
 refine b5 HT_ 7 10 (B_ 255 34) ?_
 refine b5 HT_ 8 11 (B_ 511 34) ?_
 refine b5 HT_ 9 12 (B_ 1023 34) ?_
 refine b5 HT_ 10 13 (B_ 2047 34) ?_
 refine lL HT_ HW_ hHeld 11 14 (B_ 4095 34) ?_
 refine o2 HT_ 12 15 (B_ 8191 34) (fun K hK => ?_)
 refine gu Tryz.func92 (by kernel_rfl) rfl #[.slice bF an.length bl] (by rfl) rfl rfl (by (try simp only [List.map_toArray, List.map_cons, List.map_nil]); first | done | rfl | (simp only [List.length_drop, List.length_take]; rfl)) ?_
 with_reducible refine (bf.calls k _ _ an true _ ?ah ?aj A5.out).mono ?_
 (case ah => repeat (first | exact (Kd.dx bV.out (bC HB)) | (with_reducible refine Kd.cz ?_ _) | (with_reducible refine Kd.cA ?_ _) | (with_reducible refine Kd.di ?_)))
 (case aj => exact cH.out)
 rintro e w' ⟨rfl, ⟨nd, rfl⟩⟩
 refine ⟨_, rfl, ?_⟩
 refine hK.out _ _ ((aH e7.out 0).trans rfl) (fun hHeld => ?_)
 clear hK K
 refine ep (a' := ?_) ?_ ?_
 rotate_left
 · show Act.put _ (some 15) _ = _
   simp only [Act.put, jK, jA, jB, b6, dw]
   rfl
 refine b5 HT_ 13 16 (B_ 16383 34) ?_
 refine b5 HT_ 14 17 (B_ 32767 34) ?_
 refine b5 HT_ 15 18 (B_ 65535 34) ?_
 refine lL HT_ HW_ hHeld 16 19 (B_ 131071 34) ?_
 refine o2 HT_ 17 20 (B_ 262143 34) (fun K hK => ?_)
 refine gu Tryz.func93 (by kernel_rfl) rfl #[.slice bF an.length bl] (by rfl) rfl rfl (by (try simp only [List.map_toArray, List.map_cons, List.map_nil]); first | done | rfl | (simp only [List.length_drop, List.length_take]; rfl)) ?_
 with_reducible refine (bN.calls k _ _ an A_ _ ?ah ?aj A7.out).mono ?_
 (case ah => repeat (first | exact (Kd.dx bV.out (bC HB)) | (with_reducible refine Kd.cz ?_ _) | (with_reducible refine Kd.cA ?_ _) | (with_reducible refine Kd.di ?_)))
 (case aj => exact cH.out)
 rintro e w' ⟨rfl, ⟨nd, rfl⟩⟩
 refine ⟨_, rfl, ?_⟩
 refine hK.out _ _ ((aH e7.out 0).trans rfl) (fun hHeld => ?_)
 clear hK K
 refine ep (a' := ?_) ?_ ?_
 rotate_left
 · show Act.put _ (some 20) _ = _
   simp only [Act.put, jK, jA, jB, b6, dw]
   rfl
 refine b5 HT_ 18 21 (B_ 524287 34) ?_
 refine b5 HT_ 19 22 (B_ 1048575 34) ?_
 refine b5 HT_ 20 23 (B_ 2097151 34) ?_
 refine b5 HT_ 21 24 (B_ 4194303 34) ?_
 refine b5 HT_ 24 27 (B_ 20971519 34) ?_
 refine lL HT_ HW_ hHeld 22 25 (B_ 25165823 34) ?_
 refine lL HT_ HW_ hHeld 25 28 (B_ 58720255 34) ?_
 refine o2 HT_ 23 26 (B_ 67108863 34) (fun K hK => ?_)
 refine gu Tryz.func94 (by kernel_rfl) rfl #[.slice bF an.length bl] (by rfl) rfl rfl (by (try simp only [List.map_toArray, List.map_cons, List.map_nil]); first | done | rfl | (simp only [List.length_drop, List.length_take]; rfl)) ?_
 with_reducible refine (az.calls k _ _ an EG _ ?ah ?aj A9.out).mono ?_
 (case ah => repeat (first | exact (Kd.dx bV.out (bC HB)) | (with_reducible refine Kd.cz ?_ _) | (with_reducible refine Kd.cA ?_ _) | (with_reducible refine Kd.di ?_)))
 (case aj => exact cH.out)
 rintro e LS ⟨aq6, rfl, b0, hb⟩
 refine ⟨_, rfl, ?_⟩
 have uE := aa.mk (Kd.aW b0 (ag (bC HB)))
 replace e7 := cn e7 hb
 replace HB := eM HB hb
 (try clear hb)
 (try clear b0)
 obtain ⟨aba, ur, AT⟩ := Kd.aN uE.out
 (first | subst AT | (injection AT with ox tM oy; have tN := ox.symm; have tO := oy.symm; clear ox tM oy; subst tN; subst tO))
 refine hK.out _ _ ((aH e7.out 0).trans rfl) (fun hHeld => ?_)
 clear hK K
 refine ep (a' := ?_) ?_ ?_
 rotate_left
 · show Act.put _ (some 26) _ = _
   simp only [Act.put, jK, jA, jB, b6, dw]
   rfl
 refine o2 HT_ 26 29 (B_ 134217727 34) (fun K hK => ?_)
 refine gu Tryz.func56 (by kernel_rfl) rfl #[.slice aba EG.length ur, .slice bF an.length bl] (by rfl) rfl rfl (by (try simp only [List.map_toArray, List.map_cons, List.map_nil]); first | done | rfl | (simp only [List.length_drop, List.length_take]; rfl)) ?_
 with_reducible refine (cJ.calls k _ _ EG _ _ an true _ ?ah ?aj ?fB ?hD Nc.out).mono ?_
 (case ah => exact kx ((Kd.ao uE.out).2.2))
 (case aj => exact (Kd.ao uE.out).2.1)
 (case fB => exact iZ bV HB)
 (case hD => exact cH.out)
 rintro e w' ⟨rfl, ⟨nd, rfl⟩⟩
 refine ⟨_, rfl, ?_⟩
 refine hK.out _ _ ((aH e7.out 0).trans rfl) (fun hHeld => ?_)
 clear hK K
 refine ep (a' := ?_) ?_ ?_
 rotate_left
 · show Act.put _ (some 29) _ = _
   simp only [Act.put, jK, jA, jB, b6, dw]
   rfl
 refine b5 HT_ 27 30 (B_ 268435455 34) ?_
 refine b5 HT_ 28 31 (B_ 536870911 34) ?_
 refine b5 HT_ 29 32 (B_ 1073741823 34) ?_
 refine lL HT_ HW_ hHeld 30 33 (B_ 2147483647 34) ?_
 refine o2 HT_ 31 34 (B_ 4294967295 34) (fun K hK => ?_)
 refine gu Tryz.func95 (by kernel_rfl) rfl #[.slice bF an.length bl] (by rfl) rfl rfl (by (try simp only [List.map_toArray, List.map_cons, List.map_nil]); first | done | rfl | (simp only [List.length_drop, List.length_take]; rfl)) ?_
 with_reducible refine (cQ.calls k _ _ an ack _ ?ah ?aj A12.out).mono ?_
 (case ah => repeat (first | exact (Kd.dx bV.out (bC HB)) | (with_reducible refine Kd.cz ?_ _) | (with_reducible refine Kd.cA ?_ _) | (with_reducible refine Kd.di ?_)))
 (case aj => exact cH.out)
 rintro e LN ⟨rfl, hb⟩
 refine ⟨_, rfl, ?_⟩
 replace uE := aa.mk (Kd.aY (b9 uE.out) hb)
 replace e7 := cn e7 hb
 replace HB := eM HB hb
 (try clear hb)
 refine hK.out _ _ ((aH e7.out 0).trans rfl) (fun hHeld => ?_)
 clear hK K
 refine ep (a' := ?_) ?_ ?_
 rotate_left
 · show Act.put _ (some 34) _ = _
   simp only [Act.put, jK, jA, jB, b6, dw]
   rfl
 refine b5 HT_ 32 35 (B_ 8589934591 34) ?_
 refine b5 HT_ 33 2 (B_ 17179869183 34) ?_
 refine ik (eS HT_.out (by kernel_rfl)) ?_
 try go_wp2
 go_ret
 exact ⟨ig, bC HB⟩
def bj.f (k : Nat) (l0 : List Int) : Option (List Int × Bool) := (bZ.f k l0).bind fun acm => (if acm = true then ((az.f k l0).bind fun tR => ((aA.f k tR).bind fun acn => (if acn = true then (some (tR, true)) else (some (([] : List Int), false))))) else (some (([] : List Int), false)))
theorem bj.mono : ∀ a0 k, bK (bj.f k a0) (bj.f (k + 1) a0) := by
 intro a0 k
 unfold bj.f
 repeat' first
  | (with_reducible exact aA.mono _ _)
  | (with_reducible exact bZ.mono _ _)
  | (with_reducible exact az.mono _ _)
  | (with_reducible exact bK.refl _)
  | (with_reducible exact bK.none _)
  | (with_reducible refine bK.ite ?_ ?_)
  | (with_reducible refine bK.bind ?_ (fun _ => ?_))
  | exact bK.none _
  | refine bK.ite ?_ ?_
  | refine bK.bind ?_ (fun _ => ?_)
theorem bj.calls (k : Nat) (A0 : Option Addr) (c0 : Nat) (l0 : List Int) (r1 : List Int) (r2 : Bool) (w : World) (fH : Kd.C (Kd.int .i64) w A0 l0.length l0) (gL : l0.length ≤ c0) (h : bj.f k l0 = some (r1, r2)) :
 Calls Tryz.prog 58 #[.slice A0 l0.length c0] w fun e w' => ∃ jf : Value, e = .returned (.tuple #[.agg #[jf], .bool r2]) ∧ Kd.R (Kd.int .i64) 3 w' w.heap.size (fun _ => True) jf r1 ∧ Below w.heap.size w w' := by
 have kJ := Tryz.underlying26
 have eZ := aa.mk fH
 have jN := aa.mk gL
 clear fH gL
 have HB := aa.mk (Below.refl w.heap.size w)
 have H := h
 clear h
 unfold bj.f at H
 obtain ⟨acm, A2, H⟩ := eA H
 by_cases c3 : acm = true
 rotate_left
 · replace c3 := Bool.eq_false_iff.mpr c3
   subst c3
   rw [if_neg (show ¬ (false = true) by decide)] at H
   simp only [Option.some.injEq, Prod.mk.injEq] at H
   obtain ⟨rfl, rfl⟩ := H
   go_enter Tryz.func58, Tryz.ntmps58
   go_wp2_with (first | ((with_reducible refine gate_dst (N := 2) rfl ?_); refine iP 2 #[.slice none 0 0] 26 ?_; intro rS hg Ek hbox hb; have hJ := aa.mk (hbox); have YA := ij hg HB; have YB := ij hg HB; replace HB := jL HB hb; clear hb hbox hg) | ((with_reducible refine gate_callee (f := 91) rfl ?_); refine dU (some 6) Tryz.func91 #[.slice A0 l0.length c0] ?_; (with_reducible refine (bZ.calls k _ _ l0 false _ ?ah ?aj A2.out).mono ?_); (case ah => exact iZ eZ HB); (case aj => exact jN.out); rintro e w' ⟨rfl, ⟨nd, rfl⟩⟩; refine ⟨_, rfl, ?_⟩; (try (rw [ov Ek]; generalize hq_ : World.drewN Ek _ = Ek; have n5 : aa (Ek.heap[rS]? = some (.cells #[.slice none 0 0] 26 (0, 0))) := ⟨by rw [← hq_]; exact (cC hJ.out)⟩; have n9 : aa (Below w.heap.size w Ek) := ⟨by rw [← hq_]; exact (bC HB)⟩; clear hJ HB hq_; have hJ := n5; have HB := n9; clear n5 n9)); have xX := fG hJ; have xY := af hJ.out 0))
   refine bodyPost_ret (ee rfl _ _ rS 26 #[.slice none 0 0] (0, 0) _ rfl (mz hJ) Tryz.underlying26 rfl (by kernel_rfl)) rfl ?_
   exact ⟨_, ig, by first | exact Kd.kQ _ _ _ _ _ | exact Kd.mE _ _ _ _ _ | exact Kd.mF _ _ _ _ _ | exact Kd.mC _ _ _ _ _ | exact Kd.mD _ _ _ _ _, bC HB⟩
 subst c3
 rw [if_pos rfl] at H
 obtain ⟨tR, A4, H⟩ := eA H
 obtain ⟨acn, A5, H⟩ := eA H
 by_cases c6 : acn = true
 · subst c6
   rw [if_pos rfl] at H
   simp only [Option.some.injEq, Prod.mk.injEq] at H
   obtain ⟨rfl, rfl⟩ := H
   go_enter Tryz.func58, Tryz.ntmps58
   go_wp2_with (first | ((with_reducible refine gate_dst (N := 2) rfl ?_); refine iP 2 #[.slice none 0 0] 26 ?_; intro rS hg w7 hbox hb; have hJ := aa.mk (hbox); have YA := ij hg HB; have YB := ij hg HB; replace HB := jL HB hb; clear hb hbox hg) | ((with_reducible refine gate_callee (f := 91) rfl ?_); refine dU (some 6) Tryz.func91 #[.slice A0 l0.length c0] ?_; (with_reducible refine (bZ.calls k _ _ l0 true _ ?ah ?aj A2.out).mono ?_); (case ah => exact iZ eZ HB); (case aj => exact jN.out); rintro e w' ⟨rfl, ⟨nd, rfl⟩⟩; refine ⟨_, rfl, ?_⟩; (try (rw [ov w7]; generalize hq_ : World.drewN w7 _ = w7; have n5 : aa (w7.heap[rS]? = some (.cells #[.slice none 0 0] 26 (0, 0))) := ⟨by rw [← hq_]; exact (cC hJ.out)⟩; have n9 : aa (Below w.heap.size w w7) := ⟨by rw [← hq_]; exact (bC HB)⟩; clear hJ HB hq_; have hJ := n5; have HB := n9; clear n5 n9))) | ((with_reducible refine gate_callee (f := 94) rfl ?_); refine dU (some 10) Tryz.func94 #[.slice A0 l0.length c0] ?_; (with_reducible refine (az.calls k _ _ l0 tR _ ?ah ?aj A4.out).mono ?_); (case ah => exact iZ eZ HB); (case aj => exact jN.out); rintro e w8 ⟨aq7, rfl, b0, hb⟩; refine ⟨_, rfl, ?_⟩; have nJ := aa.mk (Kd.aW b0 (ag (bC HB))); replace hJ := cn hJ hb; replace HB := eM HB hb; (try clear hb); (try clear b0); obtain ⟨pI, o3, NR⟩ := Kd.aN nJ.out; subst NR) | ((with_reducible refine gate_dst (N := 4) rfl ?_); refine iP 4 #[.slice none 0 0] 26 ?_; intro Px hg Ju hbox hb; replace nJ := aa.mk (Kd.aY (b9 nJ.out) hb); have oB := aa.mk (hbox); have ah4 := kW hg (bC HB); have ah5 := kW hg (bC HB); replace HB := eM HB hb; have vO := mw hg hJ; have vP := my hg hJ; replace hJ := cn hJ hb; clear hb hbox hg; have YC := vP.out; have YD := vO.out; have nV := fG oB; have nW := af oB.out 0) | ((with_reducible refine gate_callee (f := 45) rfl ?_); refine dU (some 13) Tryz.func45 #[.agg #[.slice pI tR.length o3]] ?_; (with_reducible refine (aA.calls k _ _ tR true _ ?ah ?aj A5.out).mono ?_); (case ah => refine (Kd.ao (e := 3) (base := w.heap.size) (ok := fun k_ => True) (n := tR.length) (c := o3) ?_).2.2; exact (nh nJ oB)); (case aj => exact (Kd.ao nJ.out).2.1); rintro e Eb ⟨rfl, hb⟩; refine ⟨_, rfl, ?_⟩; replace nJ := aa.mk (Kd.aY (nh nJ oB) hb); replace hJ := aa.mk (bW (g := rS) (o := .cells #[.slice none 0 0] 26 (0, 0)) (pB hJ) hb); replace oB := aa.mk (bW (g := Px) (o := .cells #[.slice pI tR.length o3] 26 (0, 0)) (mz oB) hb); replace HB := eM HB hb; (try clear hb); have JK := fG oB; have JL := af oB.out 0; have JM := fG hJ; have JN := af hJ.out 0))
   refine bodyPost_ret (ee rfl _ _ rS 26 #[.slice pI tR.length o3] (0, 0) _ rfl (mz hJ) Tryz.underlying26 rfl (by kernel_rfl)) rfl ?_
   exact ⟨_, ig, by (with_reducible repeat (first | apply Kd.bQ | apply Kd.bT | apply Kd.bR)); exact Kd.bB (Kd.iJ (p := ⟨rS, 0, none⟩) (Kd.cI nJ.out hJ.out (by decide)) (fun _ hk => hk.2) (.slice pI tR.length o3)) (fun _ hk => trivial), bC HB⟩
 replace c6 := Bool.eq_false_iff.mpr c6
 subst c6
 rw [if_neg (show ¬ (false = true) by decide)] at H
 simp only [Option.some.injEq, Prod.mk.injEq] at H
 obtain ⟨rfl, rfl⟩ := H
 go_enter Tryz.func58, Tryz.ntmps58
 go_wp2_with (first | ((with_reducible refine gate_dst (N := 2) rfl ?_); refine iP 2 #[.slice none 0 0] 26 ?_; intro rS hg LX hbox hb; have hJ := aa.mk (hbox); have YA := ij hg HB; have YB := ij hg HB; replace HB := jL HB hb; clear hb hbox hg) | ((with_reducible refine gate_callee (f := 91) rfl ?_); refine dU (some 6) Tryz.func91 #[.slice A0 l0.length c0] ?_; (with_reducible refine (bZ.calls k _ _ l0 true _ ?ah ?aj A2.out).mono ?_); (case ah => exact iZ eZ HB); (case aj => exact jN.out); rintro e w' ⟨rfl, ⟨nd, rfl⟩⟩; refine ⟨_, rfl, ?_⟩; (try (rw [ov LX]; generalize hq_ : World.drewN LX _ = LX; have n5 : aa (LX.heap[rS]? = some (.cells #[.slice none 0 0] 26 (0, 0))) := ⟨by rw [← hq_]; exact (cC hJ.out)⟩; have n9 : aa (Below w.heap.size w LX) := ⟨by rw [← hq_]; exact (bC HB)⟩; clear hJ HB hq_; have hJ := n5; have HB := n9; clear n5 n9))) | ((with_reducible refine gate_callee (f := 94) rfl ?_); refine dU (some 10) Tryz.func94 #[.slice A0 l0.length c0] ?_; (with_reducible refine (az.calls k _ _ l0 tR _ ?ah ?aj A4.out).mono ?_); (case ah => exact iZ eZ HB); (case aj => exact jN.out); rintro e LN ⟨aq7, rfl, b0, hb⟩; refine ⟨_, rfl, ?_⟩; have nJ := aa.mk (Kd.aW b0 (ag (bC HB))); replace hJ := cn hJ hb; replace HB := eM HB hb; (try clear hb); (try clear b0); obtain ⟨nn, mQ, ze⟩ := Kd.aN nJ.out; subst ze) | ((with_reducible refine gate_dst (N := 4) rfl ?_); refine iP 4 #[.slice none 0 0] 26 ?_; intro Px hg TJ hbox hb; replace nJ := aa.mk (Kd.aY (b9 nJ.out) hb); have oB := aa.mk (hbox); have ah4 := kW hg (bC HB); have ah5 := kW hg (bC HB); replace HB := eM HB hb; have vO := mw hg hJ; have vP := my hg hJ; replace hJ := cn hJ hb; clear hb hbox hg; have avG := vP.out; have avH := vO.out; have Jx := fG oB; have Jy := af oB.out 0) | ((with_reducible refine gate_callee (f := 45) rfl ?_); refine dU (some 13) Tryz.func45 #[.agg #[.slice nn tR.length mQ]] ?_; (with_reducible refine (aA.calls k _ _ tR false _ ?ah ?aj A5.out).mono ?_); (case ah => refine (Kd.ao (e := 3) (base := w.heap.size) (ok := fun k_ => True) (n := tR.length) (c := mQ) ?_).2.2; exact (nh nJ oB)); (case aj => exact (Kd.ao nJ.out).2.1); rintro e DT ⟨rfl, hb⟩; refine ⟨_, rfl, ?_⟩; replace nJ := aa.mk (Kd.aY (nh nJ oB) hb); replace hJ := aa.mk (bW (g := rS) (o := .cells #[.slice none 0 0] 26 (0, 0)) (pB hJ) hb); replace oB := aa.mk (bW (g := Px) (o := .cells #[.slice nn tR.length mQ] 26 (0, 0)) (mz oB) hb); replace HB := eM HB hb; (try clear hb); have Jv := fG hJ; have Jw := af hJ.out 0))
 refine bodyPost_ret (ee rfl _ _ rS 26 #[.slice none 0 0] (0, 0) _ rfl (mz hJ) Tryz.underlying26 rfl (by kernel_rfl)) rfl ?_
 exact ⟨_, ig, by first | exact Kd.kQ _ _ _ _ _ | exact Kd.mE _ _ _ _ _ | exact Kd.mF _ _ _ _ _ | exact Kd.mC _ _ _ _ _ | exact Kd.mD _ _ _ _ _, bC HB⟩
def jw.f (cd : List Int) (eD : Int) (eJ : Int) : Option (List Int × Int × Int) := (bS.f cd eD eJ 8).bind fun kz => (if kz.1 = 0 then (some ((([1] : List Int)), kz.2.1, kz.2.2)) else (if kz.1 = 1 then (some ((([3, 5] : List Int)), kz.2.1, kz.2.2)) else (if kz.1 = 2 then (some ((([4, 6, 9] : List Int)), kz.2.1, kz.2.2)) else (if kz.1 = 3 then (some ((([3, 4, 5] : List Int)), kz.2.1, kz.2.2)) else (if kz.1 = 4 then (some ((([6, 9, 20] : List Int)), kz.2.1, kz.2.2)) else (if kz.1 = 5 then (some ((([5, 7, 9, 11] : List Int)), kz.2.1, kz.2.2)) else (if kz.1 = 6 then (some ((([2, 3] : List Int)), kz.2.1, kz.2.2)) else (some ((([4, 5, 11] : List Int)), kz.2.1, kz.2.2)))))))))
theorem jw.calls (g : Nat) (cd : List Int) (eD : Int) (eJ : Int) (r1 : List Int) (r2 : Int) (r3 : Int) (w0 w : World) (hI : ae w0 w g cd eD eJ) (hB : Below w0.heap.size w0 w) (h : jw.f cd eD eJ = some (r1, r2, r3)) :
 Calls Tryz.prog 108 #[.pointer (some ⟨g, 0, none⟩)] w fun e w' => ∃ jf : Value, e = .returned (jf) ∧ Kd.R (Kd.int .i64) 3 w' w.heap.size (fun _ => True) jf r1 ∧ ae w0 w' g cd r2 r3 ∧ Below w0.heap.size w0 w' ∧ aq w w' g none := by
 have bX := aa.mk hI
 have HK := aa.mk (aq.refl w g none)
 have HL := aa.mk hB.size
 clear hI
 have wR := aa.mk hB.size
 have HB := aa.mk hB
 clear hB
 have H := h
 clear h
 unfold jw.f at H
 obtain ⟨⟨jE, tg, th⟩, A2, H⟩ := eA H
 (try dsimp only at H)
 by_cases c3 : jE = 0
 · rw [if_pos c3] at H
   have jD : (jE == 0) = true := beq_iff_eq.mpr c3
   have ow : (jE != 0) = false := bne_eq_false_iff_eq.mpr c3
   clear c3
   obtain ⟨aq8, Py⟩ : ∃ y_ : List Int, y_ = (([1] : List Int)) := ⟨_, rfl⟩
   replace H : (some (aq8, tg, th)) = some (r1, r2, r3) := by subst Py; exact H
   have YE := aa.mk Py
   clear Py
   simp only [Option.some.injEq, Prod.mk.injEq] at H
   obtain ⟨rfl, rfl, rfl⟩ := H
   go_enter Tryz.func108, Tryz.ntmps108
   go_wp2_with (first | ((with_reducible refine gate_callee (f := 69) rfl ?_); refine dU (some 4) Tryz.func69 #[.pointer (some ⟨g, 0, none⟩), .int .i64 8] ?_; (with_reducible refine (bS.calls g cd eD eJ 8 jE tg th w0 _ ?ah ?aj A2.out).mono ?_); (case ah => exact ae.q_ bX); (case aj => exact gF HB (ae.ge bX.out)); rintro e w4 ⟨rfl, hi, hb, hk⟩; refine ⟨_, rfl, ?_⟩; replace HK := aa.mk (aq.trans (e9 HK) hk (.inl rfl)); replace HB := aa.mk (hb); replace bX := aa.mk (hi); (try clear hb); (try clear hk); (try clear hi)) | ((with_reducible refine gate_dst (N := 7) rfl ?_); refine Kd.iK (Kd.int .i64) _ 3 ?hg (N := 7) ?hd (xs := ([1] : List Int)) (inner := [.int .i64 1]) (ok := fun _ => True) (okp := fun _ => True) ?hr ?hp (fun _ hk => hk) trivial (Below.refl _ _) (Nat.le_refl _) (by simp) ?_; (case hd => rfl); (case hg => rfl); (case hr => first | (go_simp; done) | (go_simp; rfl)); (case hp => exact (bE.one (show Kd.M (Kd.int .i64) _ _ _ 1 [.int .i64 1] from rfl) (bE.none _ _))); intro azX w5 pX hb hg_ hnew_; clear hg_ hnew_; (first | rw [← YE.out] at pX | (simp only [Int.reduceToNat] at pX; rw [← YE.out] at pX)); have ah6 := aa.mk (Kd.aW pX (bs (w := w) (g := g) (row := none) (e9 HK))); replace HK := aa.mk (aq.trans (e9 HK) (aq.dK hb g none) (.inl rfl)); replace HB := aa.mk (b7 (gF HB (ae.ge bX.out)) hb); replace bX := aa.mk (ae.below (ae.q_ bX) hb); clear hb pX))
   go_ret
   exact ⟨_, ig, b9 ah6.out, ae.q_ bX, gF HB (ae.ge bX.out), e9 HK⟩
 rw [if_neg c3] at H
 have jD : (jE == 0) = false := beq_eq_false_iff_ne.mpr c3
 have ow : (jE != 0) = true := bne_iff_ne.mpr c3
 by_cases c7 : jE = 1
 · rw [if_pos c7] at H
   have oO : (jE == 1) = true := beq_iff_eq.mpr c7
   have xB : (jE != 1) = false := bne_eq_false_iff_eq.mpr c7
   clear c7
   obtain ⟨aq9, Pz⟩ : ∃ y_ : List Int, y_ = (([3, 5] : List Int)) := ⟨_, rfl⟩
   replace H : (some (aq9, tg, th)) = some (r1, r2, r3) := by subst Pz; exact H
   have YF := aa.mk Pz
   clear Pz
   simp only [Option.some.injEq, Prod.mk.injEq] at H
   obtain ⟨rfl, rfl, rfl⟩ := H
   go_enter Tryz.func108, Tryz.ntmps108
   go_wp2_with (first | ((with_reducible refine gate_callee (f := 69) rfl ?_); refine dU (some 4) Tryz.func69 #[.pointer (some ⟨g, 0, none⟩), .int .i64 8] ?_; (with_reducible refine (bS.calls g cd eD eJ 8 jE tg th w0 _ ?ah ?aj A2.out).mono ?_); (case ah => exact ae.q_ bX); (case aj => exact gF HB (ae.ge bX.out)); rintro e w8 ⟨rfl, hi, hb, hk⟩; refine ⟨_, rfl, ?_⟩; replace HK := aa.mk (aq.trans (e9 HK) hk (.inl rfl)); replace HB := aa.mk (hb); replace bX := aa.mk (hi); (try clear hb); (try clear hk); (try clear hi)) | ((with_reducible refine gate_dst (N := 10) rfl ?_); refine Kd.iK (Kd.int .i64) _ 3 ?hg (N := 10) ?hd (xs := ([3, 5] : List Int)) (inner := [.int .i64 3, .int .i64 5]) (ok := fun _ => True) (okp := fun _ => True) ?hr ?hp (fun _ hk => hk) trivial (Below.refl _ _) (Nat.le_refl _) (by simp) ?_; (case hd => rfl); (case hg => rfl); (case hr => first | (go_simp; done) | (go_simp; rfl)); (case hp => exact (bE.one (show Kd.M (Kd.int .i64) _ _ _ 3 [.int .i64 3] from rfl) (bE.one (show Kd.M (Kd.int .i64) _ _ _ 5 [.int .i64 5] from rfl) (bE.none _ _)))); intro azY w9 zv hb hg_ hnew_; clear hg_ hnew_; (first | rw [← YF.out] at zv | (simp only [Int.reduceToNat] at zv; rw [← YF.out] at zv)); have ah7 := aa.mk (Kd.aW zv (bs (w := w) (g := g) (row := none) (e9 HK))); replace HK := aa.mk (aq.trans (e9 HK) (aq.dK hb g none) (.inl rfl)); replace HB := aa.mk (b7 (gF HB (ae.ge bX.out)) hb); replace bX := aa.mk (ae.below (ae.q_ bX) hb); clear hb zv))
   go_ret
   exact ⟨_, ig, b9 ah7.out, ae.q_ bX, gF HB (ae.ge bX.out), e9 HK⟩
 rw [if_neg c7] at H
 have oO : (jE == 1) = false := beq_eq_false_iff_ne.mpr c7
 have xB : (jE != 1) = true := bne_iff_ne.mpr c7
 by_cases rL : jE = 2
 · rw [if_pos rL] at H
   have yW : (jE == 2) = true := beq_iff_eq.mpr rL
   have X7 : (jE != 2) = false := bne_eq_false_iff_eq.mpr rL
   clear rL
   obtain ⟨aq_, PB⟩ : ∃ y_ : List Int, y_ = (([4, 6, 9] : List Int)) := ⟨_, rfl⟩
   replace H : (some (aq_, tg, th)) = some (r1, r2, r3) := by subst PB; exact H
   have YG := aa.mk PB
   clear PB
   simp only [Option.some.injEq, Prod.mk.injEq] at H
   obtain ⟨rfl, rfl, rfl⟩ := H
   go_enter Tryz.func108, Tryz.ntmps108
   go_wp2_with (first | ((with_reducible refine gate_callee (f := 69) rfl ?_); refine dU (some 4) Tryz.func69 #[.pointer (some ⟨g, 0, none⟩), .int .i64 8] ?_; (with_reducible refine (bS.calls g cd eD eJ 8 jE tg th w0 _ ?ah ?aj A2.out).mono ?_); (case ah => exact ae.q_ bX); (case aj => exact gF HB (ae.ge bX.out)); rintro e w12 ⟨rfl, hi, hb, hk⟩; refine ⟨_, rfl, ?_⟩; replace HK := aa.mk (aq.trans (e9 HK) hk (.inl rfl)); replace HB := aa.mk (hb); replace bX := aa.mk (hi); (try clear hb); (try clear hk); (try clear hi)) | ((with_reducible refine gate_dst (N := 13) rfl ?_); refine Kd.iK (Kd.int .i64) _ 3 ?hg (N := 13) ?hd (xs := ([4, 6, 9] : List Int)) (inner := [.int .i64 4, .int .i64 6, .int .i64 9]) (ok := fun _ => True) (okp := fun _ => True) ?hr ?hp (fun _ hk => hk) trivial (Below.refl _ _) (Nat.le_refl _) (by simp) ?_; (case hd => rfl); (case hg => rfl); (case hr => first | (go_simp; done) | (go_simp; rfl)); (case hp => exact (bE.one (show Kd.M (Kd.int .i64) _ _ _ 4 [.int .i64 4] from rfl) (bE.one (show Kd.M (Kd.int .i64) _ _ _ 6 [.int .i64 6] from rfl) (bE.one (show Kd.M (Kd.int .i64) _ _ _ 9 [.int .i64 9] from rfl) (bE.none _ _))))); intro azZ Eb zw hb hg_ hnew_; clear hg_ hnew_; (first | rw [← YG.out] at zw | (simp only [Int.reduceToNat] at zw; rw [← YG.out] at zw)); have ah8 := aa.mk (Kd.aW zw (bs (w := w) (g := g) (row := none) (e9 HK))); replace HK := aa.mk (aq.trans (e9 HK) (aq.dK hb g none) (.inl rfl)); replace HB := aa.mk (b7 (gF HB (ae.ge bX.out)) hb); replace bX := aa.mk (ae.below (ae.q_ bX) hb); clear hb zw))
   go_ret
   exact ⟨_, ig, b9 ah8.out, ae.q_ bX, gF HB (ae.ge bX.out), e9 HK⟩
 rw [if_neg rL] at H
 have yW : (jE == 2) = false := beq_eq_false_iff_ne.mpr rL
 have X7 : (jE != 2) = true := bne_iff_ne.mpr rL
 by_cases AU : jE = 3
 · rw [if_pos AU] at H
   have rH : (jE == 3) = true := beq_iff_eq.mpr AU
   have Ob : (jE != 3) = false := bne_eq_false_iff_eq.mpr AU
   clear AU
   obtain ⟨ara, PC⟩ : ∃ y_ : List Int, y_ = (([3, 4, 5] : List Int)) := ⟨_, rfl⟩
   replace H : (some (ara, tg, th)) = some (r1, r2, r3) := by subst PC; exact H
   have YH := aa.mk PC
   clear PC
   simp only [Option.some.injEq, Prod.mk.injEq] at H
   obtain ⟨rfl, rfl, rfl⟩ := H
   go_enter Tryz.func108, Tryz.ntmps108
   go_wp2_with (first | ((with_reducible refine gate_callee (f := 69) rfl ?_); refine dU (some 4) Tryz.func69 #[.pointer (some ⟨g, 0, none⟩), .int .i64 8] ?_; (with_reducible refine (bS.calls g cd eD eJ 8 jE tg th w0 _ ?ah ?aj A2.out).mono ?_); (case ah => exact ae.q_ bX); (case aj => exact gF HB (ae.ge bX.out)); rintro e LX ⟨rfl, hi, hb, hk⟩; refine ⟨_, rfl, ?_⟩; replace HK := aa.mk (aq.trans (e9 HK) hk (.inl rfl)); replace HB := aa.mk (hb); replace bX := aa.mk (hi); (try clear hb); (try clear hk); (try clear hi)) | ((with_reducible refine gate_dst (N := 16) rfl ?_); refine Kd.iK (Kd.int .i64) _ 3 ?hg (N := 16) ?hd (xs := ([3, 4, 5] : List Int)) (inner := [.int .i64 3, .int .i64 4, .int .i64 5]) (ok := fun _ => True) (okp := fun _ => True) ?hr ?hp (fun _ hk => hk) trivial (Below.refl _ _) (Nat.le_refl _) (by simp) ?_; (case hd => rfl); (case hg => rfl); (case hr => first | (go_simp; done) | (go_simp; rfl)); (case hp => exact (bE.one (show Kd.M (Kd.int .i64) _ _ _ 3 [.int .i64 3] from rfl) (bE.one (show Kd.M (Kd.int .i64) _ _ _ 4 [.int .i64 4] from rfl) (bE.one (show Kd.M (Kd.int .i64) _ _ _ 5 [.int .i64 5] from rfl) (bE.none _ _))))); intro az0 LN PD hb hg_ hnew_; clear hg_ hnew_; (first | rw [← YH.out] at PD | (simp only [Int.reduceToNat] at PD; rw [← YH.out] at PD)); have ah9 := aa.mk (Kd.aW PD (bs (w := w) (g := g) (row := none) (e9 HK))); replace HK := aa.mk (aq.trans (e9 HK) (aq.dK hb g none) (.inl rfl)); replace HB := aa.mk (b7 (gF HB (ae.ge bX.out)) hb); replace bX := aa.mk (ae.below (ae.q_ bX) hb); clear hb PD))
   go_ret
   exact ⟨_, ig, b9 ah9.out, ae.q_ bX, gF HB (ae.ge bX.out), e9 HK⟩
 rw [if_neg AU] at H
 have rH : (jE == 3) = false := beq_eq_false_iff_ne.mpr AU
 have Ob : (jE != 3) = true := bne_iff_ne.mpr AU
 by_cases rE : jE = 4
 · rw [if_pos rE] at H
   have pY : (jE == 4) = true := beq_iff_eq.mpr rE
   have ah_ : (jE != 4) = false := bne_eq_false_iff_eq.mpr rE
   clear rE
   obtain ⟨arb, PE⟩ : ∃ y_ : List Int, y_ = (([6, 9, 20] : List Int)) := ⟨_, rfl⟩
   replace H : (some (arb, tg, th)) = some (r1, r2, r3) := by subst PE; exact H
   have YI := aa.mk PE
   clear PE
   simp only [Option.some.injEq, Prod.mk.injEq] at H
   obtain ⟨rfl, rfl, rfl⟩ := H
   go_enter Tryz.func108, Tryz.ntmps108
   go_wp2_with (first | ((with_reducible refine gate_callee (f := 69) rfl ?_); refine dU (some 4) Tryz.func69 #[.pointer (some ⟨g, 0, none⟩), .int .i64 8] ?_; (with_reducible refine (bS.calls g cd eD eJ 8 jE tg th w0 _ ?ah ?aj A2.out).mono ?_); (case ah => exact ae.q_ bX); (case aj => exact gF HB (ae.ge bX.out)); rintro e UB ⟨rfl, hi, hb, hk⟩; refine ⟨_, rfl, ?_⟩; replace HK := aa.mk (aq.trans (e9 HK) hk (.inl rfl)); replace HB := aa.mk (hb); replace bX := aa.mk (hi); (try clear hb); (try clear hk); (try clear hi)) | ((with_reducible refine gate_dst (N := 19) rfl ?_); refine Kd.iK (Kd.int .i64) _ 3 ?hg (N := 19) ?hd (xs := ([6, 9, 20] : List Int)) (inner := [.int .i64 6, .int .i64 9, .int .i64 20]) (ok := fun _ => True) (okp := fun _ => True) ?hr ?hp (fun _ hk => hk) trivial (Below.refl _ _) (Nat.le_refl _) (by simp) ?_; (case hd => rfl); (case hg => rfl); (case hr => first | (go_simp; done) | (go_simp; rfl)); (case hp => exact (bE.one (show Kd.M (Kd.int .i64) _ _ _ 6 [.int .i64 6] from rfl) (bE.one (show Kd.M (Kd.int .i64) _ _ _ 9 [.int .i64 9] from rfl) (bE.one (show Kd.M (Kd.int .i64) _ _ _ 20 [.int .i64 20] from rfl) (bE.none _ _))))); intro az1 TK PF hb hg_ hnew_; clear hg_ hnew_; (first | rw [← YI.out] at PF | (simp only [Int.reduceToNat] at PF; rw [← YI.out] at PF)); have aia := aa.mk (Kd.aW PF (bs (w := w) (g := g) (row := none) (e9 HK))); replace HK := aa.mk (aq.trans (e9 HK) (aq.dK hb g none) (.inl rfl)); replace HB := aa.mk (b7 (gF HB (ae.ge bX.out)) hb); replace bX := aa.mk (ae.below (ae.q_ bX) hb); clear hb PF))
   go_ret
   exact ⟨_, ig, b9 aia.out, ae.q_ bX, gF HB (ae.ge bX.out), e9 HK⟩
 rw [if_neg rE] at H
 have pY : (jE == 4) = false := beq_eq_false_iff_ne.mpr rE
 have ah_ : (jE != 4) = true := bne_iff_ne.mpr rE
 by_cases q9 : jE = 5
 · rw [if_pos q9] at H
   have ra : (jE == 5) = true := beq_iff_eq.mpr q9
   have aib : (jE != 5) = false := bne_eq_false_iff_eq.mpr q9
   clear q9
   obtain ⟨arc, PG⟩ : ∃ y_ : List Int, y_ = (([5, 7, 9, 11] : List Int)) := ⟨_, rfl⟩
   replace H : (some (arc, tg, th)) = some (r1, r2, r3) := by subst PG; exact H
   have YJ := aa.mk PG
   clear PG
   simp only [Option.some.injEq, Prod.mk.injEq] at H
   obtain ⟨rfl, rfl, rfl⟩ := H
   go_enter Tryz.func108, Tryz.ntmps108
   go_wp2_with (first | ((with_reducible refine gate_callee (f := 69) rfl ?_); refine dU (some 4) Tryz.func69 #[.pointer (some ⟨g, 0, none⟩), .int .i64 8] ?_; (with_reducible refine (bS.calls g cd eD eJ 8 jE tg th w0 _ ?ah ?aj A2.out).mono ?_); (case ah => exact ae.q_ bX); (case aj => exact gF HB (ae.ge bX.out)); rintro e Ek ⟨rfl, hi, hb, hk⟩; refine ⟨_, rfl, ?_⟩; replace HK := aa.mk (aq.trans (e9 HK) hk (.inl rfl)); replace HB := aa.mk (hb); replace bX := aa.mk (hi); (try clear hb); (try clear hk); (try clear hi)) | ((with_reducible refine gate_dst (N := 22) rfl ?_); refine Kd.iK (Kd.int .i64) _ 3 ?hg (N := 22) ?hd (xs := ([5, 7, 9, 11] : List Int)) (inner := [.int .i64 5, .int .i64 7, .int .i64 9, .int .i64 11]) (ok := fun _ => True) (okp := fun _ => True) ?hr ?hp (fun _ hk => hk) trivial (Below.refl _ _) (Nat.le_refl _) (by simp) ?_; (case hd => rfl); (case hg => rfl); (case hr => first | (go_simp; done) | (go_simp; rfl)); (case hp => exact (bE.one (show Kd.M (Kd.int .i64) _ _ _ 5 [.int .i64 5] from rfl) (bE.one (show Kd.M (Kd.int .i64) _ _ _ 7 [.int .i64 7] from rfl) (bE.one (show Kd.M (Kd.int .i64) _ _ _ 9 [.int .i64 9] from rfl) (bE.one (show Kd.M (Kd.int .i64) _ _ _ 11 [.int .i64 11] from rfl) (bE.none _ _)))))); intro az2 TN xE hb hg_ hnew_; clear hg_ hnew_; (first | rw [← YJ.out] at xE | (simp only [Int.reduceToNat] at xE; rw [← YJ.out] at xE)); have aic := aa.mk (Kd.aW xE (bs (w := w) (g := g) (row := none) (e9 HK))); replace HK := aa.mk (aq.trans (e9 HK) (aq.dK hb g none) (.inl rfl)); replace HB := aa.mk (b7 (gF HB (ae.ge bX.out)) hb); replace bX := aa.mk (ae.below (ae.q_ bX) hb); clear hb xE))
   go_ret
   exact ⟨_, ig, b9 aic.out, ae.q_ bX, gF HB (ae.ge bX.out), e9 HK⟩
 rw [if_neg q9] at H
 have ra : (jE == 5) = false := beq_eq_false_iff_ne.mpr q9
 have aib : (jE != 5) = true := bne_iff_ne.mpr q9
 by_cases tQ : jE = 6
 rotate_left
 · rw [if_neg tQ] at H
   have BB : (jE == 6) = false := beq_eq_false_iff_ne.mpr tQ
   have YK : (jE != 6) = true := bne_iff_ne.mpr tQ
   obtain ⟨ard, PH⟩ : ∃ y_ : List Int, y_ = (([4, 5, 11] : List Int)) := ⟨_, rfl⟩
   replace H : (some (ard, tg, th)) = some (r1, r2, r3) := by subst PH; exact H
   have YL := aa.mk PH
   clear PH
   simp only [Option.some.injEq, Prod.mk.injEq] at H
   obtain ⟨rfl, rfl, rfl⟩ := H
   go_enter Tryz.func108, Tryz.ntmps108
   go_wp2_with (first | ((with_reducible refine gate_callee (f := 69) rfl ?_); refine dU (some 4) Tryz.func69 #[.pointer (some ⟨g, 0, none⟩), .int .i64 8] ?_; (with_reducible refine (bS.calls g cd eD eJ 8 jE tg th w0 _ ?ah ?aj A2.out).mono ?_); (case ah => exact ae.q_ bX); (case aj => exact gF HB (ae.ge bX.out)); rintro e TP ⟨rfl, hi, hb, hk⟩; refine ⟨_, rfl, ?_⟩; replace HK := aa.mk (aq.trans (e9 HK) hk (.inl rfl)); replace HB := aa.mk (hb); replace bX := aa.mk (hi); (try clear hb); (try clear hk); (try clear hi)) | ((with_reducible refine gate_dst (N := 26) rfl ?_); refine Kd.iK (Kd.int .i64) _ 3 ?hg (N := 26) ?hd (xs := ([4, 5, 11] : List Int)) (inner := [.int .i64 4, .int .i64 5, .int .i64 11]) (ok := fun _ => True) (okp := fun _ => True) ?hr ?hp (fun _ hk => hk) trivial (Below.refl _ _) (Nat.le_refl _) (by simp) ?_; (case hd => rfl); (case hg => rfl); (case hr => first | (go_simp; done) | (go_simp; rfl)); (case hp => exact (bE.one (show Kd.M (Kd.int .i64) _ _ _ 4 [.int .i64 4] from rfl) (bE.one (show Kd.M (Kd.int .i64) _ _ _ 5 [.int .i64 5] from rfl) (bE.one (show Kd.M (Kd.int .i64) _ _ _ 11 [.int .i64 11] from rfl) (bE.none _ _))))); intro az3 w32 PI hb hg_ hnew_; clear hg_ hnew_; (first | rw [← YL.out] at PI | (simp only [Int.reduceToNat] at PI; rw [← YL.out] at PI)); have aid := aa.mk (Kd.aW PI (bs (w := w) (g := g) (row := none) (e9 HK))); replace HK := aa.mk (aq.trans (e9 HK) (aq.dK hb g none) (.inl rfl)); replace HB := aa.mk (b7 (gF HB (ae.ge bX.out)) hb); replace bX := aa.mk (ae.below (ae.q_ bX) hb); clear hb PI))
   go_ret
   exact ⟨_, ig, b9 aid.out, ae.q_ bX, gF HB (ae.ge bX.out), e9 HK⟩
 rw [if_pos tQ] at H
 have BB : (jE == 6) = true := beq_iff_eq.mpr tQ
 have YK : (jE != 6) = false := bne_eq_false_iff_eq.mpr tQ
 clear tQ
 obtain ⟨are, PJ⟩ : ∃ y_ : List Int, y_ = (([2, 3] : List Int)) := ⟨_, rfl⟩
 replace H : (some (are, tg, th)) = some (r1, r2, r3) := by subst PJ; exact H
 have YM := aa.mk PJ
 clear PJ
 simp only [Option.some.injEq, Prod.mk.injEq] at H
 obtain ⟨rfl, rfl, rfl⟩ := H
 go_enter Tryz.func108, Tryz.ntmps108
 go_wp2_with (first | ((with_reducible refine gate_callee (f := 69) rfl ?_); refine dU (some 4) Tryz.func69 #[.pointer (some ⟨g, 0, none⟩), .int .i64 8] ?_; (with_reducible refine (bS.calls g cd eD eJ 8 jE tg th w0 _ ?ah ?aj A2.out).mono ?_); (case ah => exact ae.q_ bX); (case aj => exact gF HB (ae.ge bX.out)); rintro e Pe ⟨rfl, hi, hb, hk⟩; refine ⟨_, rfl, ?_⟩; replace HK := aa.mk (aq.trans (e9 HK) hk (.inl rfl)); replace HB := aa.mk (hb); replace bX := aa.mk (hi); (try clear hb); (try clear hk); (try clear hi)) | ((with_reducible refine gate_dst (N := 25) rfl ?_); refine Kd.iK (Kd.int .i64) _ 3 ?hg (N := 25) ?hd (xs := ([2, 3] : List Int)) (inner := [.int .i64 2, .int .i64 3]) (ok := fun _ => True) (okp := fun _ => True) ?hr ?hp (fun _ hk => hk) trivial (Below.refl _ _) (Nat.le_refl _) (by simp) ?_; (case hd => rfl); (case hg => rfl); (case hr => first | (go_simp; done) | (go_simp; rfl)); (case hp => exact (bE.one (show Kd.M (Kd.int .i64) _ _ _ 2 [.int .i64 2] from rfl) (bE.one (show Kd.M (Kd.int .i64) _ _ _ 3 [.int .i64 3] from rfl) (bE.none _ _)))); intro az4 w29 zx hb hg_ hnew_; clear hg_ hnew_; (first | rw [← YM.out] at zx | (simp only [Int.reduceToNat] at zx; rw [← YM.out] at zx)); have aie := aa.mk (Kd.aW zx (bs (w := w) (g := g) (row := none) (e9 HK))); replace HK := aa.mk (aq.trans (e9 HK) (aq.dK hb g none) (.inl rfl)); replace HB := aa.mk (b7 (gF HB (ae.ge bX.out)) hb); replace bX := aa.mk (ae.below (ae.q_ bX) hb); clear hb zx))
 go_ret
 exact ⟨_, ig, b9 aie.out, ae.q_ bX, gF HB (ae.ge bX.out), e9 HK⟩
mutual
def bG.l0 : Nat → Int → List Int → Int → Int → Option (List Int × Int × Int)
 | 0, _, _, _, _ => none
 | k + 1, x5, oC, uF, uG => if x5 < 4 then ((bS.f oC uF uG 8).bind fun PK => ((bS.f oC PK.2.1 PK.2.2 4).bind fun zy => (bG.l1 k x5 (([wrap64 (2 + PK.1)] : List Int)) (wrap64 (1 + zy.1)) 0 oC zy.2.1 zy.2.2))) else ((jw.f oC uF uG).bind fun PL => ((bj.f k PL.1).bind fun aif => (some (aif.1, PL.2.1, PL.2.2))))
def bG.l1 : Nat → Int → List Int → Int → Int → List Int → Int → Int → Option (List Int × Int × Int)
 | 0, _, _, _, _, _, _, _ => none
 | k + 1, x5, x6, x7, x8, oC, uF, uG => if x8 < x7 then (if 0 < (x6.length : Int) then ((bS.f oC uF uG 12).bind fun PM => (if x6.length < 17592186044416 then (bG.l1 k x5 (x6 ++ [wrap64 ((wrap64 ((rd x6 0) + 1)) + PM.1)]) x7 (wrap64 (x8 + 1)) oC PM.2.1 PM.2.2) else (none))) else (none)) else ((bj.f k x6).bind fun YN => (if YN.2 = true then (some (YN.1, uF, uG)) else (bG.l0 k (wrap64 (x5 + 1)) oC uF uG)))
end
def bG.f (k : Nat) (cd : List Int) (eD : Int) (eJ : Int) : Option (List Int × Int × Int) := (gq.f cd eD eJ 4).bind fun EJ => (if EJ.1 = true then ((jw.f cd EJ.2.1 EJ.2.2).bind fun PN => ((bj.f k PN.1).bind fun aih => (some (aih.1, PN.2.1, PN.2.2)))) else (bG.l0 k 0 cd EJ.2.1 EJ.2.2))
def bG.T12 : Bool × List (List Nat × List Nat) := (true, [([], []), ([], []), ([1], [1]), ([2], [2]), ([3], [3]), ([], []), ([5], [5]), ([4, 6], [4, 6]), ([7], [7]), ([0, 8, 6], [0, 8]), ([9, 9, 0, 1, 2, 3, 4, 5, 6, 7, 8, 9], [0, 1, 9])])
def bG.B12 : List Nat := [0, 0, 2, 6, 14, 0, 32, 126, 254, 511, 1023]
theorem bG.aii : gX .any (opsOf Tryz.f74 12) = bG.T12 := by kernel_rfl
theorem bG.aco : gm bG.T12.2 bG.B12 = true := by kernel_rfl
theorem bG.calls (k : Nat) (g : Nat) (cd : List Int) (eD : Int) (eJ : Int) (r1 : List Int) (r2 : Int) (r3 : Int) (w0 w : World) (hI : ae w0 w g cd eD eJ) (hB : Below w0.heap.size w0 w) (h : bG.f k cd eD eJ = some (r1, r2, r3)) :
 Calls Tryz.prog 74 #[.pointer (some ⟨g, 0, none⟩)] w fun e w' => ∃ jf : Value, e = .returned (.agg #[jf]) ∧ Kd.R (Kd.int .i64) 3 w' w.heap.size (fun _ => True) jf r1 ∧ ae w0 w' g cd r2 r3 ∧ Below w0.heap.size w0 w' ∧ aq w w' g none := by
 have kJ := Tryz.underlying26
 have bX := aa.mk hI
 have HK := aa.mk (aq.refl w g none)
 have HL := aa.mk hB.size
 clear hI
 have wR := aa.mk hB.size
 have HB := aa.mk hB
 clear hB
 have H := h
 clear h
 unfold bG.f at H
 obtain ⟨⟨arf, UR, US⟩, A2, H⟩ := eA H
 (try dsimp only at H)
 by_cases c3 : arf = true
 · subst c3
   rw [if_pos rfl] at H
   obtain ⟨⟨acp, acq, acr⟩, A4, H⟩ := eA H
   (try dsimp only at H)
   obtain ⟨⟨UT, arh⟩, A5, H⟩ := eA H
   (try dsimp only at H)
   simp only [Option.some.injEq, Prod.mk.injEq] at H
   obtain ⟨rfl, rfl, rfl⟩ := H
   go_enter Tryz.func74, Tryz.ntmps74
   go_wp2_with (first | ((with_reducible refine gate_dst (N := 2) rfl ?_); refine iP 2 #[.slice none 0 0] 26 ?_; intro jW hg w6 hbox hb; replace HB := aa.mk (b7 (gF HB (ae.ge bX.out)) hb); have ek := aa.mk (hbox); have aij := aa.mk ((by rw [hg]; exact (bs (w := w) (g := g) (row := none) (e9 HK)) : w.heap.size ≤ jW)); have aik := aa.mk ((Nat.le_trans wR.out (by rw [hg]; exact (bs (w := w) (g := g) (row := none) (e9 HK)) : w.heap.size ≤ jW) : w0.heap.size ≤ jW)); replace HK := aa.mk (aq.trans (e9 HK) (aq.dK hb g none) (.inl rfl)); have xZ := aa.mk ((by rw [hg]; exact Nat.ne_of_lt (ae.lt (show ae w0 _ g cd eD eJ from ae.q_ bX)) : g ≠ jW)); have l5 := aa.mk ((by rw [hg]; exact Nat.ne_of_gt (ae.lt (show ae w0 _ g cd eD eJ from ae.q_ bX)) : jW ≠ g)); replace bX := aa.mk (ae.below (ae.q_ bX) hb); clear hb hbox hg) | ((with_reducible refine gate_callee (f := 50) rfl ?_); refine dU (some 14) Tryz.func50 #[.pointer (some ⟨g, 0, none⟩), .int .i64 4] ?_; (with_reducible refine (gq.calls g cd eD eJ 4 true UR US w0 _ ?ah ?aj A2.out).mono ?_); (case ah => exact ae.q_ bX); (case aj => exact gF HB (ae.ge bX.out)); rintro e w7 ⟨rfl, hi, hb, hk⟩; refine ⟨_, rfl, ?_⟩; replace ek := aa.mk (aq.pS hk (g' := jW) (o := .cells #[.slice none 0 0] 26 (0, 0)) (cC ek.out) l5.out (by simp)); replace HK := aa.mk (aq.trans (e9 HK) hk (.inl rfl)); replace HB := aa.mk (hb); replace bX := aa.mk (hi); (try clear hb); (try clear hk); (try clear hi)) | ((with_reducible refine gate_callee (f := 108) rfl ?_); refine dU (some 17) Tryz.func108 #[.pointer (some ⟨g, 0, none⟩)] ?_; (with_reducible refine (jw.calls g cd UR US acp acq acr w0 _ ?ah ?aj A4.out).mono ?_); (case ah => exact ae.q_ bX); (case aj => exact gF HB (ae.ge bX.out)); rintro e w8 ⟨az6, rfl, b0, hi, hb, hk⟩; refine ⟨_, rfl, ?_⟩; replace ek := aa.mk (aq.pS hk (g' := jW) (o := .cells #[.slice none 0 0] 26 (0, 0)) (cC ek.out) l5.out (by simp)); have wS := aa.mk (Kd.aW b0 (bs (w := w) (g := g) (row := none) (e9 HK))); replace HK := aa.mk (aq.trans (e9 HK) hk (.inl rfl)); replace HB := aa.mk (hb); replace bX := aa.mk (hi); (try clear hb); (try clear hk); (try clear hi); (try clear b0); obtain ⟨pI, o3, NR⟩ := Kd.aN wS.out; subst NR) | ((with_reducible refine gate_callee (f := 58) rfl ?_); refine dU (some 18) Tryz.func58 #[.slice pI acp.length o3] ?_; (with_reducible refine (bj.calls k _ _ acp UT arh _ ?ah ?aj A5.out).mono ?_); (case ah => exact kx ((Kd.ao wS.out).2.2)); (case aj => exact (Kd.ao wS.out).2.1); rintro e Ju ⟨az7, rfl, b0, hb⟩; refine ⟨_, rfl, ?_⟩; have JO := aa.mk (Kd.aW (Kd.eV b0 (Kd.gy (b9 wS.out))) (bs (w := w) (g := g) (row := none) (e9 HK))); replace wS := aa.mk (Kd.dZ (b9 wS.out) (Kd.cV b0) hb); replace ek := cn ek hb; replace HK := aa.mk (aq.trans (e9 HK) (aq.dK hb g none) (.inl rfl)); replace HB := aa.mk (b7 (gF HB (ae.ge bX.out)) hb); replace bX := aa.mk (ae.below (ae.q_ bX) hb); (try clear hb); (try clear b0)) | ((with_reducible refine gate_dst (N := 3) rfl ?_); refine iP 3 #[.slice none 0 0] 26 ?_; intro BC hg Bn hbox hb; replace wS := aa.mk (Kd.aY (b9 wS.out) hb); replace JO := aa.mk (Kd.aY (b9 JO.out) hb); replace HB := aa.mk (b7 (gF HB (ae.ge bX.out)) hb); have PO := aa.mk (hbox); have avJ := aa.mk ((by rw [hg]; exact (bs (w := w) (g := g) (row := none) (e9 HK)) : w.heap.size ≤ BC)); have avK := aa.mk ((Nat.le_trans wR.out (by rw [hg]; exact (bs (w := w) (g := g) (row := none) (e9 HK)) : w.heap.size ≤ BC) : w0.heap.size ≤ BC)); replace HK := aa.mk (aq.trans (e9 HK) (aq.dK hb g none) (.inl rfl)); have L6 := mw hg ek; have L7 := my hg ek; replace ek := cn ek hb; have UU := aa.mk ((by rw [hg]; exact Nat.ne_of_lt (ae.lt (show ae w0 _ g cd acq acr from ae.q_ bX)) : g ≠ BC)); have UW := aa.mk ((by rw [hg]; exact Nat.ne_of_gt (ae.lt (show ae w0 _ g cd acq acr from ae.q_ bX)) : BC ≠ g)); replace bX := aa.mk (ae.below (ae.q_ bX) hb); clear hb hbox hg; obtain ⟨Er, uv, Oo⟩ := Kd.aN JO.out; subst Oo; have YO := L7.out; have YP := L6.out; have avL := UW.out; have avM := UU.out; have JM := fG PO; have JN := af PO.out 0; have avN := l5.out; have avO := xZ.out; have an8 := fG ek; have an9 := af ek.out 0))
   refine bodyPost_ret (results_cell_row rfl _ _ jW 26 #[.slice Er UT.length uv] (0, 0) _ rfl (mz ek) Tryz.underlying26 rfl (by kernel_rfl)) rfl ?_
   exact ⟨_, ig, by (with_reducible repeat (first | apply Kd.bQ | apply Kd.bT | apply Kd.bR)); exact Kd.bB (Kd.iJ (p := ⟨jW, 0, none⟩) (Kd.iJ (p := ⟨BC, 0, none⟩) (Kd.cI (Kd.cI JO.out PO.out (by decide)) ek.out (by decide)) (fun _ hk => hk.1.2) (.slice Er UT.length uv)) (fun _ hk => hk.2) (.slice Er UT.length uv)) (fun _ hk => trivial), ae.q_ bX, gF HB (ae.ge bX.out), e9 HK⟩
 replace c3 := Bool.eq_false_iff.mpr c3
 subst c3
 rw [if_neg (show ¬ (false = true) by decide)] at H
 have H' := aa.mk H
 clear H
 go_enter Tryz.func74, Tryz.ntmps74
 go_wp2_with (first | ((with_reducible refine gate_dst (N := 2) rfl ?_); refine iP 2 #[.slice none 0 0] 26 ?_; intro jW hg Ut hbox hb; replace HB := aa.mk (b7 (gF HB (ae.ge bX.out)) hb); have ek := aa.mk (hbox); have aij := aa.mk ((by rw [hg]; exact (bs (w := w) (g := g) (row := none) (e9 HK)) : w.heap.size ≤ jW)); have aik := aa.mk ((Nat.le_trans wR.out (by rw [hg]; exact (bs (w := w) (g := g) (row := none) (e9 HK)) : w.heap.size ≤ jW) : w0.heap.size ≤ jW)); replace HK := aa.mk (aq.trans (e9 HK) (aq.dK hb g none) (.inl rfl)); have xZ := aa.mk ((by rw [hg]; exact Nat.ne_of_lt (ae.lt (show ae w0 _ g cd eD eJ from ae.q_ bX)) : g ≠ jW)); have l5 := aa.mk ((by rw [hg]; exact Nat.ne_of_gt (ae.lt (show ae w0 _ g cd eD eJ from ae.q_ bX)) : jW ≠ g)); replace bX := aa.mk (ae.below (ae.q_ bX) hb); clear hb hbox hg) | ((with_reducible refine gate_callee (f := 50) rfl ?_); refine dU (some 14) Tryz.func50 #[.pointer (some ⟨g, 0, none⟩), .int .i64 4] ?_; (with_reducible refine (gq.calls g cd eD eJ 4 false UR US w0 _ ?ah ?aj A2.out).mono ?_); (case ah => exact ae.q_ bX); (case aj => exact gF HB (ae.ge bX.out)); rintro e TJ ⟨rfl, hi, hb, hk⟩; refine ⟨_, rfl, ?_⟩; replace ek := aa.mk (aq.pS hk (g' := jW) (o := .cells #[.slice none 0 0] 26 (0, 0)) (cC ek.out) l5.out (by simp)); replace HK := aa.mk (aq.trans (e9 HK) hk (.inl rfl)); replace HB := aa.mk (hb); replace bX := aa.mk (hi); (try clear hb); (try clear hk); (try clear hi)))
 go_loopg [5] k (fun kq v5 w' => ∃ (aJ : Int) (ka : Int) (kb : Int), v5 = .int .i64 aJ ∧ aa (bG.l0 kq aJ cd ka kb = some (r1, r2, r3)) ∧ aa (kq ≤ k) ∧ aa (w'.heap[jW]? = some (.cells #[(.slice none 0 0)] 26 (0, 0))) ∧ aa (ae w0 w' g cd ka kb) ∧ aa (aq w w' g none) ∧ aa (Below w0.heap.size w0 w'))
 case atStart => exact ⟨(0), (UR), (US), eF, H', ⟨Nat.le_refl _⟩, ⟨cC ek.out⟩, ⟨ae.q_ bX⟩, ⟨e9 HK⟩, ⟨gF HB (ae.ge bX.out)⟩⟩
 case round =>
  clear H'
  obtain ⟨aJ, ka, kb, rfl, HA, fu, ek, bX, HK, HB⟩ := hrel
  cases gk with
  | zero => exact absurd HA.out (by simp [bG.l0])
  | succ k1 =>
   have H := HA.out
   clear HA
   simp only [bG.l0] at H
   by_cases AI : aJ < 4
   rotate_left
   · rw [if_neg AI] at H
     have tr : decide (aJ < 4) = false := decide_eq_false AI
     clear AI
     obtain ⟨⟨acs, acu, acv⟩, A53, H⟩ := eA H
     (try dsimp only at H)
     obtain ⟨⟨UX, ari⟩, A54, H⟩ := eA H
     (try dsimp only at H)
     simp only [Option.some.injEq, Prod.mk.injEq] at H
     obtain ⟨rfl, rfl, rfl⟩ := H
     go_wp2_with (first | ((with_reducible refine gate_callee (f := 108) rfl ?_); refine dU (some 57) Tryz.func108 #[.pointer (some ⟨g, 0, none⟩)] ?_; (with_reducible refine (jw.calls g cd ka kb acs acu acv w0 _ ?ah ?aj A53.out).mono ?_); (case ah => exact ae.q_ bX); (case aj => exact gF HB (ae.ge bX.out)); rintro e w55 ⟨az_, rfl, b0, hi, hb, hk⟩; refine ⟨_, rfl, ?_⟩; replace ek := aa.mk (aq.pS hk (g' := jW) (o := .cells #[.slice none 0 0] 26 (0, 0)) (cC ek.out) l5.out (by simp)); have wT := aa.mk (Kd.aW b0 (bs (w := w) (g := g) (row := none) (e9 HK))); replace HK := aa.mk (aq.trans (e9 HK) hk (.inl rfl)); replace HB := aa.mk (hb); replace bX := aa.mk (hi); (try clear hb); (try clear hk); (try clear hi); (try clear b0); obtain ⟨PQ, PR, acw⟩ := Kd.aN wT.out; subst acw) | ((with_reducible refine gate_callee (f := 58) rfl ?_); refine dU (some 58) Tryz.func58 #[.slice PQ acs.length PR] ?_; (with_reducible refine (bj.calls k1 _ _ acs UX ari _ ?ah ?aj A54.out).mono ?_); (case ah => exact kx ((Kd.ao wT.out).2.2)); (case aj => exact (Kd.ao wT.out).2.1); rintro e w57 ⟨aAb, rfl, b0, hb⟩; refine ⟨_, rfl, ?_⟩; have JP := aa.mk (Kd.aW (Kd.eV b0 (Kd.gy (b9 wT.out))) (bs (w := w) (g := g) (row := none) (e9 HK))); replace wT := aa.mk (Kd.dZ (b9 wT.out) (Kd.cV b0) hb); replace ek := cn ek hb; replace HK := aa.mk (aq.trans (e9 HK) (aq.dK hb g none) (.inl rfl)); replace HB := aa.mk (b7 (gF HB (ae.ge bX.out)) hb); replace bX := aa.mk (ae.below (ae.q_ bX) hb); (try clear hb); (try clear b0)) | ((with_reducible refine gate_dst (N := 11) rfl ?_); refine iP 11 #[.slice none 0 0] 26 ?_; intro BD hg w58 hbox hb; replace wT := aa.mk (Kd.aY (b9 wT.out) hb); replace JP := aa.mk (Kd.aY (b9 JP.out) hb); replace HB := aa.mk (b7 (gF HB (ae.ge bX.out)) hb); have PS := aa.mk (hbox); have avP := aa.mk ((by rw [hg]; exact (bs (w := w) (g := g) (row := none) (e9 HK)) : w.heap.size ≤ BD)); have avQ := aa.mk ((Nat.le_trans wR.out (by rw [hg]; exact (bs (w := w) (g := g) (row := none) (e9 HK)) : w.heap.size ≤ BD) : w0.heap.size ≤ BD)); replace HK := aa.mk (aq.trans (e9 HK) (aq.dK hb g none) (.inl rfl)); have L9 := mw hg ek; have L_ := my hg ek; replace ek := cn ek hb; have UY := aa.mk ((by rw [hg]; exact Nat.ne_of_lt (ae.lt (show ae w0 _ g cd acu acv from ae.q_ bX)) : g ≠ BD)); have UZ := aa.mk ((by rw [hg]; exact Nat.ne_of_gt (ae.lt (show ae w0 _ g cd acu acv from ae.q_ bX)) : BD ≠ g)); replace bX := aa.mk (ae.below (ae.q_ bX) hb); clear hb hbox hg; obtain ⟨acx, acy, ark⟩ := Kd.aN JP.out; subst ark; have avR := L_.out; have avS := L9.out; have avT := UZ.out; have avU := UY.out; have an_ := fG PS; have aoa := af PS.out 0; have ail := l5.out; have aim := xZ.out; have U0 := fG ek; have U1 := af ek.out 0))
     refine bodyPost_ret (results_cell_row rfl _ _ jW 26 #[.slice acx UX.length acy] (0, 0) _ rfl (mz ek) Tryz.underlying26 rfl (by kernel_rfl)) rfl ?_
     exact ⟨_, ig, by (with_reducible repeat (first | apply Kd.bQ | apply Kd.bT | apply Kd.bR)); exact Kd.bB (Kd.iJ (p := ⟨jW, 0, none⟩) (Kd.iJ (p := ⟨BD, 0, none⟩) (Kd.cI (Kd.cI JP.out PS.out (by decide)) ek.out (by decide)) (fun _ hk => hk.1.2) (.slice acx UX.length acy)) (fun _ hk => hk.2) (.slice acx UX.length acy)) (fun _ hk => trivial), ae.q_ bX, gF HB (ae.ge bX.out), e9 HK⟩
   rw [if_pos AI] at H
   have tr : decide (aJ < 4) = true := decide_eq_true AI
   clear AI
   obtain ⟨⟨Ma, U2, U3⟩, A21, H⟩ := eA H
   (try dsimp only at H)
   obtain ⟨ain, PT⟩ : ∃ y_ : List Int, y_ = (([wrap64 (2 + Ma)] : List Int)) := ⟨_, rfl⟩
   replace H : ((bS.f cd U2 U3 4).bind fun zy => (bG.l1 k1 aJ ain (wrap64 (1 + zy.1)) 0 cd zy.2.1 zy.2.2)) = some (r1, r2, r3) := by subst PT; exact H
   have YQ := aa.mk PT
   clear PT
   obtain ⟨⟨Mb, aio, aip⟩, TQ, H⟩ := eA H
   (try dsimp only at H)
   have H' := aa.mk H
   clear H
   go_wp2_with (first | ((with_reducible refine gate_callee (f := 69) rfl ?_); refine dU (some 27) Tryz.func69 #[.pointer (some ⟨g, 0, none⟩), .int .i64 8] ?_; (with_reducible refine (bS.calls g cd ka kb 8 Ma U2 U3 w0 _ ?ah ?aj A21.out).mono ?_); (case ah => exact ae.q_ bX); (case aj => exact gF HB (ae.ge bX.out)); rintro e xV ⟨rfl, hi, hb, hk⟩; refine ⟨_, rfl, ?_⟩; replace ek := aa.mk (aq.pS hk (g' := jW) (o := .cells #[.slice none 0 0] 26 (0, 0)) (cC ek.out) l5.out (by simp)); replace HK := aa.mk (aq.trans (e9 HK) hk (.inl rfl)); replace HB := aa.mk (hb); replace bX := aa.mk (hi); (try clear hb); (try clear hk); (try clear hi)) | ((with_reducible refine gate_dst (N := 29) rfl ?_); refine Kd.iK (Kd.int .i64) _ 3 ?hg (N := 29) ?hd (xs := ([wrap64 (2 + Ma)] : List Int)) (inner := [.int .i64 (wrap64 (2 + Ma))]) (ok := fun _ => True) (okp := fun _ => True) ?hr ?hp (fun _ hk => hk) trivial (Below.refl _ _) (Nat.le_refl _) (by simp) ?_; (case hd => rfl); (case hg => rfl); (case hr => first | (go_simp; done) | (go_simp; rfl)); (case hp => exact (bE.one (show Kd.M (Kd.int .i64) _ _ _ (wrap64 (2 + Ma)) [.int .i64 (wrap64 (2 + Ma))] from rfl) (bE.none _ _))); intro aAd Ek xF hb hg_ hnew_; clear hg_ hnew_; (first | rw [← YQ.out] at xF | (simp only [Int.reduceToNat] at xF; rw [← YQ.out] at xF)); have PU := aa.mk (Kd.aW xF (bs (w := w) (g := g) (row := none) (e9 HK))); replace ek := cn ek hb; replace HK := aa.mk (aq.trans (e9 HK) (aq.dK hb g none) (.inl rfl)); replace HB := aa.mk (b7 (gF HB (ae.ge bX.out)) hb); replace bX := aa.mk (ae.below (ae.q_ bX) hb); clear hb xF) | ((with_reducible refine gate_callee (f := 69) rfl ?_); refine dU (some 31) Tryz.func69 #[.pointer (some ⟨g, 0, none⟩), .int .i64 4] ?_; (with_reducible refine (bS.calls g cd U2 U3 4 Mb aio aip w0 _ ?ah ?aj TQ.out).mono ?_); (case ah => exact ae.q_ bX); (case aj => exact gF HB (ae.ge bX.out)); rintro e Eo ⟨rfl, hi, hb, hk⟩; refine ⟨_, rfl, ?_⟩; replace ek := aa.mk (aq.pS hk (g' := jW) (o := .cells #[.slice none 0 0] 26 (0, 0)) (cC ek.out) l5.out (by simp)); replace PU := aa.mk (Kd.bB (Kd.lI (ae.apart (show ae w0 _ g cd U2 U3 from ae.q_ bX) (b9 PU.out) (by decide)) hk (fun _ h => h.2)) (fun _ h => h.1)); replace HK := aa.mk (aq.trans (e9 HK) hk (.inl rfl)); replace HB := aa.mk (hb); replace bX := aa.mk (hi); (try clear hb); (try clear hk); (try clear hi)))
   go_loopg [6, 8] k1 (fun kq v6 v8 w' => ∃ (fT : List Int) (nB : Int) (mZ : Int) (m_ : Int), v8 = .int .i64 nB ∧ aa (bG.l1 kq aJ fT (wrap64 (1 + Mb)) nB cd mZ m_ = some (r1, r2, r3)) ∧ aa (kq ≤ k1) ∧ aa (Kd.R (Kd.int .i64) 3 w' w.heap.size (fun _ => True) v6 fT) ∧ aa (w'.heap[jW]? = some (.cells #[(.slice none 0 0)] 26 (0, 0))) ∧ aa (ae w0 w' g cd mZ m_) ∧ aa (aq w w' g none) ∧ aa (Below w0.heap.size w0 w'))
   case atStart => exact ⟨(ain), (0), (aio), (aip), eF, H', ⟨Nat.le_refl _⟩, ⟨b9 PU.out⟩, ⟨cC ek.out⟩, ⟨ae.q_ bX⟩, ⟨e9 HK⟩, ⟨gF HB (ae.ge bX.out)⟩⟩
   case round =>
    clear H'
    try clear tr
    obtain ⟨fT, nB, mZ, m_, rfl, HA, jo, dh, ek, bX, HK, HB⟩ := hrel
    cases gk with
    | zero => exact absurd HA.out (by simp [bG.l1])
    | succ k2 =>
     have H := HA.out
     clear HA
     simp only [bG.l1] at H
     by_cases tQ : nB < (wrap64 (1 + Mb))
     rotate_left
     · rw [if_neg tQ] at H
       have BB : decide (nB < (wrap64 (1 + Mb))) = false := decide_eq_false tQ
       clear tQ
       obtain ⟨⟨PV, arl⟩, A35, H⟩ := eA H
       (try dsimp only at H)
       by_cases c36 : arl = true
       · subst c36
         rw [if_pos rfl] at H
         simp only [Option.some.injEq, Prod.mk.injEq] at H
         obtain ⟨rfl, rfl, rfl⟩ := H
         obtain ⟨arn, aro, arp⟩ := Kd.aN dh.out
         subst arp
         go_wp2_with (first | ((with_reducible refine gate_callee (f := 58) rfl ?_); refine dU (some 50) Tryz.func58 #[.slice arn fT.length aro] ?_; (with_reducible refine (bj.calls k2 _ _ fT PV true _ ?ah ?aj A35.out).mono ?_); (case ah => exact kx ((Kd.ao dh.out).2.2)); (case aj => exact (Kd.ao dh.out).2.1); rintro e w38 ⟨arq, rfl, b0, hb⟩; refine ⟨_, rfl, ?_⟩; have wU := aa.mk (Kd.aW (Kd.eV b0 (Kd.gy (b9 dh.out))) (bs (w := w) (g := g) (row := none) (e9 HK))); replace dh := aa.mk (Kd.dZ (b9 dh.out) (Kd.cV b0) hb); replace ek := cn ek hb; replace HK := aa.mk (aq.trans (e9 HK) (aq.dK hb g none) (.inl rfl)); replace HB := aa.mk (b7 (gF HB (ae.ge bX.out)) hb); replace bX := aa.mk (ae.below (ae.q_ bX) hb); (try clear hb); (try clear b0)) | ((with_reducible refine gate_dst (N := 9) rfl ?_); refine iP 9 #[.slice none 0 0] 26 ?_; intro rb hg w39 hbox hb; replace dh := aa.mk (Kd.aY (b9 dh.out) hb); replace wU := aa.mk (Kd.aY (b9 wU.out) hb); replace HB := aa.mk (b7 (gF HB (ae.ge bX.out)) hb); have BE := aa.mk (hbox); have aiq := aa.mk ((by rw [hg]; exact (bs (w := w) (g := g) (row := none) (e9 HK)) : w.heap.size ≤ rb)); have air := aa.mk ((Nat.le_trans wR.out (by rw [hg]; exact (bs (w := w) (g := g) (row := none) (e9 HK)) : w.heap.size ≤ rb) : w0.heap.size ≤ rb)); replace HK := aa.mk (aq.trans (e9 HK) (aq.dK hb g none) (.inl rfl)); have vQ := mw hg ek; have vR := my hg ek; replace ek := cn ek hb; have CR := aa.mk ((by rw [hg]; exact Nat.ne_of_lt (ae.lt (show ae w0 _ g cd mZ m_ from ae.q_ bX)) : g ≠ rb)); have CS := aa.mk ((by rw [hg]; exact Nat.ne_of_gt (ae.lt (show ae w0 _ g cd mZ m_ from ae.q_ bX)) : rb ≠ g)); replace bX := aa.mk (ae.below (ae.q_ bX) hb); clear hb hbox hg; obtain ⟨U4, U5, acA⟩ := Kd.aN wU.out; subst acA; have avW := vR.out; have avX := vQ.out; have avY := CS.out; have avZ := CR.out; have U6 := fG BE; have U7 := af BE.out 0; have ais := l5.out; have ait := xZ.out; have U8 := fG ek; have U9 := af ek.out 0))
         refine bodyPost_ret (results_cell_row rfl _ _ jW 26 #[.slice U4 PV.length U5] (0, 0) _ rfl (mz ek) Tryz.underlying26 rfl (by kernel_rfl)) rfl ?_
         exact ⟨_, ig, by (with_reducible repeat (first | apply Kd.bQ | apply Kd.bT | apply Kd.bR)); exact Kd.bB (Kd.iJ (p := ⟨jW, 0, none⟩) (Kd.iJ (p := ⟨rb, 0, none⟩) (Kd.cI (Kd.cI wU.out BE.out (by decide)) ek.out (by decide)) (fun _ hk => hk.1.2) (.slice U4 PV.length U5)) (fun _ hk => hk.2) (.slice U4 PV.length U5)) (fun _ hk => trivial), ae.q_ bX, gF HB (ae.ge bX.out), e9 HK⟩
       replace c36 := Bool.eq_false_iff.mpr c36
       subst c36
       rw [if_neg (show ¬ (false = true) by decide)] at H
       have H' := aa.mk H
       clear H
       obtain ⟨ars, art, aru⟩ := Kd.aN dh.out
       subst aru
       go_wp2_with (first | ((with_reducible refine gate_callee (f := 58) rfl ?_); refine dU (some 50) Tryz.func58 #[.slice ars fT.length art] ?_; (with_reducible refine (bj.calls k2 _ _ fT PV false _ ?ah ?aj A35.out).mono ?_); (case ah => exact kx ((Kd.ao dh.out).2.2)); (case aj => exact (Kd.ao dh.out).2.1); rintro e w47 ⟨arq, rfl, b0, hb⟩; refine ⟨_, rfl, ?_⟩; have wU := aa.mk (Kd.aW (Kd.eV b0 (Kd.gy (b9 dh.out))) (bs (w := w) (g := g) (row := none) (e9 HK))); replace dh := aa.mk (Kd.dZ (b9 dh.out) (Kd.cV b0) hb); replace ek := cn ek hb; replace HK := aa.mk (aq.trans (e9 HK) (aq.dK hb g none) (.inl rfl)); replace HB := aa.mk (b7 (gF HB (ae.ge bX.out)) hb); replace bX := aa.mk (ae.below (ae.q_ bX) hb); (try clear hb); (try clear b0)) | ((with_reducible refine gate_dst (N := 9) rfl ?_); refine iP 9 #[.slice none 0 0] 26 ?_; intro rb hg w48 hbox hb; replace dh := aa.mk (Kd.aY (b9 dh.out) hb); replace wU := aa.mk (Kd.aY (b9 wU.out) hb); replace HB := aa.mk (b7 (gF HB (ae.ge bX.out)) hb); have BE := aa.mk (hbox); have aiq := aa.mk ((by rw [hg]; exact (bs (w := w) (g := g) (row := none) (e9 HK)) : w.heap.size ≤ rb)); have air := aa.mk ((Nat.le_trans wR.out (by rw [hg]; exact (bs (w := w) (g := g) (row := none) (e9 HK)) : w.heap.size ≤ rb) : w0.heap.size ≤ rb)); replace HK := aa.mk (aq.trans (e9 HK) (aq.dK hb g none) (.inl rfl)); have vQ := mw hg ek; have vR := my hg ek; replace ek := cn ek hb; have CR := aa.mk ((by rw [hg]; exact Nat.ne_of_lt (ae.lt (show ae w0 _ g cd mZ m_ from ae.q_ bX)) : g ≠ rb)); have CS := aa.mk ((by rw [hg]; exact Nat.ne_of_gt (ae.lt (show ae w0 _ g cd mZ m_ from ae.q_ bX)) : rb ≠ g)); replace bX := aa.mk (ae.below (ae.q_ bX) hb); clear hb hbox hg; obtain ⟨aAe, aAf, arv⟩ := Kd.aN wU.out; subst arv; have YR := vR.out; have YS := vQ.out; have aiu := CS.out; have aiv := CR.out; have aob := fG BE; have aoc := af BE.out 0))
       go_roundg k2
       case measure => have := fu.out; have := jo.out; omega
       case rel => exact ⟨(wrap64 (aJ + 1)), (mZ), (m_), eF, H', ⟨by have := fu.out; have := jo.out; omega⟩, ⟨pB ek⟩, ⟨ae.q_ bX⟩, ⟨e9 HK⟩, ⟨gF HB (ae.ge bX.out)⟩⟩
     rw [if_pos tQ] at H
     have BB : decide (nB < (wrap64 (1 + Mb))) = true := decide_eq_true tQ
     clear tQ
     obtain ⟨c28, H⟩ := kG H
     have ags : decide (0 < (fT.length : Int)) = true := decide_eq_true c28
     have av1 : decide (0 < fT.length) = true := decide_eq_true (by omega)
     clear c28
     obtain ⟨⟨U_, acB, acC⟩, A29, H⟩ := eA H
     (try dsimp only at H)
     obtain ⟨Na, H⟩ := kG H
     have aiw := aa.mk Na
     clear Na
     obtain ⟨aix, PW⟩ : ∃ y_ : List Int, y_ = (fT ++ [wrap64 ((wrap64 ((rd fT 0) + 1)) + U_)]) := ⟨_, rfl⟩
     replace H : (bG.l1 k2 aJ aix (wrap64 (1 + Mb)) (wrap64 (nB + 1)) cd acB acC) = some (r1, r2, r3) := by subst PW; exact H
     have aiy := aa.mk PW
     clear PW
     have H' := aa.mk H
     clear H
     try go_wp2
     replace dh := aa.mk (Kd.bR dh.out)
     replace ek := aa.mk (bg ek.out)
     replace bX := aa.mk (ae.drew bX.out)
     replace HK := aa.mk (sK HK.out)
     replace HB := aa.mk (bD HB.out)
     obtain ⟨Hu, ED, AY⟩ := Kd.aN dh.out
     (first | subst AY | (injection AY with ox tM oy; have tN := ox.symm; have tO := oy.symm; clear ox tM oy; subst tN; subst tO))
     have acD : 0 ≤ (0 : Int) := (by omega)
     have acE : 0 < (fT.length : Int) := bO
     obtain ⟨YT, arw, x_⟩ := Kd.aZ (Kd.ao dh.out).2.2 0 acD acE
     cases arw
     have av2 : (0 < fT.length) = True := eq_true (by omega)
     (try rw [show ((0 : Int)).toNat = 0 from rfl] at x_)
     (try rw [Addr.add_zero'] at x_)
     replace acD := eq_true acD
     replace acE := eq_true acE
     refine fy (n := 11) (S := fun w' => w'.cell? YT = some (.int .i64 (rd fT 0))) (ds := [8, 9]) (B_ 0 11) (by kernel_rfl) rfl rfl (x_) (fun hHeld => ?_); refine dv bG.aii bG.aco (fun HT_ HW_ => ?_)
     generalize wr.drew = TP at dh ek bX HK HB x_ hHeld ⊢
     refine b5 HT_ 0 38 (B_ 1 11) ?_
     refine b5 HT_ 1 39 (B_ 3 11) ?_
     refine b5 HT_ 2 40 (B_ 7 11) ?_
     refine b5 HT_ 5 43 (B_ 39 11) ?_
     refine lL HT_ HW_ hHeld 3 41 (B_ 47 11) ?_
     refine b5 HT_ 4 42 (B_ 63 11) ?_
     refine o2 HT_ 6 44 (B_ 127 11) (fun K hK => ?_)
     refine gu Tryz.func69 (by kernel_rfl) rfl #[.pointer (some ⟨g, 0, none⟩), .int .i64 12] (by rfl) rfl rfl (by (try simp only [List.map_toArray, List.map_cons, List.map_nil]); first | done | rfl | (simp only [List.length_drop, List.length_take]; rfl)) ?_
     with_reducible refine (bS.calls g cd mZ m_ 12 U_ acB acC w0 _ ?ah ?aj A29.out).mono ?_
     (case ah => exact ae.q_ bX)
     (case aj => exact gF HB (ae.ge bX.out))
     rintro e XO ⟨rfl, hi, hb, hk⟩
     have Hz := sJ hk (hHeld) (by first | (rw [eW]; exact Kd.xN (ae.mK bX.out dh.out (by decide))) | (show (Addr.add _ _).block ≠ _; rw [eW]; exact Kd.xN (ae.mK bX.out dh.out (by decide))) | exact Kd.xN (ae.mK bX.out dh.out (by decide)))
     refine ⟨_, rfl, ?_⟩
     replace dh := aa.mk (Kd.bB (Kd.lI (ae.apart (show ae w0 _ g cd mZ m_ from ae.q_ bX) (b9 dh.out) (by decide)) hk (fun _ h => h.2)) (fun _ h => h.1))
     replace ek := aa.mk (aq.pS hk (g' := jW) (o := .cells #[.slice none 0 0] 26 (0, 0)) (cC ek.out) l5.out (by simp))
     replace HK := aa.mk (aq.trans (e9 HK) hk (.inl rfl))
     replace HB := aa.mk (hb)
     replace bX := aa.mk (hi)
     (try clear hb)
     (try clear hk)
     (try clear hi)
     refine hK.out _ _ (Hz) (fun hHeld => ?_)
     clear hK K
     refine ep (a' := ?_) ?_ ?_
     rotate_left
     · show Act.put _ (some 44) _ = _
       simp only [Act.put, jK, jA, jB, b6, dw]
       rfl
     refine b5 HT_ 7 45 (B_ 255 11) ?_
     refine Nr (i := 8) (N := some 46) (B_ 511 11) rfl rfl (vM HT_.out (by kernel_rfl)) (by decide) (fun K hK => ?_)
     refine kU (w1 := ?_) (v := ?_) (by rfl) rfl ?_ ?_
     rotate_left 2
     · go_simp
       constructor
       · rfl
       · rfl
     refine hK.out _ _ ?_
     clear hK K
     refine ep (a' := ?_) ?_ ?_
     rotate_left
     · show Act.put _ (some 46) _ = _
       simp only [Act.put, jK, jA, jB, b6, dw]
       rfl
     refine Nr (i := 9) (N := some 47) (B_ 1023 11) rfl rfl (vM HT_.out (by kernel_rfl)) (by decide) (fun K hK => ?_)
     refine Kd.kY (Kd.int .i64) w.heap.size (by rfl) (.tmp 38) (.tmp 46) 24 3 (.int .i64 0) 8 rfl Tryz.underlying24 iS rfl (by decide) (by omega) (.slice (some YT) fT.length ED) fT (wrap64 ((wrap64 ((rd fT 0) + 1)) + U_)) [.int .i64 (wrap64 ((wrap64 ((rd fT 0) + 1)) + U_))] (fun _ => True) (fun _ => False) rfl rfl ?aP (fun _ hk => hk.elim) ?aF ?aO (Below.refl _ _) ?aS ?aL ?_
     (case aP => exact rfl)
     (case aF => exact (fun _ _ => trivial))
     (case aO => exact (b9 dh.out))
     (case aS => exact (bs (w := w) (g := g) (row := none) (e9 HK)))
     (case aL => have := aiw.out; omega)
     intro aAh PX ho hb hg hat
     rw [← aiy.out] at ho
     replace ek := aa.mk (cS (cC ek.out) hg (Kd.nR dh.out ek.out (by decide)))
     replace HB := aa.mk (ui (gF HB (ae.ge bX.out)) HL.out hb)
     replace bX := aa.mk (ae.grown (ae.q_ bX) hg (ae.mK bX.out dh.out (by decide)))
     replace HK := aa.mk (aq.trans (e9 HK) (aq.uc hg g) (Kd.Jd dh.out))
     have aiz := aa.mk (ho)
     clear dh
     clear ho hb hg hat
     refine hK.out _ _ ?_
     clear hK K
     refine ep (a' := ?_) ?_ ?_
     rotate_left
     · show Act.put _ (some 47) _ = _
       simp only [Act.put, jK, jA, jB, b6, dw]
       rfl
     refine b5 HT_ 10 6 (B_ 2047 11) ?_
     refine ik (eS HT_.out (by kernel_rfl)) ?_
     try go_wp2
     go_roundg k2
     case measure => have := fu.out; have := jo.out; omega
     case rel => exact ⟨(aix), (wrap64 (nB + 1)), (acB), (acC), eF, H', ⟨by have := fu.out; have := jo.out; omega⟩, ⟨b9 aiz.out⟩, ⟨cC ek.out⟩, ⟨ae.q_ bX⟩, ⟨e9 HK⟩, ⟨gF HB (ae.ge bX.out)⟩⟩
end Go.Proofs.YtjodlkbhaofkkaaGreat.PA
end
