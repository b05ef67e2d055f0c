-- Bundled by shake.py from this session's printed and written texts; Lean checks it.
import Derived.Test.YtppkokbhgkeknaaZFnArfx1
import Derived.Test.YtppkokbhgkeknaaZFnArfx6
section
namespace Go.Proofs.Ytppkokbhgkeknaa.PA
open Go.RowKit Go.Proofs.YtppkokbhgkeknaaW.PrintWords Go.Proofs.YtppkokbhgkeknaaW.PrintLast Go.Proofs.YtppkokbhgkeknaaW.PrintMore
attribute [local go_sem] max2_int min2_int max_two min_two max_three min_three max_four min_four
set_option linter.unusedVariables false
set_option linter.unusedSimpArgs false
set_option maxHeartbeats 8000000
set_option maxRecDepth 100000
def impl_IsAscending.l0 : Nat → List Int → Int → Option (Bool)
 | 0, _, _ => none
 | k + 1, x0, x3 => if x3 < (x0.length : Int) then (if 0 ≤ x3 then (if 0 ≤ (wrap64 (x3 - 1)) then (if (wrap64 (x3 - 1)) < (x0.length : Int) then (if (rd x0 x3) ≤ (rd x0 (wrap64 (x3 - 1))) then (some false) else (impl_IsAscending.l0 k x0 (wrap64 (x3 + 1)))) else (none)) else (none)) else (none)) else (some true)
def impl_IsAscending.f (k : Nat) (l0 : List Int) : Option (Bool) := impl_IsAscending.l0 k l0 1
theorem impl_IsAscending.calls (k : Nat) (A0 : Option Addr) (c0 : Nat) (l0 : List Int) (r : Bool) (w : World) (hr0 : Kd.C (Kd.int .i64) w A0 l0.length l0) (hc0 : l0.length ≤ c0) (h : impl_IsAscending.f k l0 = some r) :
 Calls Try.prog 47 #[.slice A0 l0.length c0] w fun e w' => e = .returned (.bool r) ∧ Drawn0 w w' := by
 have HR0 := Aside0.mk hr0
 have HC0 := Aside0.mk hc0
 clear hr0 hc0
 have H := h
 clear h
 unfold impl_IsAscending.f at H
 have H' := Aside0.mk H
 clear H
 go_enter Try.func47, Try.ntmps47
 go_wp2
 repeat (go_quiet (fail); try go_wp2)
 go_loopg [3] k (fun kq v3 w' => ∃ (x3_1 : Int), v3 = .int .i64 x3_1 ∧ Aside0 (impl_IsAscending.l0 kq l0 x3_1 = some r) ∧ Aside0 (kq ≤ k) ∧ Drawn0 w w')
 case atStart => exact ⟨(1), rs_, H', ⟨Nat.le_refl _⟩, by repeat (first | exact Drawn0.refl _ | apply Drawn0.step)⟩
 case round =>
  clear H'
  obtain ⟨x3_1, rfl, HA, HK1, ⟨m1, rfl⟩⟩ := hrel
  cases gk with
  | zero => exact absurd HA.out (by simp [impl_IsAscending.l0])
  | succ k1 =>
   have H := HA.out
   clear HA
   simp only [impl_IsAscending.l0] at H
   by_cases c2 : x3_1 < (l0.length : Int)
   rotate_left
   · rw [if_neg c2] at H
     have c2b0 : decide (x3_1 < (l0.length : Int)) = false := decide_eq_false c2
     clear c2
     obtain rfl := Option.some.inj H
     go_wp2
     repeat (go_quiet (fail); try go_wp2)
     go_ret
     exact ⟨by first | rfl | (simp; done) | (simp [*]; done), by repeat (first | exact Drawn0.refl _ | apply Drawn0.step)⟩
   rw [if_pos c2] at H
   have c2b0 : decide (x3_1 < (l0.length : Int)) = true := decide_eq_true c2
   clear c2
   obtain ⟨c3b0, H⟩ := ipd_ H
   obtain ⟨ji4, hji4⟩ : ∃ j_ : Int, (wrap64 (x3_1 - 1)) = j_ := ⟨_, rfl⟩
   replace H : (if 0 ≤ (ji4) then (if (ji4) < (l0.length : Int) then (if (rd l0 x3_1) ≤ (rd l0 (ji4)) then (some false) else (impl_IsAscending.l0 k1 l0 (wrap64 (x3_1 + 1)))) else (none)) else (none)) = some r := by first | (rw [hji4] at H; exact H) | (simp only [hji4] at H ⊢; exact H)
   have hji4w : (IntKind.i64.wrap (x3_1 - 1)) = ji4 := (i64_w _).trans hji4
   obtain ⟨c5b0, H⟩ := ipd_ H
   obtain ⟨c6b0, H⟩ := ipd_ H
   by_cases c7 : (rd l0 x3_1) ≤ (rd l0 (ji4))
   · rw [if_pos c7] at H
     have c7b0 : decide ((rd l0 x3_1) ≤ (rd l0 (ji4))) = true := decide_eq_true c7
     clear c7
     obtain rfl := Option.some.inj H
     have p552 : 0 ≤ (x3_1 : Int) := od_
     have q552 : x3_1 < (l0.length : Int) := od_
     obtain ⟨ad552, e552, hx552_0⟩ := Kd.at_int HR0.out x3_1 p552 q552
     cases e552
     replace p552 := eq_true p552
     replace q552 := eq_true q552
     have p553 : 0 ≤ ((ji4) : Int) := od_
     have q553 : (ji4) < (l0.length : Int) := od_
     obtain ⟨ad553, e553, hx553_0⟩ := Kd.at_int HR0.out (ji4) p553 q553
     obtain rfl : ad552 = ad553 := (by injection e553)
     replace p553 := eq_true p553
     replace q553 := eq_true q553
     go_wp2
     repeat (go_quiet (fail); try go_wp2)
     go_ret
     exact ⟨by first | rfl | (simp; done) | (simp only [← hji4] <;> (first | rfl | simp)) | (simp [*]; done), by repeat (first | exact Drawn0.refl _ | apply Drawn0.step)⟩
   rw [if_neg c7] at H
   have c7b0 : decide ((rd l0 x3_1) ≤ (rd l0 (ji4))) = false := decide_eq_false c7
   clear c7
   have H' := Aside0.mk H
   clear H
   have p552 : 0 ≤ (x3_1 : Int) := od_
   have q552 : x3_1 < (l0.length : Int) := od_
   obtain ⟨ad552, e552, hx552_0⟩ := Kd.at_int HR0.out x3_1 p552 q552
   cases e552
   replace p552 := eq_true p552
   replace q552 := eq_true q552
   have p553 : 0 ≤ ((ji4) : Int) := od_
   have q553 : (ji4) < (l0.length : Int) := od_
   obtain ⟨ad553, e553, hx553_0⟩ := Kd.at_int HR0.out (ji4) p553 q553
   obtain rfl : ad552 = ad553 := (by injection e553)
   replace p553 := eq_true p553
   replace q553 := eq_true q553
   go_wp2
   repeat (go_quiet (fail); try go_wp2)
   go_roundg k1
   case measure => have := HK1.out; omega
   case rel => exact ⟨(wrap64 (x3_1 + 1)), rs_, H', ⟨by have := HK1.out; omega⟩, by repeat (first | exact Drawn0.refl _ | apply Drawn0.step)⟩
def impl_GcdOf.l0 : Nat → Int → Int → Option (Int)
 | 0, _, _ => none
 | k + 1, x0, x1 => if x0 = 0 then (some x1) else (impl_GcdOf.l0 k (Int.tmod x1 x0) x0)
def impl_GcdOf.f (k : Nat) (a0 : Int) (a1 : Int) : Option (Int) := (impl_allWithin.f k (([a0, a1] : List Int)) (-1000000) 1000000).bind fun t557 => (if t557 = true then (impl_GcdOf.l0 k (mx a0 (wrap64 (-a0))) (mx a1 (wrap64 (-a1)))) else (some 0))
theorem impl_GcdOf.calls (k : Nat) (a0 : Int) (a1 : Int) (r : Int) (w : World) (h : impl_GcdOf.f k a0 a1 = some r) :
 Calls Try.prog 72 #[.int .i64 a0, .int .i64 a1] w fun e w' => e = .returned (.int .i64 r) ∧ Below w.heap.size w w' := by
 have HB := Aside0.mk (Below.refl w.heap.size w)
 have H := h
 clear h
 unfold impl_GcdOf.f at H
 obtain ⟨y554, hy554⟩ : ∃ y_ : List Int, y_ = (([a0, a1] : List Int)) := ⟨_, rfl⟩
 replace H : ((impl_allWithin.f k y554 (-1000000) 1000000).bind fun t557 => (if t557 = true then (impl_GcdOf.l0 k (mx a0 (wrap64 (-a0))) (mx a1 (wrap64 (-a1)))) else (some 0))) = some r := by subst hy554; exact H
 have Ny554 := Aside0.mk hy554
 clear hy554
 obtain ⟨t557, A3, H⟩ := ob_ H
 by_cases c4 : t557 = true
 rotate_left
 · replace c4 := Bool.eq_false_iff.mpr c4
   subst c4
   rw [if_neg (show ¬ (false = true) by decide)] at H
   obtain rfl := Option.some.inj H
   go_enter Try.func72, Try.ntmps72
   go_wp2_with (first | ((with_reducible refine gate_dst (N := 7) rfl ?_); refine Kd.R_lit (Kd.int .i64) _ 3 ?hg (N := 7) ?hd (xs := ([a0, a1] : List Int)) (inner := [.int .i64 a0, .int .i64 a1]) (ok := fun _ => True) (okp := fun _ => True) ?hr ?hp (fun _ hk => hk) trivial (Below.refl _ _) (Nat.le_refl _) (by simp) ?_; (case hd => rfl); (case hg => rfl); (case hr => first | (go_simp; done) | (go_simp; rfl)); (case hp => exact (Reps.one (show Kd.M (Kd.int .i64) _ _ _ a0 [.int .i64 a0] from rfl) (Reps.one (show Kd.M (Kd.int .i64) _ _ _ a1 [.int .i64 a1] from rfl) (Reps.none _ _)))); intro v555 w11 ho12 hb hg_ hnew_; clear hg_ hnew_; (first | rw [← Ny554.out] at ho12 | (simp only [Int.reduceToNat] at ho12; rw [← Ny554.out] at ho12)); have HO556 := Aside0.mk (Kd.R_lower ho12 (below_size (bl_ HB.out))); replace HB := bo_ HB hb; clear hb ho12; obtain ⟨Ao13, co13, eo13⟩ := Kd.R_slice HO556.out; subst eo13) | ((with_reducible refine gate_callee (f := 46) rfl ?_); refine gL_ (some 8) Try.func46 #[.slice Ao13 y554.length co13, .int .i64 (-1000000), .int .i64 1000000] ?_; (with_reducible refine (impl_allWithin.calls k _ _ y554 (-1000000) 1000000 false _ ?side1 ?side2 A3.out).mono ?_); (case side1 => exact ce_ ((Kd.R_reads' HO556.out).2.2)); (case side2 => exact (Kd.R_reads' HO556.out).2.1); rintro e w' ⟨rfl, ⟨nd, rfl⟩⟩; refine ⟨_, rfl, ?_⟩))
   go_ret
   exact ⟨rf_, bl_ HB.out⟩
 subst c4
 rw [if_pos rfl] at H
 obtain ⟨ji5, hji5⟩ : ∃ j_ : Int, (mx a0 (wrap64 (-a0))) = j_ := ⟨_, rfl⟩
 replace H : (impl_GcdOf.l0 k ji5 (mx a1 (wrap64 (-a1)))) = some r := by first | (rw [hji5] at H; exact H) | (simp only [hji5] at H ⊢; exact H)
 (try rw [hji5] at A3)
 have hji5_ : (if a0 < (wrap64 (-a0)) then (wrap64 (-a0)) else a0) = ji5 := hji5
 obtain ⟨ji6, hji6⟩ : ∃ j_ : Int, (mx a1 (wrap64 (-a1))) = j_ := ⟨_, rfl⟩
 replace H : (impl_GcdOf.l0 k ji5 ji6) = some r := by first | (rw [hji6] at H; exact H) | (simp only [hji6] at H ⊢; exact H)
 (try rw [hji6] at A3)
 have hji6_ : (if a1 < (wrap64 (-a1)) then (wrap64 (-a1)) else a1) = ji6 := hji6
 have H' := Aside0.mk H
 clear H
 go_enter Try.func72, Try.ntmps72
 go_wp2_with (first | ((with_reducible refine gate_dst (N := 7) rfl ?_); refine Kd.R_lit (Kd.int .i64) _ 3 ?hg (N := 7) ?hd (xs := ([a0, a1] : List Int)) (inner := [.int .i64 a0, .int .i64 a1]) (ok := fun _ => True) (okp := fun _ => True) ?hr ?hp (fun _ hk => hk) trivial (Below.refl _ _) (Nat.le_refl _) (by simp) ?_; (case hd => rfl); (case hg => rfl); (case hr => first | (go_simp; done) | (go_simp; rfl)); (case hp => exact (Reps.one (show Kd.M (Kd.int .i64) _ _ _ a0 [.int .i64 a0] from rfl) (Reps.one (show Kd.M (Kd.int .i64) _ _ _ a1 [.int .i64 a1] from rfl) (Reps.none _ _)))); intro v555 w7 ho8 hb hg_ hnew_; clear hg_ hnew_; (first | rw [← Ny554.out] at ho8 | (simp only [Int.reduceToNat] at ho8; rw [← Ny554.out] at ho8)); have HO556 := Aside0.mk (Kd.R_lower ho8 (below_size (bl_ HB.out))); replace HB := bo_ HB hb; clear hb ho8; obtain ⟨Ao9, co9, eo9⟩ := Kd.R_slice HO556.out; subst eo9) | ((with_reducible refine gate_callee (f := 46) rfl ?_); refine gL_ (some 8) Try.func46 #[.slice Ao9 y554.length co9, .int .i64 (-1000000), .int .i64 1000000] ?_; (with_reducible refine (impl_allWithin.calls k _ _ y554 (-1000000) 1000000 true _ ?side1 ?side2 A3.out).mono ?_); (case side1 => exact ce_ ((Kd.R_reads' HO556.out).2.2)); (case side2 => exact (Kd.R_reads' HO556.out).2.1); rintro e w' ⟨rfl, ⟨nd, rfl⟩⟩; refine ⟨_, rfl, ?_⟩))
 go_loopg [0, 1] k (fun kq v0 v1 w' => ∃ (x0_1 : Int) (x1_1 : Int), v0 = .int .i64 x0_1 ∧ v1 = .int .i64 x1_1 ∧ Aside0 (impl_GcdOf.l0 kq x0_1 x1_1 = some r) ∧ Aside0 (kq ≤ k) ∧ Aside0 (Below w.heap.size w w'))
 case atStart => exact ⟨(ji5), (ji6), (by first | rfl | (simp; done) | (simp only [← hji5] <;> (first | rfl | simp)) | (simp [*]; done)), (by first | rfl | (simp; done) | (simp only [← hji6] <;> (first | rfl | simp)) | (simp [*]; done)), H', ⟨Nat.le_refl _⟩, ⟨bl_ HB.out⟩⟩
 case round =>
  clear H'
  obtain ⟨x0_1, x1_1, rfl, rfl, HA, HK1, HB⟩ := hrel
  cases gk with
  | zero => exact absurd HA.out (by simp [impl_GcdOf.l0])
  | succ k1 =>
   have H := HA.out
   clear HA
   simp only [impl_GcdOf.l0] at H
   by_cases c10 : x0_1 = 0
   · rw [if_pos c10] at H
     have c10b0 : (x0_1 == 0) = true := beq_iff_eq.mpr c10
     have c10b1 : (x0_1 != 0) = false := bne_eq_false_iff_eq.mpr c10
     clear c10
     obtain rfl := Option.some.inj H
     go_wp2
     go_ret
     exact ⟨by first | rfl | (simp [errW_none, errW_some] <;> rfl) | (simp only [← hji5, ← hji6]; first | rfl | (simp [errW_none, errW_some] <;> rfl)) | (simp [*, errW_none, errW_some] <;> rfl), bl_ HB.out⟩
   rw [if_neg c10] at H
   have c10b0 : (x0_1 == 0) = false := beq_eq_false_iff_ne.mpr c10
   have c10b1 : (x0_1 != 0) = true := bne_iff_ne.mpr c10
   have H' := Aside0.mk H
   clear H
   go_wp2
   go_roundg k1
   case measure => have := HK1.out; omega
   case rel => exact ⟨(Int.tmod x1_1 x0_1), (x0_1), rs_, rs_, H', ⟨by have := HK1.out; omega⟩, ⟨bl_ HB.out⟩⟩
def impl_GcdOfList.l0 : Nat → Int → List Int → Int → Int → Option (Int)
 | 0, _, _, _, _ => none
 | k + 1, x3, x6, x7, x8 => if x8 < x7 then (if 0 ≤ x8 then (if x8 < (x6.length : Int) then ((impl_GcdOf.f k x3 (rd x6 x8)).bind fun t559 => (impl_GcdOfList.l0 k t559 x6 x7 (wrap64 (x8 + 1)))) else (none)) else (none)) else (some x3)
def impl_GcdOfList.f (k : Nat) (l0 : List Int) : Option (Int) := impl_GcdOfList.l0 k 0 l0 (l0.length : Int) 0
theorem impl_GcdOfList.calls (k : Nat) (A0 : Option Addr) (c0 : Nat) (l0 : List Int) (r : Int) (w : World) (hr0 : Kd.C (Kd.int .i64) w A0 l0.length l0) (hc0 : l0.length ≤ c0) (h : impl_GcdOfList.f k l0 = some r) :
 Calls Try.prog 48 #[.slice A0 l0.length c0] w fun e w' => e = .returned (.int .i64 r) ∧ Below w.heap.size w w' := by
 have HR0 := Aside0.mk hr0
 have HC0 := Aside0.mk hc0
 clear hr0 hc0
 have HB := Aside0.mk (Below.refl w.heap.size w)
 have H := h
 clear h
 unfold impl_GcdOfList.f at H
 have H' := Aside0.mk H
 clear H
 go_enter Try.func48, Try.ntmps48
 go_wp2
 go_loopg [3, 8] k (fun kq v3 v8 w' => ∃ (x3_1 : Int) (x8_1 : Int), v3 = .int .i64 x3_1 ∧ v8 = .int .i64 x8_1 ∧ Aside0 (impl_GcdOfList.l0 kq x3_1 l0 (l0.length : Int) x8_1 = some r) ∧ Aside0 (kq ≤ k) ∧ Aside0 (Below w.heap.size w w'))
 case atStart => exact ⟨(0), (0), rs_, rs_, H', ⟨Nat.le_refl _⟩, ⟨bl_ HB.out⟩⟩
 case round =>
  clear H'
  obtain ⟨x3_1, x8_1, rfl, rfl, HA, HK1, HB⟩ := hrel
  cases gk with
  | zero => exact absurd HA.out (by simp [impl_GcdOfList.l0])
  | succ k1 =>
   have H := HA.out
   clear HA
   simp only [impl_GcdOfList.l0] at H
   by_cases c2 : x8_1 < (l0.length : Int)
   rotate_left
   · rw [if_neg c2] at H
     have c2b0 : decide (x8_1 < (l0.length : Int)) = false := decide_eq_false c2
     clear c2
     obtain rfl := Option.some.inj H
     go_wp2
     go_ret
     exact ⟨rf_, bl_ HB.out⟩
   rw [if_pos c2] at H
   have c2b0 : decide (x8_1 < (l0.length : Int)) = true := decide_eq_true c2
   clear c2
   obtain ⟨c3b0, H⟩ := ipd_ H
   obtain ⟨c4b0, H⟩ := ipd_ H
   obtain ⟨t559, A5, H⟩ := ob_ H
   have H' := Aside0.mk H
   clear H
   have p558 : 0 ≤ (x8_1 : Int) := od_
   have q558 : x8_1 < (l0.length : Int) := od_
   obtain ⟨ad558, e558, hx558_0⟩ := Kd.at_int HR0.out x8_1 p558 q558
   cases e558
   (try replace hx558_0 := (HB.out.cell (World.block_lt_of_cell? w _ hx558_0)).trans hx558_0)
   replace p558 := eq_true p558
   replace q558 := eq_true q558
   go_wp2_with (first | ((with_reducible refine gate_callee (f := 72) rfl ?_); refine gL_ (some 14) Try.func72 #[.int .i64 x3_1, .int .i64 (rd l0 x8_1)] ?_; (with_reducible refine (impl_GcdOf.calls k1 x3_1 (rd l0 x8_1) t559 _ A5.out).mono ?_); rintro e w6 ⟨rfl, hb⟩; refine ⟨_, rfl, ?_⟩; replace HB := bo_ HB hb; (try clear hb)))
   go_roundg k1
   case measure => have := HK1.out; omega
   case rel => exact ⟨(t559), (wrap64 (x8_1 + 1)), rs_, rs_, H', ⟨by have := HK1.out; omega⟩, ⟨bl_ HB.out⟩⟩
mutual
def impl_leasts.l0 : Nat → List Int → Int → List Int → Int → Int → Option (List Int)
 | 0, _, _, _, _, _ => none
 | k + 1, x0, x1, x5, x16, x17 => if x17 < x16 then (if 0 ≤ x17 then (if x17 < (x5.length : Int) then (impl_leasts.l0 k x0 x1 (x5.set (x17 : Int).toNat (-1)) x16 (wrap64 (x17 + 1))) else (none)) else (none)) else (if 0 < (x5.length : Int) then (impl_leasts.l1 k x0 x1 (x5.set (0 : Int).toNat 0) true) else (none))
def impl_leasts.l1 : Nat → List Int → Int → List Int → Bool → Option (List Int)
 | 0, _, _, _, _ => none
 | k + 1, x0, x1, x5, x7 => if x7 = true then (impl_leasts.l2 k x0 x1 x5 false (x5.length : Int) 0) else (some x5)
def impl_leasts.l2 : Nat → List Int → Int → List Int → Bool → Int → Int → Option (List Int)
 | 0, _, _, _, _, _, _ => none
 | k + 1, x0, x1, x5, x7, x28, x29 => if x29 < x28 then (if 0 ≤ x29 then (if x29 < (x5.length : Int) then (if (rd x5 x29) < 0 then (impl_leasts.l2 k x0 x1 x5 x7 x28 (wrap64 (x29 + 1))) else (impl_leasts.l3 k x0 x1 x5 x7 x29 (rd x5 x29) x28 x29 x0 (x0.length : Int) 0)) else (none)) else (none)) else (impl_leasts.l1 k x0 x1 x5 x7)
def impl_leasts.l3 : Nat → List Int → Int → List Int → Bool → Int → Int → Int → Int → List Int → Int → Int → Option (List Int)
 | 0, _, _, _, _, _, _, _, _, _, _, _ => none
 | k + 1, x0, x1, x5, x7, x8, x9, x28, x29, x36, x37, x38 => if x38 < x37 then (if 0 ≤ x38 then (if x38 < (x36.length : Int) then (if x1 = 0 then (none) else (if 0 ≤ (Int.tmod (wrap64 (x8 + (rd x36 x38))) x1) then (if (Int.tmod (wrap64 (x8 + (rd x36 x38))) x1) < (x5.length : Int) then (if (rd x5 (Int.tmod (wrap64 (x8 + (rd x36 x38))) x1)) < 0 then (impl_leasts.l3 k x0 x1 (x5.set ((Int.tmod (wrap64 (x8 + (rd x36 x38))) x1) : Int).toNat (wrap64 (x9 + (rd x36 x38)))) true x8 x9 x28 x29 x36 x37 (wrap64 (x38 + 1))) else (if (wrap64 (x9 + (rd x36 x38))) < (rd x5 (Int.tmod (wrap64 (x8 + (rd x36 x38))) x1)) then (impl_leasts.l3 k x0 x1 (x5.set ((Int.tmod (wrap64 (x8 + (rd x36 x38))) x1) : Int).toNat (wrap64 (x9 + (rd x36 x38)))) true x8 x9 x28 x29 x36 x37 (wrap64 (x38 + 1))) else (impl_leasts.l3 k x0 x1 x5 x7 x8 x9 x28 x29 x36 x37 (wrap64 (x38 + 1))))) else (none)) else (none))) else (none)) else (none)) else (impl_leasts.l2 k x0 x1 x5 x7 x28 (wrap64 (x29 + 1)))
end
def impl_leasts.f (k : Nat) (l0 : List Int) (a1 : Int) : Option (List Int) := if 0 ≤ a1 then (if (a1 : Int).toNat ≤ 35184372088832 then ((some (List.replicate (a1 : Int).toNat 0 : List Int)).bind fun y560 => (impl_leasts.l0 k l0 a1 y560 (y560.length : Int) 0)) else (none)) else (none)
theorem impl_leasts.calls (k : Nat) (A0 : Option Addr) (c0 : Nat) (l0 : List Int) (a1 : Int) (r : List Int) (w : World) (hr0 : Kd.C (Kd.int .i64) w A0 l0.length l0) (hc0 : l0.length ≤ c0) (h : impl_leasts.f k l0 a1 = some r) :
 Calls Try.prog 50 #[.slice A0 l0.length c0, .int .i64 a1] w fun e w' => ∃ v0_ : Value, e = .returned (v0_) ∧ Kd.R (Kd.int .i64) 3 w' w.heap.size (fun _ => True) v0_ r ∧ Below w.heap.size w w' := by
 have HR0 := Aside0.mk hr0
 have HC0 := Aside0.mk hc0
 clear hr0 hc0
 have HB := Aside0.mk (Below.refl w.heap.size w)
 have H := h
 clear h
 unfold impl_leasts.f at H
 obtain ⟨c3, H⟩ := ip_ H
 have c3b0 := eq_true c3
 have c3b1 : decide (0 ≤ a1) = true := decide_eq_true c3
 clear c3
 obtain ⟨c4, H⟩ := ip_ H
 have c4b0 := eq_true c4
 have c4b1 : decide ((a1 : Int).toNat ≤ 35184372088832) = true := decide_eq_true c4
 clear c4
 obtain ⟨y560, hy560⟩ : ∃ y_ : List Int, y_ = (List.replicate (a1 : Int).toNat 0) := ⟨_, rfl⟩
 replace H : (impl_leasts.l0 k l0 a1 y560 (y560.length : Int) 0) = some r := by subst hy560; exact H
 have Ny560 := Aside0.mk hy560
 clear hy560
 have H' := Aside0.mk H
 clear H
 go_enter Try.func50, Try.ntmps50
 go_wp2_with (first | ((with_reducible refine gate_dst (N := 14) rfl ?_); refine Kd.R_make (Kd.int .i64) _ 3 rfl (N := 14) rfl 24 _ _ rfl a1 rfl rfl Try.underlying24 (.int .i64 0) 8 info3 rfl (by decide) (by omega) 0 (ok := fun _ => True) (okp := fun _ => True) rfl (fun _ hk => hk) trivial (od_) (Nat.le_trans (Nat.mul_le_mul_right _ (od_ : a1.toNat ≤ 35184372088832)) (by omega)) (Below.refl _ _) (Nat.le_refl _) ?_; intro v561 w5 ho6 hb hg_ hnew_; clear hg_ hnew_; (first | rw [← Ny560.out] at ho6 | (simp only [Int.reduceToNat] at ho6; rw [← Ny560.out] at ho6)); have HO562 := Aside0.mk (Kd.R_lower ho6 (below_size (bl_ HB.out))); replace HB := bo_ HB hb; clear hb ho6; obtain ⟨Ao7, co7, eo7⟩ := Kd.R_slice HO562.out; subst eo7))
 go_loopg [17] k (fun kq v17 w' => ∃ (x5_1 : List Int) (x17_1 : Int), v17 = .int .i64 x17_1 ∧ Aside0 (impl_leasts.l0 kq l0 a1 x5_1 (y560.length : Int) x17_1 = some r) ∧ Aside0 (kq ≤ k) ∧ Aside0 (Kd.R (Kd.int .i64) 3 w' w.heap.size (fun _ => True) (.slice Ao7 y560.length co7) x5_1) ∧ Aside0 (Below w.heap.size w w'))
 case atStart => exact ⟨(y560), (0), rs_, H', ⟨Nat.le_refl _⟩, ⟨re_ HO562.out⟩, ⟨bl_ HB.out⟩⟩
 case round =>
  clear H'
  try clear c3b0
  try clear c3b1
  try clear c4b0
  try clear c4b1
  obtain ⟨x5_1, x17_1, rfl, HA, HK1, HO_5, HB⟩ := hrel
  have hl5_1 := (Kd.R_reads' HO_5.out).1
  rw [hl5_1] at HO_5
  (try simp only [hl5_1])
  cases gk with
  | zero => exact absurd HA.out (by simp [impl_leasts.l0])
  | succ k1 =>
   have H := HA.out
   clear HA
   simp only [impl_leasts.l0] at H
   by_cases c8 : x17_1 < (y560.length : Int)
   · rw [if_pos c8] at H
     have c8b0 : decide (x17_1 < (y560.length : Int)) = true := decide_eq_true c8
     (try (have c8h := c8b0; simp only [hl5_1] at c8h))
     clear c8
     obtain ⟨c9b0, H⟩ := ipd_ H
     obtain ⟨c10, H⟩ := ip_ H
     have c10b0 : decide (x17_1 < (x5_1.length : Int)) = true := decide_eq_true c10
     (try (have c10h := c10b0; simp only [hl5_1] at c10h))
     clear c10
     obtain ⟨y563, hy563⟩ : ∃ y_ : List Int, y_ = (x5_1.set (x17_1 : Int).toNat (-1)) := ⟨_, rfl⟩
     replace H : (impl_leasts.l0 k1 l0 a1 y563 (y560.length : Int) (wrap64 (x17_1 + 1))) = some r := by subst hy563; exact H
     have Ny563 := Aside0.mk hy563
     clear hy563
     have H' := Aside0.mk H
     clear H
     have p11 : 0 ≤ (x17_1 : Int) := od_
     have q11 : (x17_1 : Int) < ((x5_1.length : Int) : Int) := od_
     obtain ⟨go11, co11, eo11, gb11, gl11, cl11, HG11⟩ := Kd.R_form HO_5.out (by omega)
     (first | cases eo11 | (injection eo11 with ea_ en_ ec_; (first | subst ea_ | (injection ea_ with ea_; subst ea_)); subst ec_; clear en_))
     have GB11 := Aside0.mk gb11
     have GG11 := Aside0.mk HG11
     clear gb11 gl11 HG11
     obtain ⟨hx11_0, hf11_0⟩ := Kd.R_celln 0 HO_5.out (x17_1 : Int) p11 q11
     replace p11 := eq_true p11
     replace q11 := eq_true q11
     have HP12 := Kd.R_putg HO_5.out (x17_1 : Int) (-1)
     go_wp2_with (first | ((with_reducible refine gate_store (t := 3) (p := 22) rfl ?_); refine store_event (t := 3) (p := 22) (v := ?vo_w13) (w1 := (wr.setCell ⟨go11, (x17_1 : Int).toNat, none⟩ (.int .i64 (-1)))) ?hg ?ho ?hn ?hr ?_; (case ho => rfl); (case hg => rfl); (case hn => rfl); (case hr => first | (go_simp; done) | (go_simp; rfl)); intro w13 hw; have hg : wr.grownBy w13 (some go11) := (by rw [hw]; exact HP12.2); have hp_ : Kd.R (Kd.int .i64) 3 w13 w.heap.size (fun _ => True) (.slice (some ⟨go11, 0, none⟩) x5_1.length co7) y563 := (by rw [hw, Ny563.out]; exact HP12.1); clear HP12; replace HO_5 := Aside0.mk (hp_); replace HB := Aside0.mk ((by rw [hw]; exact below_set (HB.out) GB11.out : Below w.heap.size w w13)); clear hg hw hp_))
     (try simp only [← hl5_1])
     go_roundg k1
     case measure => have := HK1.out; omega
     case rel => exact ⟨(y563), (wrap64 (x17_1 + 1)), rs_, H', ⟨by have := HK1.out; omega⟩, ⟨by (try simp only [hl5_1]); (with_reducible repeat (first | apply Kd.R_alloc | apply Kd.R_drewN | apply Kd.R_drew)); exact HO_5.out⟩, ⟨bl_ HB.out⟩⟩
   rw [if_neg c8] at H
   have c8b0 : decide (x17_1 < (y560.length : Int)) = false := decide_eq_false c8
   (try (have c8h := c8b0; simp only [hl5_1] at c8h))
   clear c8
   obtain ⟨c14, H⟩ := ip_ H
   have c14b0 : decide (0 < (x5_1.length : Int)) = true := decide_eq_true c14
   have c14b1 : decide (0 < x5_1.length) = true := decide_eq_true (by omega)
   (try (have c14h := c14b0; simp only [hl5_1] at c14h))
   clear c14
   obtain ⟨y564, hy564⟩ : ∃ y_ : List Int, y_ = (x5_1.set (0 : Int).toNat 0) := ⟨_, rfl⟩
   replace H : (impl_leasts.l1 k1 l0 a1 y564 true) = some r := by subst hy564; exact H
   have Ny564 := Aside0.mk hy564
   clear hy564
   have H' := Aside0.mk H
   clear H
   have p15 : 0 ≤ (0 : Int) := (by omega)
   have q15 : (0 : Int) < ((x5_1.length : Int) : Int) := od_
   have qi15 : (0 < x5_1.length) = True := eq_true (by omega)
   obtain ⟨go15, co15, eo15, gb15, gl15, cl15, HG15⟩ := Kd.R_form HO_5.out (by omega)
   (first | cases eo15 | (injection eo15 with ea_ en_ ec_; (first | subst ea_ | (injection ea_ with ea_; subst ea_)); subst ec_; clear en_))
   have GB15 := Aside0.mk gb15
   have GG15 := Aside0.mk HG15
   clear gb15 gl15 HG15
   obtain ⟨hx15_0, hf15_0⟩ := Kd.R_celln 0 HO_5.out (0 : Int) p15 q15
   (try rw [show ((0 : Int)).toNat = 0 from rfl] at hx15_0)
   (try simp only [Nat.reduceMul, Nat.zero_mul, Nat.zero_add, Nat.reduceAdd] at hx15_0)
   (try rw [show ((0 : Int)).toNat = 0 from rfl] at hf15_0)
   (try simp only [Nat.reduceMul, Nat.zero_mul, Nat.zero_add, Nat.reduceAdd] at hf15_0)
   replace p15 := eq_true p15
   replace q15 := eq_true q15
   have HP16 := Kd.R_putg HO_5.out (0 : Int) 0
   go_wp2_with (first | ((with_reducible refine gate_store (t := 3) (p := 25) rfl ?_); refine store_event (t := 3) (p := 25) (v := ?vo_w17) (w1 := (wr.setCell ⟨go15, (0 : Int).toNat, none⟩ (.int .i64 0))) ?hg ?ho ?hn ?hr ?_; (case ho => rfl); (case hg => rfl); (case hn => rfl); (case hr => first | (go_simp; done) | (go_simp; rfl)); intro w17 hw; have hg : wr.grownBy w17 (some go15) := (by rw [hw]; exact HP16.2); have hp_ : Kd.R (Kd.int .i64) 3 w17 w.heap.size (fun _ => True) (.slice (some ⟨go15, 0, none⟩) x5_1.length co7) y564 := (by rw [hw, Ny564.out]; exact HP16.1); clear HP16; replace HO_5 := Aside0.mk (hp_); replace HB := Aside0.mk ((by rw [hw]; exact below_set (HB.out) GB15.out : Below w.heap.size w w17)); clear hg hw hp_))
   go_loopg [7] k1 (fun kq v7 w' => ∃ (x5_2 : List Int) (x7_2 : Bool), v7 = .bool x7_2 ∧ Aside0 (impl_leasts.l1 kq l0 a1 x5_2 x7_2 = some r) ∧ Aside0 (kq ≤ k1) ∧ Aside0 (Kd.R (Kd.int .i64) 3 w' w.heap.size (fun _ => True) (.slice (some ⟨go15, 0, none⟩) x5_1.length co7) x5_2) ∧ Aside0 (Below w.heap.size w w'))
   case atStart => exact ⟨(y564), (true), rs_, H', ⟨Nat.le_refl _⟩, ⟨by (try simp only [hl5_1]); (with_reducible repeat (first | apply Kd.R_alloc | apply Kd.R_drewN | apply Kd.R_drew)); exact HO_5.out⟩, ⟨bl_ HB.out⟩⟩
   case round =>
    clear H'
    try clear c8b0
    try clear c14b0
    try clear c14b1
    try clear p15
    try clear q15
    try clear qi15
    try clear hx15_0
    obtain ⟨x5_2, x7_2, rfl, HA, HK2, HO_5, HB⟩ := hrel
    have hl5_2 := (Kd.R_reads' HO_5.out).1
    rw [hl5_2] at HO_5
    (try simp only [hl5_2])
    cases gk with
    | zero => exact absurd HA.out (by simp [impl_leasts.l1])
    | succ k2 =>
     have H := HA.out
     clear HA
     simp only [impl_leasts.l1] at H
     by_cases c18 : x7_2 = true
     rotate_left
     · replace c18 := Bool.eq_false_iff.mpr c18
       subst c18
       rw [if_neg (show ¬ (false = true) by decide)] at H
       obtain rfl := Option.some.inj H
       go_wp2
       go_ret
       exact ⟨_, rf_, re_ HO_5.out, bl_ HB.out⟩
     subst c18
     rw [if_pos rfl] at H
     have H' := Aside0.mk H
     clear H
     go_wp2
     go_loopg [7, 29] k2 (fun kq v7 v29 w' => ∃ (x5_3 : List Int) (x7_3 : Bool) (x29_3 : Int), v7 = .bool x7_3 ∧ v29 = .int .i64 x29_3 ∧ Aside0 (impl_leasts.l2 kq l0 a1 x5_3 x7_3 (x5_2.length : Int) x29_3 = some r) ∧ Aside0 (kq ≤ k2) ∧ Aside0 (Kd.R (Kd.int .i64) 3 w' w.heap.size (fun _ => True) (.slice (some ⟨go15, 0, none⟩) x5_2.length co7) x5_3) ∧ Aside0 (Below w.heap.size w w'))
     case atStart => exact ⟨(x5_2), (false), (0), rs_, rs_, H', ⟨Nat.le_refl _⟩, ⟨by (try simp only [hl5_1]); (try simp only [hl5_2]); (with_reducible repeat (first | apply Kd.R_alloc | apply Kd.R_drewN | apply Kd.R_drew)); exact HO_5.out⟩, ⟨bl_ HB.out⟩⟩
     case round =>
      clear H'
      obtain ⟨x5_3, x7_3, x29_3, rfl, rfl, HA, HK3, HO_5, HB⟩ := hrel
      have hl5_3 := (Kd.R_reads' HO_5.out).1
      rw [hl5_3] at HO_5
      (try simp only [hl5_3])
      cases gk with
      | zero => exact absurd HA.out (by simp [impl_leasts.l2])
      | succ k3 =>
       have H := HA.out
       clear HA
       simp only [impl_leasts.l2] at H
       by_cases c19 : x29_3 < (x5_2.length : Int)
       rotate_left
       · rw [if_neg c19] at H
         have c19b0 : decide (x29_3 < (x5_2.length : Int)) = false := decide_eq_false c19
         (try (have c19h := c19b0; simp only [hl5_1, hl5_2, hl5_3] at c19h))
         clear c19
         have H' := Aside0.mk H
         clear H
         go_wp2
         (try simp only [← hl5_2, ← hl5_3])
         go_roundg k3
         case measure => have := HK1.out; have := HK2.out; have := HK3.out; omega
         case rel => exact ⟨(x5_3), (x7_3), rs_, H', ⟨by have := HK1.out; have := HK2.out; have := HK3.out; omega⟩, ⟨by (try simp only [hl5_1]); (try simp only [hl5_2]); (try simp only [hl5_3]); (with_reducible repeat (first | apply Kd.R_alloc | apply Kd.R_drewN | apply Kd.R_drew)); exact HO_5.out⟩, ⟨bl_ HB.out⟩⟩
       rw [if_pos c19] at H
       have c19b0 : decide (x29_3 < (x5_2.length : Int)) = true := decide_eq_true c19
       (try (have c19h := c19b0; simp only [hl5_1, hl5_2, hl5_3] at c19h))
       clear c19
       obtain ⟨c20b0, H⟩ := ipd_ H
       obtain ⟨c21, H⟩ := ip_ H
       have c21b0 : decide (x29_3 < (x5_3.length : Int)) = true := decide_eq_true c21
       (try (have c21h := c21b0; simp only [hl5_1, hl5_2, hl5_3] at c21h))
       clear c21
       by_cases c22 : (rd x5_3 x29_3) < 0
       · rw [if_pos c22] at H
         have c22b0 : decide ((rd x5_3 x29_3) < 0) = true := decide_eq_true c22
         clear c22
         have H' := Aside0.mk H
         clear H
         have p565 : 0 ≤ (x29_3 : Int) := od_
         have q565 : x29_3 < (x5_3.length : Int) := od_
         obtain ⟨ad565, e565, hx565_0⟩ := Kd.at_int (Kd.R_reads' HO_5.out).2.2 x29_3 p565 q565
         obtain rfl : (⟨go15, 0, none⟩ : Addr) = ad565 := (by injection e565)
         (first | simp only [add_plain] at hx565_0 | simp only [add_at] at hx565_0 | simp only [Addr.add, Nat.zero_add] at hx565_0 | skip)
         replace p565 := eq_true p565
         replace q565 := eq_true q565
         go_wp2
         (try simp only [← hl5_3])
         go_roundg k3
         case measure => have := HK1.out; have := HK2.out; have := HK3.out; omega
         case rel => exact ⟨(x5_3), (x7_3), (wrap64 (x29_3 + 1)), rs_, rs_, H', ⟨by have := HK1.out; have := HK2.out; have := HK3.out; omega⟩, ⟨by (try simp only [hl5_1]); (try simp only [hl5_2]); (try simp only [hl5_3]); (with_reducible repeat (first | apply Kd.R_alloc | apply Kd.R_drewN | apply Kd.R_drew)); exact HO_5.out⟩, ⟨bl_ HB.out⟩⟩
       rw [if_neg c22] at H
       have c22b0 : decide ((rd x5_3 x29_3) < 0) = false := decide_eq_false c22
       clear c22
       have H' := Aside0.mk H
       clear H
       have p565 : 0 ≤ (x29_3 : Int) := od_
       have q565 : x29_3 < (x5_3.length : Int) := od_
       obtain ⟨ad565, e565, hx565_0⟩ := Kd.at_int (Kd.R_reads' HO_5.out).2.2 x29_3 p565 q565
       obtain rfl : (⟨go15, 0, none⟩ : Addr) = ad565 := (by injection e565)
       (first | simp only [add_plain] at hx565_0 | simp only [add_at] at hx565_0 | simp only [Addr.add, Nat.zero_add] at hx565_0 | skip)
       replace p565 := eq_true p565
       replace q565 := eq_true q565
       go_wp2
       go_loopg [7, 38] k3 (fun kq v7 v38 w' => ∃ (x5_4 : List Int) (x7_4 : Bool) (x38_4 : Int), v7 = .bool x7_4 ∧ v38 = .int .i64 x38_4 ∧ Aside0 (impl_leasts.l3 kq l0 a1 x5_4 x7_4 x29_3 (rd x5_3 x29_3) (x5_2.length : Int) x29_3 l0 (l0.length : Int) x38_4 = some r) ∧ Aside0 (kq ≤ k3) ∧ Aside0 (Kd.R (Kd.int .i64) 3 w' w.heap.size (fun _ => True) (.slice (some ⟨go15, 0, none⟩) x5_3.length co7) x5_4) ∧ Aside0 (Below w.heap.size w w'))
       case atStart => exact ⟨(x5_3), (x7_3), (0), rs_, rs_, H', ⟨Nat.le_refl _⟩, ⟨by (try simp only [hl5_1]); (try simp only [hl5_2]); (try simp only [hl5_3]); (with_reducible repeat (first | apply Kd.R_alloc | apply Kd.R_drewN | apply Kd.R_drew)); exact HO_5.out⟩, ⟨bl_ HB.out⟩⟩
       case round =>
        clear H'
        try clear c19b0
        try clear c20b0
        try clear c21b0
        try clear c22b0
        try clear hx565_0
        try clear p565
        try clear q565
        obtain ⟨x5_4, x7_4, x38_4, rfl, rfl, HA, HK4, HO_5, HB⟩ := hrel
        have hl5_4 := (Kd.R_reads' HO_5.out).1
        rw [hl5_4] at HO_5
        (try simp only [hl5_4])
        cases gk with
        | zero => exact absurd HA.out (by simp [impl_leasts.l3])
        | succ k4 =>
         have H := HA.out
         clear HA
         simp only [impl_leasts.l3] at H
         by_cases c23 : x38_4 < (l0.length : Int)
         rotate_left
         · rw [if_neg c23] at H
           have c23b0 : decide (x38_4 < (l0.length : Int)) = false := decide_eq_false c23
           (try (have c23h := c23b0; simp only [hl5_1, hl5_2, hl5_3, hl5_4] at c23h))
           clear c23
           have H' := Aside0.mk H
           clear H
           go_wp2
           (try simp only [← hl5_3, ← hl5_4])
           go_roundg k4
           case measure => have := HK1.out; have := HK2.out; have := HK3.out; have := HK4.out; omega
           case rel => exact ⟨(x5_4), (x7_4), (wrap64 (x29_3 + 1)), rs_, rs_, H', ⟨by have := HK1.out; have := HK2.out; have := HK3.out; have := HK4.out; omega⟩, ⟨by (try simp only [hl5_1]); (try simp only [hl5_2]); (try simp only [hl5_3]); (try simp only [hl5_4]); (with_reducible repeat (first | apply Kd.R_alloc | apply Kd.R_drewN | apply Kd.R_drew)); exact HO_5.out⟩, ⟨bl_ HB.out⟩⟩
         rw [if_pos c23] at H
         have c23b0 : decide (x38_4 < (l0.length : Int)) = true := decide_eq_true c23
         (try (have c23h := c23b0; simp only [hl5_1, hl5_2, hl5_3, hl5_4] at c23h))
         clear c23
         obtain ⟨c24b0, H⟩ := ipd_ H
         obtain ⟨c25, H⟩ := ip_ H
         have c25b0 : decide (x38_4 < (l0.length : Int)) = true := decide_eq_true c25
         (try (have c25h := c25b0; simp only [hl5_1, hl5_2, hl5_3, hl5_4] at c25h))
         clear c25
         obtain ⟨c26, H⟩ := in_ H
         have c26b0 : (a1 == 0) = false := beq_eq_false_iff_ne.mpr c26
         have c26b1 : (a1 != 0) = true := bne_iff_ne.mpr c26
         obtain ⟨ji27, hji27⟩ : ∃ j_ : Int, (Int.tmod (wrap64 (x29_3 + (rd l0 x38_4))) a1) = j_ := ⟨_, rfl⟩
         replace H : (if 0 ≤ (ji27) then (if (ji27) < (x5_4.length : Int) then (if (rd x5_4 (ji27)) < 0 then (impl_leasts.l3 k4 l0 a1 (x5_4.set ((ji27) : Int).toNat (wrap64 ((rd x5_3 x29_3) + (rd l0 x38_4)))) true x29_3 (rd x5_3 x29_3) (x5_2.length : Int) x29_3 l0 (l0.length : Int) (wrap64 (x38_4 + 1))) else (if (wrap64 ((rd x5_3 x29_3) + (rd l0 x38_4))) < (rd x5_4 (ji27)) then (impl_leasts.l3 k4 l0 a1 (x5_4.set ((ji27) : Int).toNat (wrap64 ((rd x5_3 x29_3) + (rd l0 x38_4)))) true x29_3 (rd x5_3 x29_3) (x5_2.length : Int) x29_3 l0 (l0.length : Int) (wrap64 (x38_4 + 1))) else (impl_leasts.l3 k4 l0 a1 x5_4 x7_4 x29_3 (rd x5_3 x29_3) (x5_2.length : Int) x29_3 l0 (l0.length : Int) (wrap64 (x38_4 + 1))))) else (none)) else (none)) = some r := by first | (rw [hji27] at H; exact H) | (simp only [hji27] at H ⊢; exact H)
         obtain ⟨c28b0, H⟩ := ipd_ H
         obtain ⟨c29, H⟩ := ip_ H
         have c29b0 : decide ((ji27) < (x5_4.length : Int)) = true := decide_eq_true c29
         (try (have c29h := c29b0; simp only [hl5_1, hl5_2, hl5_3, hl5_4] at c29h))
         clear c29
         by_cases c30 : (rd x5_4 (ji27)) < 0
         · rw [if_pos c30] at H
           have c30b0 : decide ((rd x5_4 (ji27)) < 0) = true := decide_eq_true c30
           clear c30
           obtain ⟨y568, hy568⟩ : ∃ y_ : List Int, y_ = (x5_4.set ((ji27) : Int).toNat (wrap64 ((rd x5_3 x29_3) + (rd l0 x38_4)))) := ⟨_, rfl⟩
           replace H : (impl_leasts.l3 k4 l0 a1 y568 true x29_3 (rd x5_3 x29_3) (x5_2.length : Int) x29_3 l0 (l0.length : Int) (wrap64 (x38_4 + 1))) = some r := by subst hy568; exact H
           have Ny568 := Aside0.mk hy568
           clear hy568
           have H' := Aside0.mk H
           clear H
           have p566 : 0 ≤ (x38_4 : Int) := od_
           have q566 : x38_4 < (l0.length : Int) := od_
           obtain ⟨ad566, e566, hx566_0⟩ := Kd.at_int HR0.out x38_4 p566 q566
           cases e566
           (try replace hx566_0 := (HB.out.cell (World.block_lt_of_cell? w _ hx566_0)).trans hx566_0)
           replace p566 := eq_true p566
           replace q566 := eq_true q566
           have p567 : 0 ≤ ((ji27) : Int) := od_
           have q567 : (ji27) < (x5_4.length : Int) := od_
           obtain ⟨ad567, e567, hx567_0⟩ := Kd.at_int (Kd.R_reads' HO_5.out).2.2 (ji27) p567 q567
           obtain rfl : (⟨go15, 0, none⟩ : Addr) = ad567 := (by injection e567)
           (first | simp only [add_plain] at hx567_0 | simp only [add_at] at hx567_0 | simp only [Addr.add, Nat.zero_add] at hx567_0 | skip)
           replace p567 := eq_true p567
           replace q567 := eq_true q567
           have p31 : 0 ≤ ((ji27) : Int) := od_
           have q31 : ((ji27) : Int) < ((x5_4.length : Int) : Int) := od_
           obtain ⟨hx31_0, hf31_0⟩ := Kd.R_celln 0 HO_5.out ((ji27) : Int) p31 q31
           replace p31 := eq_true p31
           replace q31 := eq_true q31
           have HP32 := Kd.R_putg HO_5.out ((ji27) : Int) (wrap64 ((rd x5_3 x29_3) + (rd l0 x38_4)))
           go_wp2_with (first | ((with_reducible refine gate_store (t := 3) (p := 67) rfl ?_); refine store_event (t := 3) (p := 67) (v := ?vo_w33) (w1 := (wr.setCell ⟨go15, ((ji27) : Int).toNat, none⟩ (.int .i64 (wrap64 ((rd x5_3 x29_3) + (rd l0 x38_4)))))) ?hg ?ho ?hn ?hr ?_; (case ho => rfl); (case hg => rfl); (case hn => rfl); (case hr => first | (go_simp; done) | (go_simp; rfl)); intro w33 hw; have hg : wr.grownBy w33 (some go15) := (by rw [hw]; exact HP32.2); have hp_ : Kd.R (Kd.int .i64) 3 w33 w.heap.size (fun _ => True) (.slice (some ⟨go15, 0, none⟩) x5_4.length co7) y568 := (by rw [hw, Ny568.out]; exact HP32.1); clear HP32; replace HO_5 := Aside0.mk (hp_); replace HB := Aside0.mk ((by rw [hw]; exact below_set (HB.out) GB15.out : Below w.heap.size w w33)); clear hg hw hp_))
           (try simp only [← hl5_4])
           go_roundg k4
           case measure => have := HK1.out; have := HK2.out; have := HK3.out; have := HK4.out; omega
           case rel => exact ⟨(y568), (true), (wrap64 (x38_4 + 1)), rs_, rs_, H', ⟨by have := HK1.out; have := HK2.out; have := HK3.out; have := HK4.out; omega⟩, ⟨by (try simp only [hl5_1]); (try simp only [hl5_2]); (try simp only [hl5_3]); (try simp only [hl5_4]); (with_reducible repeat (first | apply Kd.R_alloc | apply Kd.R_drewN | apply Kd.R_drew)); exact HO_5.out⟩, ⟨bl_ HB.out⟩⟩
         rw [if_neg c30] at H
         have c30b0 : decide ((rd x5_4 (ji27)) < 0) = false := decide_eq_false c30
         clear c30
         by_cases c34 : (wrap64 ((rd x5_3 x29_3) + (rd l0 x38_4))) < (rd x5_4 (ji27))
         rotate_left
         · rw [if_neg c34] at H
           have c34b0 : decide ((wrap64 ((rd x5_3 x29_3) + (rd l0 x38_4))) < (rd x5_4 (ji27))) = false := decide_eq_false c34
           clear c34
           have H' := Aside0.mk H
           clear H
           have p566 : 0 ≤ (x38_4 : Int) := od_
           have q566 : x38_4 < (l0.length : Int) := od_
           obtain ⟨ad566, e566, hx566_0⟩ := Kd.at_int HR0.out x38_4 p566 q566
           cases e566
           (try replace hx566_0 := (HB.out.cell (World.block_lt_of_cell? w _ hx566_0)).trans hx566_0)
           replace p566 := eq_true p566
           replace q566 := eq_true q566
           have p567 : 0 ≤ ((ji27) : Int) := od_
           have q567 : (ji27) < (x5_4.length : Int) := od_
           obtain ⟨ad567, e567, hx567_0⟩ := Kd.at_int (Kd.R_reads' HO_5.out).2.2 (ji27) p567 q567
           obtain rfl : (⟨go15, 0, none⟩ : Addr) = ad567 := (by injection e567)
           (first | simp only [add_plain] at hx567_0 | simp only [add_at] at hx567_0 | simp only [Addr.add, Nat.zero_add] at hx567_0 | skip)
           replace p567 := eq_true p567
           replace q567 := eq_true q567
           have p569 : 0 ≤ ((ji27) : Int) := od_
           have q569 : (ji27) < (x5_4.length : Int) := od_
           obtain ⟨ad569, e569, hx569_0⟩ := Kd.at_int (Kd.R_reads' HO_5.out).2.2 (ji27) p569 q569
           obtain rfl : (⟨go15, 0, none⟩ : Addr) = ad569 := (by injection e569)
           (first | simp only [add_plain] at hx569_0 | simp only [add_at] at hx569_0 | simp only [Addr.add, Nat.zero_add] at hx569_0 | skip)
           replace p569 := eq_true p569
           replace q569 := eq_true q569
           go_wp2
           (try simp only [← hl5_4])
           go_roundg k4
           case measure => have := HK1.out; have := HK2.out; have := HK3.out; have := HK4.out; omega
           case rel => exact ⟨(x5_4), (x7_4), (wrap64 (x38_4 + 1)), rs_, rs_, H', ⟨by have := HK1.out; have := HK2.out; have := HK3.out; have := HK4.out; omega⟩, ⟨by (try simp only [hl5_1]); (try simp only [hl5_2]); (try simp only [hl5_3]); (try simp only [hl5_4]); (with_reducible repeat (first | apply Kd.R_alloc | apply Kd.R_drewN | apply Kd.R_drew)); exact HO_5.out⟩, ⟨bl_ HB.out⟩⟩
         rw [if_pos c34] at H
         have c34b0 : decide ((wrap64 ((rd x5_3 x29_3) + (rd l0 x38_4))) < (rd x5_4 (ji27))) = true := decide_eq_true c34
         clear c34
         obtain ⟨y570, hy570⟩ : ∃ y_ : List Int, y_ = (x5_4.set ((ji27) : Int).toNat (wrap64 ((rd x5_3 x29_3) + (rd l0 x38_4)))) := ⟨_, rfl⟩
         replace H : (impl_leasts.l3 k4 l0 a1 y570 true x29_3 (rd x5_3 x29_3) (x5_2.length : Int) x29_3 l0 (l0.length : Int) (wrap64 (x38_4 + 1))) = some r := by subst hy570; exact H
         have Ny570 := Aside0.mk hy570
         clear hy570
         have H' := Aside0.mk H
         clear H
         have p566 : 0 ≤ (x38_4 : Int) := od_
         have q566 : x38_4 < (l0.length : Int) := od_
         obtain ⟨ad566, e566, hx566_0⟩ := Kd.at_int HR0.out x38_4 p566 q566
         cases e566
         (try replace hx566_0 := (HB.out.cell (World.block_lt_of_cell? w _ hx566_0)).trans hx566_0)
         replace p566 := eq_true p566
         replace q566 := eq_true q566
         have p567 : 0 ≤ ((ji27) : Int) := od_
         have q567 : (ji27) < (x5_4.length : Int) := od_
         obtain ⟨ad567, e567, hx567_0⟩ := Kd.at_int (Kd.R_reads' HO_5.out).2.2 (ji27) p567 q567
         obtain rfl : (⟨go15, 0, none⟩ : Addr) = ad567 := (by injection e567)
         (first | simp only [add_plain] at hx567_0 | simp only [add_at] at hx567_0 | simp only [Addr.add, Nat.zero_add] at hx567_0 | skip)
         replace p567 := eq_true p567
         replace q567 := eq_true q567
         have p569 : 0 ≤ ((ji27) : Int) := od_
         have q569 : (ji27) < (x5_4.length : Int) := od_
         obtain ⟨ad569, e569, hx569_0⟩ := Kd.at_int (Kd.R_reads' HO_5.out).2.2 (ji27) p569 q569
         obtain rfl : (⟨go15, 0, none⟩ : Addr) = ad569 := (by injection e569)
         (first | simp only [add_plain] at hx569_0 | simp only [add_at] at hx569_0 | simp only [Addr.add, Nat.zero_add] at hx569_0 | skip)
         replace p569 := eq_true p569
         replace q569 := eq_true q569
         have p35 : 0 ≤ ((ji27) : Int) := od_
         have q35 : ((ji27) : Int) < ((x5_4.length : Int) : Int) := od_
         obtain ⟨hx35_0, hf35_0⟩ := Kd.R_celln 0 HO_5.out ((ji27) : Int) p35 q35
         replace p35 := eq_true p35
         replace q35 := eq_true q35
         have HP36 := Kd.R_putg HO_5.out ((ji27) : Int) (wrap64 ((rd x5_3 x29_3) + (rd l0 x38_4)))
         go_wp2_with (first | ((with_reducible refine gate_store (t := 3) (p := 67) rfl ?_); refine store_event (t := 3) (p := 67) (v := ?vo_w37) (w1 := (wr.setCell ⟨go15, ((ji27) : Int).toNat, none⟩ (.int .i64 (wrap64 ((rd x5_3 x29_3) + (rd l0 x38_4)))))) ?hg ?ho ?hn ?hr ?_; (case ho => rfl); (case hg => rfl); (case hn => rfl); (case hr => first | (go_simp; done) | (go_simp; rfl)); intro w37 hw; have hg : wr.grownBy w37 (some go15) := (by rw [hw]; exact HP36.2); have hp_ : Kd.R (Kd.int .i64) 3 w37 w.heap.size (fun _ => True) (.slice (some ⟨go15, 0, none⟩) x5_4.length co7) y570 := (by rw [hw, Ny570.out]; exact HP36.1); clear HP36; replace HO_5 := Aside0.mk (hp_); replace HB := Aside0.mk ((by rw [hw]; exact below_set (HB.out) GB15.out : Below w.heap.size w w37)); clear hg hw hp_))
         (try simp only [← hl5_4])
         go_roundg k4
         case measure => have := HK1.out; have := HK2.out; have := HK3.out; have := HK4.out; omega
         case rel => exact ⟨(y570), (true), (wrap64 (x38_4 + 1)), rs_, rs_, H', ⟨by have := HK1.out; have := HK2.out; have := HK3.out; have := HK4.out; omega⟩, ⟨by (try simp only [hl5_1]); (try simp only [hl5_2]); (try simp only [hl5_3]); (try simp only [hl5_4]); (with_reducible repeat (first | apply Kd.R_alloc | apply Kd.R_drewN | apply Kd.R_drew)); exact HO_5.out⟩, ⟨bl_ HB.out⟩⟩
def impl_usable.f (k : Nat) (l0 : List Int) : Option (Bool) := (impl_within.f (l0.length : Int) 1 20).bind fun t571 => (if t571 = true then ((impl_allWithin.f k l0 1 60).bind fun t572 => (some t572)) else (some false))
theorem impl_usable.calls (k : Nat) (A0 : Option Addr) (c0 : Nat) (l0 : List Int) (r : Bool) (w : World) (hr0 : Kd.C (Kd.int .i64) w A0 l0.length l0) (hc0 : l0.length ≤ c0) (h : impl_usable.f k l0 = some r) :
 Calls Try.prog 68 #[.slice A0 l0.length c0] w fun e w' => e = .returned (.bool r) ∧ Drawn0 w w' := by
 have HR0 := Aside0.mk hr0
 have HC0 := Aside0.mk hc0
 clear hr0 hc0
 have H := h
 clear h
 unfold impl_usable.f at H
 obtain ⟨t571, A2, H⟩ := ob_ H
 by_cases c3 : t571 = true
 rotate_left
 · replace c3 := Bool.eq_false_iff.mpr c3
   subst c3
   rw [if_neg (show ¬ (false = true) by decide)] at H
   obtain rfl := Option.some.inj H
   go_enter Try.func68, Try.ntmps68
   go_wp2_with (first | ((with_reducible refine gate_callee (f := 42) rfl ?_); refine gL_ (some 5) Try.func42 #[.int .i64 (l0.length : Int), .int .i64 1, .int .i64 20] ?_; (with_reducible refine (impl_within.calls (l0.length : Int) 1 20 false _ A2.out).mono ?_); rintro e w' ⟨rfl, ⟨nd, rfl⟩⟩; refine ⟨_, rfl, ?_⟩))
   go_ret
   exact ⟨by first | rfl | (simp; done) | (simp [*]; done), by repeat (first | exact Drawn0.refl _ | apply Drawn0.step)⟩
 subst c3
 rw [if_pos rfl] at H
 obtain ⟨t572, A4, H⟩ := ob_ H
 obtain rfl := Option.some.inj H
 go_enter Try.func68, Try.ntmps68
 go_wp2_with (first | ((with_reducible refine gate_callee (f := 42) rfl ?_); refine gL_ (some 5) Try.func42 #[.int .i64 (l0.length : Int), .int .i64 1, .int .i64 20] ?_; (with_reducible refine (impl_within.calls (l0.length : Int) 1 20 true _ A2.out).mono ?_); rintro e w' ⟨rfl, ⟨nd, rfl⟩⟩; refine ⟨_, rfl, ?_⟩) | (go_at_call 46; (with_reducible refine (impl_allWithin.calls k _ _ l0 1 60 t572 _ ?side1 ?side2 A4.out).mono ?_); (case side1 => exact ce_ (HR0.out)); (case side2 => exact HC0.out); rintro e w' ⟨rfl, ⟨nd, rfl⟩⟩))
 go_ret
 exact ⟨by first | rfl | (simp; done) | (simp [*]; done), by repeat (first | exact Drawn0.refl _ | apply Drawn0.step)⟩
def impl_Generates.f (k : Nat) (l0 : List Int) (a1 : Int) : Option (Bool) := (impl_usable.f k l0).bind fun t573 => (if t573 = true then ((impl_within.f a1 0 1000000).bind fun t574 => (if t574 = true then (if 0 < (l0.length : Int) then ((impl_leasts.f k l0 (rd l0 0)).bind fun t576 => (if (rd l0 0) = 0 then (none) else (if 0 ≤ (Int.tmod a1 (rd l0 0)) then (if (Int.tmod a1 (rd l0 0)) < (t576.length : Int) then (if (rd t576 (Int.tmod a1 (rd l0 0))) ≥ 0 then (some (decide ((rd t576 (Int.tmod a1 (rd l0 0))) ≤ a1))) else (some false)) else (none)) else (none)))) else (none)) else (some false))) else (some false))
def impl_Generates.T3 : Bool × List (List Nat × List Nat) := (true, [([], []), ([], []), ([1], [1]), ([2], [2]), ([0, 3], [0, 3]), ([], []), ([], []), ([6], [6]), ([7], [7]), ([5, 8], [5, 8]), ([4, 9], [4, 9]), ([10], [10]), ([11, 4, 0, 1, 2, 3, 4, 5, 6, 7, 8, 9, 10, 11], [11])])
def impl_Generates.B3 : List Nat := [0, 0, 2, 6, 15, 0, 0, 64, 192, 480, 1023, 2047, 4095]
theorem impl_Generates.tab3 : rtab .any (opsOf Try.f49 3) = impl_Generates.T3 := by kernel_rfl
theorem impl_Generates.bits3 : waitsOk impl_Generates.T3.2 impl_Generates.B3 = true := by kernel_rfl
theorem impl_Generates.calls (k : Nat) (A0 : Option Addr) (c0 : Nat) (l0 : List Int) (a1 : Int) (r : Bool) (w : World) (hr0 : Kd.C (Kd.int .i64) w A0 l0.length l0) (hc0 : l0.length ≤ c0) (h : impl_Generates.f k l0 a1 = some r) :
 Calls Try.prog 49 #[.slice A0 l0.length c0, .int .i64 a1] w fun e w' => e = .returned (.bool r) ∧ Below w.heap.size w w' := by
 have HR0 := Aside0.mk hr0
 have HC0 := Aside0.mk hc0
 clear hr0 hc0
 have HB := Aside0.mk (Below.refl w.heap.size w)
 have H := h
 clear h
 unfold impl_Generates.f at H
 obtain ⟨t573, A3, H⟩ := ob_ H
 by_cases c4 : t573 = true
 rotate_left
 · replace c4 := Bool.eq_false_iff.mpr c4
   subst c4
   rw [if_neg (show ¬ (false = true) by decide)] at H
   obtain rfl := Option.some.inj H
   go_enter Try.func49, Try.ntmps49
   go_wp2_with (first | ((with_reducible refine gate_callee (f := 68) rfl ?_); refine gL_ (some 7) Try.func68 #[.slice A0 l0.length c0] ?_; (with_reducible refine (impl_usable.calls k _ _ l0 false _ ?side1 ?side2 A3.out).mono ?_); (case side1 => exact ce_ (HR0.out)); (case side2 => exact HC0.out); rintro e w' ⟨rfl, ⟨nd, rfl⟩⟩; refine ⟨_, rfl, ?_⟩))
   go_ret
   exact ⟨rf_, bl_ HB.out⟩
 subst c4
 rw [if_pos rfl] at H
 obtain ⟨t574, A5, H⟩ := ob_ H
 by_cases c6 : t574 = true
 rotate_left
 · replace c6 := Bool.eq_false_iff.mpr c6
   subst c6
   rw [if_neg (show ¬ (false = true) by decide)] at H
   obtain rfl := Option.some.inj H
   go_enter Try.func49, Try.ntmps49
   go_wp2_with (first | ((with_reducible refine gate_callee (f := 68) rfl ?_); refine gL_ (some 7) Try.func68 #[.slice A0 l0.length c0] ?_; (with_reducible refine (impl_usable.calls k _ _ l0 true _ ?side1 ?side2 A3.out).mono ?_); (case side1 => exact ce_ (HR0.out)); (case side2 => exact HC0.out); rintro e w' ⟨rfl, ⟨nd, rfl⟩⟩; refine ⟨_, rfl, ?_⟩) | (go_at_call 42; (with_reducible refine (impl_within.calls a1 0 1000000 false _ A5.out).mono ?_); rintro e w' ⟨rfl, ⟨nd, rfl⟩⟩))
   go_ret
   exact ⟨rf_, bl_ HB.out⟩
 subst c6
 rw [if_pos rfl] at H
 obtain ⟨c7, H⟩ := ip_ H
 have c7b0 : decide (0 < (l0.length : Int)) = true := decide_eq_true c7
 have c7b1 : decide (0 < l0.length) = true := decide_eq_true (by omega)
 clear c7
 obtain ⟨t576, A8, H⟩ := ob_ H
 obtain ⟨c9, H⟩ := in_ H
 have c9b0 : ((rd l0 0) == 0) = false := beq_eq_false_iff_ne.mpr c9
 have c9b1 : ((rd l0 0) != 0) = true := bne_iff_ne.mpr c9
 obtain ⟨ji10, hji10⟩ : ∃ j_ : Int, (Int.tmod a1 (rd l0 0)) = j_ := ⟨_, rfl⟩
 replace H : (if 0 ≤ (ji10) then (if (ji10) < (t576.length : Int) then (if (rd t576 (ji10)) ≥ 0 then (some (decide ((rd t576 (ji10)) ≤ a1))) else (some false)) else (none)) else (none)) = some r := by first | (rw [hji10] at H; exact H) | (simp only [hji10] at H ⊢; exact H)
 (try rw [hji10] at A3)
 (try rw [hji10] at A5)
 (try rw [hji10] at A8)
 obtain ⟨c11b0, H⟩ := ipd_ H
 obtain ⟨c12b0, H⟩ := ipd_ H
 by_cases c13 : (rd t576 (ji10)) ≥ 0
 rotate_left
 · rw [if_neg c13] at H
   have c13b0 : decide (0 ≤ (rd t576 (ji10))) = false := decide_eq_false c13
   clear c13
   obtain rfl := Option.some.inj H
   go_enter Try.func49, Try.ntmps49
   try go_wp2_with (first | ((with_reducible refine gate_callee (f := 68) rfl ?_); refine gL_ (some 7) Try.func68 #[.slice A0 l0.length c0] ?_; (with_reducible refine (impl_usable.calls k _ _ l0 true _ ?side1 ?side2 A3.out).mono ?_); (case side1 => exact ce_ (HR0.out)); (case side2 => exact HC0.out); rintro e w' ⟨rfl, ⟨nd, rfl⟩⟩; refine ⟨_, rfl, ?_⟩) | (go_at_call 42; (with_reducible refine (impl_within.calls a1 0 1000000 true _ A5.out).mono ?_); rintro e w' ⟨rfl, ⟨nd, rfl⟩⟩))
   replace HB := Aside0.mk (below_drew1 HB.out)
   have p575 : 0 ≤ (0 : Int) := (by omega)
   have q575 : 0 < (l0.length : Int) := od_
   obtain ⟨ad575, e575, hx575_0⟩ := Kd.at_int HR0.out 0 p575 q575
   have hw575_0 := hx575_0
   (try rw [show ((0 : Int)).toNat = 0 from rfl] at hw575_0)
   (try rw [show 0 * 1 = 0 from rfl] at hw575_0)
   (try rw [Addr.add_zero'] at hw575_0)
   cases e575
   have qi575 : (0 < l0.length) = True := eq_true (by omega)
   (try rw [show ((0 : Int)).toNat = 0 from rfl] at hx575_0)
   (try rw [Addr.add_zero'] at hx575_0)
   (try replace hx575_0 := (HB.out.cell (World.block_lt_of_cell? w _ hx575_0)).trans hx575_0)
   replace p575 := eq_true p575
   replace q575 := eq_true q575
   have p579 : 0 ≤ (0 : Int) := (by omega)
   have q579 : 0 < (l0.length : Int) := od_
   obtain ⟨ad579, e579, hx579_0⟩ := Kd.at_int HR0.out 0 p579 q579
   have hw579_0 := hx579_0
   (try rw [show ((0 : Int)).toNat = 0 from rfl] at hw579_0)
   (try rw [show 0 * 1 = 0 from rfl] at hw579_0)
   (try rw [Addr.add_zero'] at hw579_0)
   obtain rfl : ad575 = ad579 := (by injection e579)
   have qi579 : (0 < l0.length) = True := eq_true (by omega)
   (try rw [show ((0 : Int)).toNat = 0 from rfl] at hx579_0)
   (try rw [Addr.add_zero'] at hx579_0)
   (try replace hx579_0 := (HB.out.cell (World.block_lt_of_cell? w _ hx579_0)).trans hx579_0)
   replace p579 := eq_true p579
   replace q579 := eq_true q579
   refine start_ (n := 13) (S := fun w' => w'.cell? ad575 = some (.int .i64 (rd l0 0)) ∧ w'.cell? ad575 = some (.int .i64 (rd l0 0)) ∧ True) (ds := []) (B_ 0 13) (by kernel_rfl) rfl rfl ⟨((HB.out.cell (World.block_lt_of_cell? w _ hw575_0)).trans hw575_0), ((HB.out.cell (World.block_lt_of_cell? w _ hw579_0)).trans hw579_0), trivial⟩ (fun hHeld => ?_); refine with_tabW impl_Generates.tab3 impl_Generates.bits3 (fun HT_ HW_ => ?_)
   (first | (generalize hq_ : World.drew (World.drewN w _) = w17 at hHeld ⊢; have HBq_ : Aside0 (Below w.heap.size w w17) := ⟨hq_ ▸ (below_drew1 (pw_below_drewN (Below.refl w.heap.size w) _))⟩; clear hq_ HB; have HB := HBq_; clear HBq_; replace hx575_0 := (HB.out.cell (World.block_lt_of_cell? w _ hw575_0)).trans hw575_0; replace hx579_0 := (HB.out.cell (World.block_lt_of_cell? w _ hw579_0)).trans hw579_0) | (generalize w.drew = w17 at HB hx575_0 hx579_0 hHeld ⊢))
   refine pu_ HT_ 0 14 (B_ 1 13) ?_
   refine pu_ HT_ 1 15 (B_ 3 13) ?_
   refine pu_ HT_ 2 16 (B_ 7 13) ?_
   refine pu_ HT_ 5 19 (B_ 39 13) ?_
   refine pu_ HT_ 6 20 (B_ 103 13) ?_
   refine pu_ HT_ 7 21 (B_ 231 13) ?_
   refine tk3_ HT_ HW_ hHeld 3 17 (B_ 239 13) ?_
   refine tk3_ HT_ HW_ hHeld 8 22 (B_ 495 13) ?_
   refine pu_ HT_ 9 23 (B_ 1007 13) ?_
   refine on_ HT_ 4 18 (B_ 1023 13) (fun K hK => ?_)
   refine goes_ Try.func50 (by kernel_rfl) rfl #[.slice (some ad575) l0.length c0, .int .i64 (rd l0 0)] (by rfl) rfl rfl (by (try simp only [List.map_toArray, List.map_cons, List.map_nil]); first | done | rfl | (simp only [List.length_drop, List.length_take]; rfl)) ?_
   with_reducible refine (impl_leasts.calls k _ _ l0 (rd l0 0) t576 _ ?side1 ?side2 A8.out).mono ?_
   (case side1 => exact ch_ HR0 HB)
   (case side2 => exact HC0.out)
   rintro e w18 ⟨v577, rfl, ho0, hb⟩
   refine ⟨_, rfl, ?_⟩
   have HO578 := Aside0.mk (Kd.R_lower ho0 (below_size (bl_ HB.out)))
   replace HB := bo_ HB hb
   (try clear hb)
   (try clear ho0)
   obtain ⟨Ao19, co19, eo19⟩ := Kd.R_slice HO578.out
   (first | subst eo19 | (injection eo19 with f1_ f2_ f3_; have f4_ := f1_.symm; have f5_ := f3_.symm; clear f1_ f2_ f3_; subst f4_; subst f5_))
   have p580 : 0 ≤ ((ji10) : Int) := od_
   have q580 : (ji10) < (t576.length : Int) := od_
   obtain ⟨ad580, e580, hx580_0⟩ := Kd.at_int (Kd.R_reads' HO578.out).2.2 (ji10) p580 q580
   cases e580
   replace p580 := eq_true p580
   replace q580 := eq_true q580
   refine hK.out _ _ ⟨((HB.out.cell (World.block_lt_of_cell? w _ hw575_0)).trans hw575_0), ((HB.out.cell (World.block_lt_of_cell? w _ hw579_0)).trans hw579_0), trivial⟩ (fun _ => ?_); refine restart_ (S' := fun w' => w'.cell? ad575 = some (.int .i64 (rd l0 0)) ∧ w'.cell? ad575 = some (.int .i64 (rd l0 0)) ∧ w'.cell? (ad580.add ((ji10)).toNat) = some (.int .i64 (rd t576 (ji10)))) (fun _ h => ⟨h.1, h.2.1, trivial⟩) ⟨((HB.out.cell (World.block_lt_of_cell? w _ hw575_0)).trans hw575_0), ((HB.out.cell (World.block_lt_of_cell? w _ hw579_0)).trans hw579_0), hx580_0⟩ (fun hHeld => ?_)
   clear hK K
   refine norm_ (a' := ?_) ?_ ?_
   rotate_left
   · show Act.put _ (some 18) _ = _
     simp only [Act.put, z1_, z2_, z3_, i64_w, i32_w]
     rfl
   refine pu_ HT_ 10 24 (B_ 2047 13) ?_
   refine tk3_ HT_ HW_ hHeld 11 25 (B_ 4095 13) ?_
   refine pu_ HT_ 12 5 (B_ 8191 13) ?_
   refine done_ (done_of HT_.out (by kernel_rfl)) ?_
   try go_wp2
   go_ret
   exact ⟨by first | rfl | (simp [errW_none, errW_some] <;> rfl) | (simp only [← hji10]; first | rfl | (simp [errW_none, errW_some] <;> rfl)) | (simp [*, errW_none, errW_some] <;> rfl), bl_ HB.out⟩
 rw [if_pos c13] at H
 have c13b0 : decide (0 ≤ (rd t576 (ji10))) = true := decide_eq_true c13
 clear c13
 obtain rfl := Option.some.inj H
 go_enter Try.func49, Try.ntmps49
 try go_wp2_with (first | ((with_reducible refine gate_callee (f := 68) rfl ?_); refine gL_ (some 7) Try.func68 #[.slice A0 l0.length c0] ?_; (with_reducible refine (impl_usable.calls k _ _ l0 true _ ?side1 ?side2 A3.out).mono ?_); (case side1 => exact ce_ (HR0.out)); (case side2 => exact HC0.out); rintro e w' ⟨rfl, ⟨nd, rfl⟩⟩; refine ⟨_, rfl, ?_⟩) | (go_at_call 42; (with_reducible refine (impl_within.calls a1 0 1000000 true _ A5.out).mono ?_); rintro e w' ⟨rfl, ⟨nd, rfl⟩⟩))
 replace HB := Aside0.mk (below_drew1 HB.out)
 have p575 : 0 ≤ (0 : Int) := (by omega)
 have q575 : 0 < (l0.length : Int) := od_
 obtain ⟨ad575, e575, hx575_0⟩ := Kd.at_int HR0.out 0 p575 q575
 have hw575_0 := hx575_0
 (try rw [show ((0 : Int)).toNat = 0 from rfl] at hw575_0)
 (try rw [show 0 * 1 = 0 from rfl] at hw575_0)
 (try rw [Addr.add_zero'] at hw575_0)
 cases e575
 have qi575 : (0 < l0.length) = True := eq_true (by omega)
 (try rw [show ((0 : Int)).toNat = 0 from rfl] at hx575_0)
 (try rw [Addr.add_zero'] at hx575_0)
 (try replace hx575_0 := (HB.out.cell (World.block_lt_of_cell? w _ hx575_0)).trans hx575_0)
 replace p575 := eq_true p575
 replace q575 := eq_true q575
 have p579 : 0 ≤ (0 : Int) := (by omega)
 have q579 : 0 < (l0.length : Int) := od_
 obtain ⟨ad579, e579, hx579_0⟩ := Kd.at_int HR0.out 0 p579 q579
 have hw579_0 := hx579_0
 (try rw [show ((0 : Int)).toNat = 0 from rfl] at hw579_0)
 (try rw [show 0 * 1 = 0 from rfl] at hw579_0)
 (try rw [Addr.add_zero'] at hw579_0)
 obtain rfl : ad575 = ad579 := (by injection e579)
 have qi579 : (0 < l0.length) = True := eq_true (by omega)
 (try rw [show ((0 : Int)).toNat = 0 from rfl] at hx579_0)
 (try rw [Addr.add_zero'] at hx579_0)
 (try replace hx579_0 := (HB.out.cell (World.block_lt_of_cell? w _ hx579_0)).trans hx579_0)
 replace p579 := eq_true p579
 replace q579 := eq_true q579
 refine start_ (n := 13) (S := fun w' => w'.cell? ad575 = some (.int .i64 (rd l0 0)) ∧ w'.cell? ad575 = some (.int .i64 (rd l0 0)) ∧ True) (ds := []) (B_ 0 13) (by kernel_rfl) rfl rfl ⟨((HB.out.cell (World.block_lt_of_cell? w _ hw575_0)).trans hw575_0), ((HB.out.cell (World.block_lt_of_cell? w _ hw579_0)).trans hw579_0), trivial⟩ (fun hHeld => ?_); refine with_tabW impl_Generates.tab3 impl_Generates.bits3 (fun HT_ HW_ => ?_)
 (first | (generalize hq_ : World.drew (World.drewN w _) = w14 at hHeld ⊢; have HBq_ : Aside0 (Below w.heap.size w w14) := ⟨hq_ ▸ (below_drew1 (pw_below_drewN (Below.refl w.heap.size w) _))⟩; clear hq_ HB; have HB := HBq_; clear HBq_; replace hx575_0 := (HB.out.cell (World.block_lt_of_cell? w _ hw575_0)).trans hw575_0; replace hx579_0 := (HB.out.cell (World.block_lt_of_cell? w _ hw579_0)).trans hw579_0) | (generalize w.drew = w14 at HB hx575_0 hx579_0 hHeld ⊢))
 refine pu_ HT_ 0 14 (B_ 1 13) ?_
 refine pu_ HT_ 1 15 (B_ 3 13) ?_
 refine pu_ HT_ 2 16 (B_ 7 13) ?_
 refine pu_ HT_ 5 19 (B_ 39 13) ?_
 refine pu_ HT_ 6 20 (B_ 103 13) ?_
 refine pu_ HT_ 7 21 (B_ 231 13) ?_
 refine tk3_ HT_ HW_ hHeld 3 17 (B_ 239 13) ?_
 refine tk3_ HT_ HW_ hHeld 8 22 (B_ 495 13) ?_
 refine pu_ HT_ 9 23 (B_ 1007 13) ?_
 refine on_ HT_ 4 18 (B_ 1023 13) (fun K hK => ?_)
 refine goes_ Try.func50 (by kernel_rfl) rfl #[.slice (some ad575) l0.length c0, .int .i64 (rd l0 0)] (by rfl) rfl rfl (by (try simp only [List.map_toArray, List.map_cons, List.map_nil]); first | done | rfl | (simp only [List.length_drop, List.length_take]; rfl)) ?_
 with_reducible refine (impl_leasts.calls k _ _ l0 (rd l0 0) t576 _ ?side1 ?side2 A8.out).mono ?_
 (case side1 => exact ch_ HR0 HB)
 (case side2 => exact HC0.out)
 rintro e w15 ⟨v577, rfl, ho0, hb⟩
 refine ⟨_, rfl, ?_⟩
 have HO578 := Aside0.mk (Kd.R_lower ho0 (below_size (bl_ HB.out)))
 replace HB := bo_ HB hb
 (try clear hb)
 (try clear ho0)
 obtain ⟨Ao16, co16, eo16⟩ := Kd.R_slice HO578.out
 (first | subst eo16 | (injection eo16 with f1_ f2_ f3_; have f4_ := f1_.symm; have f5_ := f3_.symm; clear f1_ f2_ f3_; subst f4_; subst f5_))
 have p580 : 0 ≤ ((ji10) : Int) := od_
 have q580 : (ji10) < (t576.length : Int) := od_
 obtain ⟨ad580, e580, hx580_0⟩ := Kd.at_int (Kd.R_reads' HO578.out).2.2 (ji10) p580 q580
 cases e580
 replace p580 := eq_true p580
 replace q580 := eq_true q580
 refine hK.out _ _ ⟨((HB.out.cell (World.block_lt_of_cell? w _ hw575_0)).trans hw575_0), ((HB.out.cell (World.block_lt_of_cell? w _ hw579_0)).trans hw579_0), trivial⟩ (fun _ => ?_); refine restart_ (S' := fun w' => w'.cell? ad575 = some (.int .i64 (rd l0 0)) ∧ w'.cell? ad575 = some (.int .i64 (rd l0 0)) ∧ w'.cell? (ad580.add ((ji10)).toNat) = some (.int .i64 (rd t576 (ji10)))) (fun _ h => ⟨h.1, h.2.1, trivial⟩) ⟨((HB.out.cell (World.block_lt_of_cell? w _ hw575_0)).trans hw575_0), ((HB.out.cell (World.block_lt_of_cell? w _ hw579_0)).trans hw579_0), hx580_0⟩ (fun hHeld => ?_)
 clear hK K
 refine norm_ (a' := ?_) ?_ ?_
 rotate_left
 · show Act.put _ (some 18) _ = _
   simp only [Act.put, z1_, z2_, z3_, i64_w, i32_w]
   rfl
 refine pu_ HT_ 10 24 (B_ 2047 13) ?_
 refine tk3_ HT_ HW_ hHeld 11 25 (B_ 4095 13) ?_
 refine pu_ HT_ 12 5 (B_ 8191 13) ?_
 refine done_ (done_of HT_.out (by kernel_rfl)) ?_
 try go_wp2
 go_ret
 exact ⟨by first | rfl | (simp [errW_none, errW_some] <;> rfl) | (simp only [← hji10]; first | rfl | (simp [errW_none, errW_some] <;> rfl)) | (simp [*, errW_none, errW_some] <;> rfl), bl_ HB.out⟩
mutual
def impl_IsSemigroup.j0 : Nat → List Int → Bool → Option (Bool)
 | 0, _, _ => none
 | k + 1, x3, x27 => if x27 = true then (some false) else (impl_IsSemigroup.l0 k x3 1)
def impl_IsSemigroup.l0 : Nat → List Int → Int → Option (Bool)
 | 0, _, _ => none
 | k + 1, x3, x4 => if x4 < (x3.length : Int) then (if 0 ≤ x4 then (if x4 ≤ (x3.length : Int) then ((impl_Generates.f k (x3.take (x4 : Int).toNat) (rd x3 x4)).bind fun t588 => (if t588 = true then (some false) else (impl_IsSemigroup.l0 k x3 (wrap64 (x4 + 1))))) else (none)) else (none)) else (if 0 < (x3.length : Int) then ((impl_leasts.f k x3 (rd x3 0)).bind fun t590 => (impl_IsSemigroup.l1 k x3 t590 (t590.length : Int) 0)) else (none))
def impl_IsSemigroup.l1 : Nat → List Int → List Int → Int → Int → Option (Bool)
 | 0, _, _, _, _ => none
 | k + 1, x3, x46, x47, x48 => if x48 < x47 then (if 0 ≤ x48 then (if x48 < (x46.length : Int) then (if 0 < (x3.length : Int) then (if (wrap64 ((rd x46 x48) - (rd x3 0))) ≥ 200 then (some false) else (impl_IsSemigroup.l1 k x3 x46 x47 (wrap64 (x48 + 1)))) else (none)) else (none)) else (none)) else (some true)
end
def impl_IsSemigroup.f (k : Nat) (l0_0 : List Int) : Option (Bool) := (impl_within.f (l0_0.length : Int) 1 12).bind fun t582 => (if t582 = true then ((impl_allWithin.f k l0_0 1 60).bind fun t583 => (if t583 = true then ((impl_IsAscending.f k l0_0).bind fun t584 => (if t584 = true then ((impl_GcdOfList.f k l0_0).bind fun t585 => (impl_IsSemigroup.j0 k l0_0 (t585 != 1))) else (impl_IsSemigroup.j0 k l0_0 true))) else (impl_IsSemigroup.j0 k l0_0 true))) else (impl_IsSemigroup.j0 k l0_0 true))
def impl_IsSemigroup.T7 : Bool × List (List Nat × List Nat) := (true, [([], []), ([], []), ([0, 1], [0, 1]), ([], []), ([], []), ([3, 4], [3, 4]), ([5], [5]), ([2, 6], [2, 6])])
def impl_IsSemigroup.B7 : List Nat := [0, 0, 3, 0, 0, 24, 56, 127]
theorem impl_IsSemigroup.tab7 : rtab .any (opsOf Try.f24 7) = impl_IsSemigroup.T7 := by kernel_rfl
theorem impl_IsSemigroup.bits7 : waitsOk impl_IsSemigroup.T7.2 impl_IsSemigroup.B7 = true := by kernel_rfl
theorem impl_IsSemigroup.calls (k : Nat) (A0_0 : Option Addr) (c0_0 : Nat) (l0_0 : List Int) (r : Bool) (w : World) (hr0_0 : Kd.C (Kd.int .i64) w A0_0 l0_0.length l0_0) (hc0_0 : l0_0.length ≤ c0_0) (h : impl_IsSemigroup.f k l0_0 = some r) :
 Calls Try.prog 24 #[.agg #[.slice A0_0 l0_0.length c0_0]] w fun e w' => e = .returned (.bool r) ∧ Below w.heap.size w w' := by
 have hu26 := Try.underlying26
 have HR0_0 := Aside0.mk hr0_0
 have HC0_0 := Aside0.mk hc0_0
 clear hr0_0 hc0_0
 have HB := Aside0.mk (Below.refl w.heap.size w)
 have H := h
 clear h
 unfold impl_IsSemigroup.f at H
 have HC2 := Aside0.mk H
 clear H
 go_enter Try.func24, Try.ntmps24
 go_upto_region 2 with (first | ((with_reducible refine gate_dst (N := 1) rfl ?_); refine bx_ 1 #[.slice A0_0 l0_0.length c0_0] 26 ?_; intro gb581 hg w3 hbox hb; have BK581 := Aside0.mk (hbox); have GW581 := gw_ hg HB; have GE581 := gw_ hg HB; replace HB := bo_ HB hb; clear hb hbox hg; have hcz4_0 := cz_ BK581; have hfz4_0 := blk_frozen BK581.out 0))
 (try simp only [Act.put, z1_, z2_, z3_])
 go_cut [27] (fun v27 wc => ∃ (kq : Nat) (x27_1 : Bool), v27 = .bool x27_1 ∧ Aside0 (impl_IsSemigroup.j0 kq l0_0 x27_1 = some r) ∧ Aside0 (kq ≤ k) ∧ Aside0 (wc.heap[gb581]? = some (.cells #[(.slice A0_0 l0_0.length c0_0)] 26 (0, 0))) ∧ Aside0 (Below w.heap.size w wc))
 case first =>
  have H := HC2.out
  clear HC2
  obtain ⟨t582, A5, H⟩ := ob_ H
  by_cases c6 : t582 = true
  rotate_left
  · replace c6 := Bool.eq_false_iff.mpr c6
    subst c6
    rw [if_neg (show ¬ (false = true) by decide)] at H
    have H' := Aside0.mk H
    clear H
    go_wp2_with (first | ((with_reducible refine gate_callee (f := 42) rfl ?_); refine gL_ (some 11) Try.func42 #[.int .i64 (l0_0.length : Int), .int .i64 1, .int .i64 12] ?_; (with_reducible refine (impl_within.calls (l0_0.length : Int) 1 12 false _ A5.out).mono ?_); rintro e w' ⟨rfl, ⟨nd, rfl⟩⟩; refine ⟨_, rfl, ?_⟩))
    go_meet
    case rel => exact ⟨_, (true), rs_, H', ⟨by first | omega | exact Nat.le_refl _⟩, ⟨be_ BK581.out⟩, ⟨bq_ HB⟩⟩
  subst c6
  rw [if_pos rfl] at H
  obtain ⟨t583, A7, H⟩ := ob_ H
  by_cases c8 : t583 = true
  rotate_left
  · replace c8 := Bool.eq_false_iff.mpr c8
    subst c8
    rw [if_neg (show ¬ (false = true) by decide)] at H
    have H' := Aside0.mk H
    clear H
    go_wp2_with (first | ((with_reducible refine gate_callee (f := 42) rfl ?_); refine gL_ (some 11) Try.func42 #[.int .i64 (l0_0.length : Int), .int .i64 1, .int .i64 12] ?_; (with_reducible refine (impl_within.calls (l0_0.length : Int) 1 12 true _ A5.out).mono ?_); rintro e w' ⟨rfl, ⟨nd, rfl⟩⟩; refine ⟨_, rfl, ?_⟩) | (go_at_call 46; (with_reducible refine (impl_allWithin.calls k _ _ l0_0 1 60 false _ ?side1 ?side2 A7.out).mono ?_); (case side1 => repeat (first | exact (Kd.C_below HR0_0.out (bq_ HB)) | (with_reducible refine Kd.C_alloc ?_ _) | (with_reducible refine Kd.C_drewN ?_ _) | (with_reducible refine Kd.C_drew ?_))); (case side2 => exact HC0_0.out); rintro e w' ⟨rfl, ⟨nd, rfl⟩⟩))
    go_meet
    case rel => exact ⟨_, (true), rs_, H', ⟨by first | omega | exact Nat.le_refl _⟩, ⟨be_ BK581.out⟩, ⟨bq_ HB⟩⟩
  subst c8
  rw [if_pos rfl] at H
  obtain ⟨t584, A9, H⟩ := ob_ H
  by_cases c10 : t584 = true
  rotate_left
  · replace c10 := Bool.eq_false_iff.mpr c10
    subst c10
    rw [if_neg (show ¬ (false = true) by decide)] at H
    have H' := Aside0.mk H
    clear H
    go_wp2_with (first | ((with_reducible refine gate_callee (f := 42) rfl ?_); refine gL_ (some 11) Try.func42 #[.int .i64 (l0_0.length : Int), .int .i64 1, .int .i64 12] ?_; (with_reducible refine (impl_within.calls (l0_0.length : Int) 1 12 true _ A5.out).mono ?_); rintro e w' ⟨rfl, ⟨nd, rfl⟩⟩; refine ⟨_, rfl, ?_⟩) | (go_at_call 46; (with_reducible refine (impl_allWithin.calls k _ _ l0_0 1 60 true _ ?side1 ?side2 A7.out).mono ?_); (case side1 => repeat (first | exact (Kd.C_below HR0_0.out (bq_ HB)) | (with_reducible refine Kd.C_alloc ?_ _) | (with_reducible refine Kd.C_drewN ?_ _) | (with_reducible refine Kd.C_drew ?_))); (case side2 => exact HC0_0.out); rintro e w' ⟨rfl, ⟨nd, rfl⟩⟩) | (go_at_call 47; (with_reducible refine (impl_IsAscending.calls k _ _ l0_0 false _ ?side1 ?side2 A9.out).mono ?_); (case side1 => repeat (first | exact (Kd.C_below HR0_0.out (bq_ HB)) | (with_reducible refine Kd.C_alloc ?_ _) | (with_reducible refine Kd.C_drewN ?_ _) | (with_reducible refine Kd.C_drew ?_))); (case side2 => exact HC0_0.out); rintro e w' ⟨rfl, ⟨nd, rfl⟩⟩))
    go_meet
    case rel => exact ⟨_, (true), rs_, H', ⟨by first | omega | exact Nat.le_refl _⟩, ⟨be_ BK581.out⟩, ⟨bq_ HB⟩⟩
  subst c10
  rw [if_pos rfl] at H
  obtain ⟨t585, A11, H⟩ := ob_ H
  have H' := Aside0.mk H
  clear H
  go_wp2_with (first | ((with_reducible refine gate_callee (f := 42) rfl ?_); refine gL_ (some 11) Try.func42 #[.int .i64 (l0_0.length : Int), .int .i64 1, .int .i64 12] ?_; (with_reducible refine (impl_within.calls (l0_0.length : Int) 1 12 true _ A5.out).mono ?_); rintro e w' ⟨rfl, ⟨nd, rfl⟩⟩; refine ⟨_, rfl, ?_⟩) | (go_at_call 46; (with_reducible refine (impl_allWithin.calls k _ _ l0_0 1 60 true _ ?side1 ?side2 A7.out).mono ?_); (case side1 => repeat (first | exact (Kd.C_below HR0_0.out (bq_ HB)) | (with_reducible refine Kd.C_alloc ?_ _) | (with_reducible refine Kd.C_drewN ?_ _) | (with_reducible refine Kd.C_drew ?_))); (case side2 => exact HC0_0.out); rintro e w' ⟨rfl, ⟨nd, rfl⟩⟩) | (go_at_call 47; (with_reducible refine (impl_IsAscending.calls k _ _ l0_0 true _ ?side1 ?side2 A9.out).mono ?_); (case side1 => repeat (first | exact (Kd.C_below HR0_0.out (bq_ HB)) | (with_reducible refine Kd.C_alloc ?_ _) | (with_reducible refine Kd.C_drewN ?_ _) | (with_reducible refine Kd.C_drew ?_))); (case side2 => exact HC0_0.out); rintro e w' ⟨rfl, ⟨nd, rfl⟩⟩) | (go_at_call 48; (with_reducible refine (impl_GcdOfList.calls k _ _ l0_0 t585 _ ?side1 ?side2 A11.out).mono ?_); (case side1 => repeat (first | exact (Kd.C_below HR0_0.out (bq_ HB)) | (with_reducible refine Kd.C_alloc ?_ _) | (with_reducible refine Kd.C_drewN ?_ _) | (with_reducible refine Kd.C_drew ?_))); (case side2 => exact HC0_0.out); rintro e w12 ⟨rfl, hb⟩; replace BK581 := bk_ BK581 hb; replace HB := bp_ HB hb; (try clear hb)))
  go_meet
  case rel => exact ⟨_, ((t585 != 1)), rs_, H', ⟨by first | omega | exact Nat.le_refl _⟩, ⟨be_ BK581.out⟩, ⟨bq_ HB⟩⟩
 case rest =>
  clear HC2
  try clear hcz4_0
  try clear hfz4_0
  obtain ⟨kq, x27_1, rfl, HA, HJ1, BK581, HB⟩ := hcut
  cases kq with
  | zero => exact absurd HA.out (by simp [impl_IsSemigroup.j0])
  | succ kj1 =>
   have H := HA.out
   clear HA
   simp only [impl_IsSemigroup.j0] at H
   by_cases c13 : x27_1 = true
   · subst c13
     rw [if_pos rfl] at H
     obtain rfl := Option.some.inj H
     go_wp2
     go_ret
     exact ⟨rf_, bq_ HB⟩
   replace c13 := Bool.eq_false_iff.mpr c13
   subst c13
   rw [if_neg (show ¬ (false = true) by decide)] at H
   have H' := Aside0.mk H
   clear H
   go_wp2
   go_loopg [4] kj1 (fun kq v4 w' => ∃ (x4_2 : Int), v4 = .int .i64 x4_2 ∧ Aside0 (impl_IsSemigroup.l0 kq l0_0 x4_2 = some r) ∧ Aside0 (kq ≤ kj1) ∧ Aside0 (w'.heap[gb581]? = some (.cells #[(.slice A0_0 l0_0.length c0_0)] 26 (0, 0))) ∧ Aside0 (Below w.heap.size w w'))
   case atStart => exact ⟨(1), rs_, H', ⟨Nat.le_refl _⟩, ⟨be_ BK581.out⟩, ⟨bq_ HB⟩⟩
   case round =>
    clear H'
    obtain ⟨x4_2, rfl, HA, HK2, BK581, HB⟩ := hrel
    cases gk with
    | zero => exact absurd HA.out (by simp [impl_IsSemigroup.l0])
    | succ k2 =>
     have H := HA.out
     clear HA
     simp only [impl_IsSemigroup.l0] at H
     by_cases c14 : x4_2 < (l0_0.length : Int)
     · rw [if_pos c14] at H
       have c14b0 : decide (x4_2 < (l0_0.length : Int)) = true := decide_eq_true c14
       clear c14
       obtain ⟨c15, H⟩ := ip_ H
       have c15b0 := eq_true c15
       have c15b1 : decide (0 ≤ x4_2) = true := decide_eq_true c15
       clear c15
       obtain ⟨c16, H⟩ := ip_ H
       have c16b0 := eq_true c16
       have c16b1 : decide (x4_2 ≤ (l0_0.length : Int)) = true := decide_eq_true c16
       clear c16
       obtain ⟨t588, A17, H⟩ := ob_ H
       by_cases c18 : t588 = true
       · subst c18
         rw [if_pos rfl] at H
         obtain rfl := Option.some.inj H
         try go_wp2
         replace BK581 := Aside0.mk (blk_drew BK581.out)
         replace HB := Aside0.mk (below_drew1 HB.out)
         obtain ⟨i020, hi020, _, hsz20, _⟩ := info_parts info3
         obtain ⟨hcut20, hA20, hC20⟩ := print_take_of (P := Try.prog) (Value.int .i64) 0 24 3 .i64 Try.underlying24 hi020 hsz20 A0_0 c0_0 l0_0 x4_2 (od_) (od_) HC0_0.out
         have HR586 := Aside0.mk (Kd.C_of_reads (h1 := fun _ => rfl) (hA20 _ (Kd.reads_of_C HR0_0.out)))
         have HC586 := Aside0.mk hC20
         clear hA20 hC20 hi020 hsz20
         have p587 : 0 ≤ (x4_2 : Int) := od_
         have q587 : x4_2 < (l0_0.length : Int) := od_
         obtain ⟨ad587, e587, hx587_0⟩ := Kd.at_int HR0_0.out x4_2 p587 q587
         have hw587_0 := hx587_0
         cases e587
         (try replace hx587_0 := (HB.out.cell (World.block_lt_of_cell? w _ hx587_0)).trans hx587_0)
         replace p587 := eq_true p587
         replace q587 := eq_true q587
         refine start_ (n := 8) (S := fun w' => w'.cell? (ad587.add (x4_2).toNat) = some (.int .i64 (rd l0_0 x4_2))) (ds := []) (B_ 0 8) (by kernel_rfl) rfl rfl (by first | exact hw587_0 | exact (HB.out.cell (World.block_lt_of_cell? w _ hw587_0)).trans hw587_0 | (obtain ⟨_, e_, h_⟩ := Kd.at_int HR0_0.out x4_2 (of_eq_true p587) (of_eq_true q587); cases e_; exact h_)) (fun hHeld => ?_); refine with_tabW impl_IsSemigroup.tab7 impl_IsSemigroup.bits7 (fun HT_ HW_ => ?_)
         generalize wr.drew = w19 at BK581 HB HR586 hx587_0 hHeld ⊢
         refine pu_ HT_ 0 34 (B_ 1 8) ?_
         refine pu_ HT_ 1 35 (B_ 3 8) ?_
         refine pu_ HT_ 2 36 (B_ 7 8) ?_
         refine pu_ HT_ 3 37 (B_ 15 8) ?_
         refine pu_ HT_ 4 38 (B_ 31 8) ?_
         refine pu_ HT_ 5 39 (B_ 63 8) ?_
         refine tk1_ HT_ HW_ hHeld 6 40 (B_ 127 8) ?_
         refine on_ HT_ 7 41 (B_ 255 8) (fun K hK => ?_)
         refine goes_ Try.func49 (by kernel_rfl) rfl #[.slice (some ad587) (l0_0.take (x4_2 : Int).toNat).length c0_0, .int .i64 (rd l0_0 x4_2)] (by rfl) rfl rfl (by (try simp only [List.map_toArray, List.map_cons, List.map_nil]); first | done | (rw [show (l0_0.take (x4_2 : Int).toNat).length = x4_2.toNat from (by rw [List.length_take]; have h_ : (x4_2 : Int) ≤ (l0_0.length : Int) := od_; omega)] <;> rfl) | rfl | (simp only [List.length_drop, List.length_take]; rfl)) ?_
         with_reducible refine (impl_Generates.calls k2 _ _ (l0_0.take (x4_2 : Int).toNat) (rd l0_0 x4_2) true _ ?side1 ?side2 A17.out).mono ?_
         (case side1 => exact ch_ HR586 HB)
         (case side2 => exact HC586.out)
         rintro e w21 ⟨rfl, hb⟩
         refine ⟨_, rfl, ?_⟩
         replace BK581 := bk_ BK581 hb
         replace HB := bp_ HB hb
         (try clear hb)
         refine hK.out _ _ (by first | exact hw587_0 | exact (HB.out.cell (World.block_lt_of_cell? w _ hw587_0)).trans hw587_0 | (obtain ⟨_, e_, h_⟩ := Kd.at_int HR0_0.out x4_2 (of_eq_true p587) (of_eq_true q587); cases e_; exact h_)) (fun hHeld => ?_)
         clear hK K
         refine norm_ (a' := ?_) ?_ ?_
         rotate_left
         · show Act.put _ (some 41) _ = _
           simp only [Act.put, z1_, z2_, z3_, i64_w, i32_w]
           rfl
         refine done_ (done_of HT_.out (by kernel_rfl)) ?_
         try go_wp2
         go_ret
         exact ⟨rf_, bq_ HB⟩
       replace c18 := Bool.eq_false_iff.mpr c18
       subst c18
       rw [if_neg (show ¬ (false = true) by decide)] at H
       have H' := Aside0.mk H
       clear H
       try go_wp2
       replace BK581 := Aside0.mk (blk_drew BK581.out)
       replace HB := Aside0.mk (below_drew1 HB.out)
       obtain ⟨i023, hi023, _, hsz23, _⟩ := info_parts info3
       obtain ⟨hcut23, hA23, hC23⟩ := print_take_of (P := Try.prog) (Value.int .i64) 0 24 3 .i64 Try.underlying24 hi023 hsz23 A0_0 c0_0 l0_0 x4_2 (od_) (od_) HC0_0.out
       have HR586 := Aside0.mk (Kd.C_of_reads (h1 := fun _ => rfl) (hA23 _ (Kd.reads_of_C HR0_0.out)))
       have HC586 := Aside0.mk hC23
       clear hA23 hC23 hi023 hsz23
       have p587 : 0 ≤ (x4_2 : Int) := od_
       have q587 : x4_2 < (l0_0.length : Int) := od_
       obtain ⟨ad587, e587, hx587_0⟩ := Kd.at_int HR0_0.out x4_2 p587 q587
       have hw587_0 := hx587_0
       cases e587
       (try replace hx587_0 := (HB.out.cell (World.block_lt_of_cell? w _ hx587_0)).trans hx587_0)
       replace p587 := eq_true p587
       replace q587 := eq_true q587
       refine start_ (n := 8) (S := fun w' => w'.cell? (ad587.add (x4_2).toNat) = some (.int .i64 (rd l0_0 x4_2))) (ds := []) (B_ 0 8) (by kernel_rfl) rfl rfl (by first | exact hw587_0 | exact (HB.out.cell (World.block_lt_of_cell? w _ hw587_0)).trans hw587_0 | (obtain ⟨_, e_, h_⟩ := Kd.at_int HR0_0.out x4_2 (of_eq_true p587) (of_eq_true q587); cases e_; exact h_)) (fun hHeld => ?_); refine with_tabW impl_IsSemigroup.tab7 impl_IsSemigroup.bits7 (fun HT_ HW_ => ?_)
       generalize wr.drew = w22 at BK581 HB HR586 hx587_0 hHeld ⊢
       refine pu_ HT_ 0 34 (B_ 1 8) ?_
       refine pu_ HT_ 1 35 (B_ 3 8) ?_
       refine pu_ HT_ 2 36 (B_ 7 8) ?_
       refine pu_ HT_ 3 37 (B_ 15 8) ?_
       refine pu_ HT_ 4 38 (B_ 31 8) ?_
       refine pu_ HT_ 5 39 (B_ 63 8) ?_
       refine tk1_ HT_ HW_ hHeld 6 40 (B_ 127 8) ?_
       refine on_ HT_ 7 41 (B_ 255 8) (fun K hK => ?_)
       refine goes_ Try.func49 (by kernel_rfl) rfl #[.slice (some ad587) (l0_0.take (x4_2 : Int).toNat).length c0_0, .int .i64 (rd l0_0 x4_2)] (by rfl) rfl rfl (by (try simp only [List.map_toArray, List.map_cons, List.map_nil]); first | done | (rw [show (l0_0.take (x4_2 : Int).toNat).length = x4_2.toNat from (by rw [List.length_take]; have h_ : (x4_2 : Int) ≤ (l0_0.length : Int) := od_; omega)] <;> rfl) | rfl | (simp only [List.length_drop, List.length_take]; rfl)) ?_
       with_reducible refine (impl_Generates.calls k2 _ _ (l0_0.take (x4_2 : Int).toNat) (rd l0_0 x4_2) false _ ?side1 ?side2 A17.out).mono ?_
       (case side1 => exact ch_ HR586 HB)
       (case side2 => exact HC586.out)
       rintro e w24 ⟨rfl, hb⟩
       refine ⟨_, rfl, ?_⟩
       replace BK581 := bk_ BK581 hb
       replace HB := bp_ HB hb
       (try clear hb)
       refine hK.out _ _ (by first | exact hw587_0 | exact (HB.out.cell (World.block_lt_of_cell? w _ hw587_0)).trans hw587_0 | (obtain ⟨_, e_, h_⟩ := Kd.at_int HR0_0.out x4_2 (of_eq_true p587) (of_eq_true q587); cases e_; exact h_)) (fun hHeld => ?_)
       clear hK K
       refine norm_ (a' := ?_) ?_ ?_
       rotate_left
       · show Act.put _ (some 41) _ = _
         simp only [Act.put, z1_, z2_, z3_, i64_w, i32_w]
         rfl
       refine done_ (done_of HT_.out (by kernel_rfl)) ?_
       try go_wp2
       go_roundg k2
       case measure => have := HJ1.out; have := HK2.out; omega
       case rel => exact ⟨(wrap64 (x4_2 + 1)), rs_, H', ⟨by have := HJ1.out; have := HK2.out; omega⟩, ⟨be_ BK581.out⟩, ⟨bq_ HB⟩⟩
     rw [if_neg c14] at H
     have c14b0 : decide (x4_2 < (l0_0.length : Int)) = false := decide_eq_false c14
     clear c14
     obtain ⟨c25, H⟩ := ip_ H
     have c25b0 : decide (0 < (l0_0.length : Int)) = true := decide_eq_true c25
     have c25b1 : decide (0 < l0_0.length) = true := decide_eq_true (by omega)
     clear c25
     obtain ⟨t590, A26, H⟩ := ob_ H
     have H' := Aside0.mk H
     clear H
     have p589 : 0 ≤ (0 : Int) := (by omega)
     have q589 : 0 < (l0_0.length : Int) := od_
     obtain ⟨ad589, e589, hx589_0⟩ := Kd.at_int HR0_0.out 0 p589 q589
     cases e589
     have qi589 : (0 < l0_0.length) = True := eq_true (by omega)
     (try rw [show ((0 : Int)).toNat = 0 from rfl] at hx589_0)
     (try rw [Addr.add_zero'] at hx589_0)
     (try replace hx589_0 := (HB.out.cell (World.block_lt_of_cell? w _ hx589_0)).trans hx589_0)
     replace p589 := eq_true p589
     replace q589 := eq_true q589
     go_wp2_with (first | ((with_reducible refine gate_callee (f := 50) rfl ?_); refine gL_ (some 46) Try.func50 #[.slice (some ad589) l0_0.length c0_0, .int .i64 (rd l0_0 0)] ?_; (with_reducible refine (impl_leasts.calls k2 _ _ l0_0 (rd l0_0 0) t590 _ ?side1 ?side2 A26.out).mono ?_); (case side1 => exact ch_ HR0_0 HB); (case side2 => exact HC0_0.out); rintro e w27 ⟨v591, rfl, ho0, hb⟩; refine ⟨_, rfl, ?_⟩; have HO592 := Aside0.mk (Kd.R_lower ho0 (below_size (bq_ HB))); replace BK581 := bk_ BK581 hb; replace HB := bp_ HB hb; (try clear hb); (try clear ho0); obtain ⟨Ao28, co28, eo28⟩ := Kd.R_slice HO592.out; subst eo28))
     go_loopg [48] k2 (fun kq v48 w' => ∃ (x48_3 : Int), v48 = .int .i64 x48_3 ∧ Aside0 (impl_IsSemigroup.l1 kq l0_0 t590 (t590.length : Int) x48_3 = some r) ∧ Aside0 (kq ≤ k2) ∧ Aside0 (Kd.R (Kd.int .i64) 3 w' w.heap.size (fun _ => True) (.slice Ao28 t590.length co28) t590) ∧ Aside0 (w'.heap[gb581]? = some (.cells #[(.slice (some ad589) l0_0.length c0_0)] 26 (0, 0))) ∧ Aside0 (Below w.heap.size w w'))
     case atStart => exact ⟨(0), rs_, H', ⟨Nat.le_refl _⟩, ⟨re_ HO592.out⟩, ⟨be_ BK581.out⟩, ⟨bq_ HB⟩⟩
     case round =>
      clear H'
      try clear c14b0
      try clear c25b0
      try clear c25b1
      try clear hx589_0
      try clear p589
      try clear q589
      obtain ⟨x48_3, rfl, HA, HK3, HO_46, BK581, HB⟩ := hrel
      cases gk with
      | zero => exact absurd HA.out (by simp [impl_IsSemigroup.l1])
      | succ k3 =>
       have H := HA.out
       clear HA
       simp only [impl_IsSemigroup.l1] at H
       by_cases c29 : x48_3 < (t590.length : Int)
       rotate_left
       · rw [if_neg c29] at H
         have c29b0 : decide (x48_3 < (t590.length : Int)) = false := decide_eq_false c29
         clear c29
         obtain rfl := Option.some.inj H
         go_wp2
         go_ret
         exact ⟨rf_, bq_ HB⟩
       rw [if_pos c29] at H
       have c29b0 : decide (x48_3 < (t590.length : Int)) = true := decide_eq_true c29
       clear c29
       obtain ⟨c30b0, H⟩ := ipd_ H
       obtain ⟨c31b0, H⟩ := ipd_ H
       obtain ⟨c32, H⟩ := ip_ H
       have c32b0 : decide (0 < (l0_0.length : Int)) = true := decide_eq_true c32
       have c32b1 : decide (0 < l0_0.length) = true := decide_eq_true (by omega)
       clear c32
       by_cases c33 : (wrap64 ((rd t590 x48_3) - (rd l0_0 0))) ≥ 200
       · rw [if_pos c33] at H
         have c33b0 : decide (200 ≤ (wrap64 ((rd t590 x48_3) - (rd l0_0 0)))) = true := decide_eq_true c33
         clear c33
         obtain rfl := Option.some.inj H
         have p593 : 0 ≤ (x48_3 : Int) := od_
         have q593 : x48_3 < (t590.length : Int) := od_
         obtain ⟨ad593, e593, hx593_0⟩ := Kd.at_int (Kd.R_reads' HO_46.out).2.2 x48_3 p593 q593
         cases e593
         replace p593 := eq_true p593
         replace q593 := eq_true q593
         have p594 : 0 ≤ (0 : Int) := (by omega)
         have q594 : 0 < (l0_0.length : Int) := od_
         obtain ⟨ad594, e594, hx594_0⟩ := Kd.at_int HR0_0.out 0 p594 q594
         obtain rfl : ad589 = ad594 := (by injection e594)
         have qi594 : (0 < l0_0.length) = True := eq_true (by omega)
         (try rw [show ((0 : Int)).toNat = 0 from rfl] at hx594_0)
         (try rw [Addr.add_zero'] at hx594_0)
         (try replace hx594_0 := (HB.out.cell (World.block_lt_of_cell? w _ hx594_0)).trans hx594_0)
         replace p594 := eq_true p594
         replace q594 := eq_true q594
         go_wp2
         go_ret
         exact ⟨rf_, bq_ HB⟩
       rw [if_neg c33] at H
       have c33b0 : decide (200 ≤ (wrap64 ((rd t590 x48_3) - (rd l0_0 0)))) = false := decide_eq_false c33
       clear c33
       have H' := Aside0.mk H
       clear H
       have p593 : 0 ≤ (x48_3 : Int) := od_
       have q593 : x48_3 < (t590.length : Int) := od_
       obtain ⟨ad593, e593, hx593_0⟩ := Kd.at_int (Kd.R_reads' HO_46.out).2.2 x48_3 p593 q593
       cases e593
       replace p593 := eq_true p593
       replace q593 := eq_true q593
       have p594 : 0 ≤ (0 : Int) := (by omega)
       have q594 : 0 < (l0_0.length : Int) := od_
       obtain ⟨ad594, e594, hx594_0⟩ := Kd.at_int HR0_0.out 0 p594 q594
       obtain rfl : ad589 = ad594 := (by injection e594)
       have qi594 : (0 < l0_0.length) = True := eq_true (by omega)
       (try rw [show ((0 : Int)).toNat = 0 from rfl] at hx594_0)
       (try rw [Addr.add_zero'] at hx594_0)
       (try replace hx594_0 := (HB.out.cell (World.block_lt_of_cell? w _ hx594_0)).trans hx594_0)
       replace p594 := eq_true p594
       replace q594 := eq_true q594
       go_wp2
       go_roundg k3
       case measure => have := HJ1.out; have := HK2.out; have := HK3.out; omega
       case rel => exact ⟨(wrap64 (x48_3 + 1)), rs_, H', ⟨by have := HJ1.out; have := HK2.out; have := HK3.out; omega⟩, ⟨re_ HO_46.out⟩, ⟨be_ BK581.out⟩, ⟨bq_ HB⟩⟩
def impl_table.l0 : Nat → List Int → List Bool → Int → Int → List Int → Option (List Bool)
 | 0, _, _, _, _, _ => none
 | k + 1, x5, x6, x19, x20, x596000 => if x20 < x19 then (if 0 < (x596000.length : Int) then (if (rd x596000 0) = 0 then (none) else (if 0 ≤ (Int.tmod x20 (rd x596000 0)) then (if (Int.tmod x20 (rd x596000 0)) < (x5.length : Int) then (if 0 ≤ x20 then (if x20 < (x6.length : Int) then (impl_table.l0 k x5 (x6.set (x20 : Int).toNat (decide ((rd x5 (Int.tmod x20 (rd x596000 0))) ≤ x20))) x19 (wrap64 (x20 + 1)) x596000) else (none)) else (none)) else (none)) else (none))) else (none)) else (some x6)
def impl_table.f (k : Nat) (l0_0 : List Int) (a1 : Int) : Option (List Bool) := if 0 < (l0_0.length : Int) then ((impl_leasts.f k l0_0 (rd l0_0 0)).bind fun t597 => (if 0 ≤ (wrap64 (a1 + 1)) then (if (wrap64 (a1 + 1) : Int).toNat ≤ 281474976710656 then ((some (List.replicate (wrap64 (a1 + 1) : Int).toNat false : List Bool)).bind fun y600 => (impl_table.l0 k t597 y600 (y600.length : Int) 0 l0_0)) else (none)) else (none))) else (none)
def impl_table.T1 : Bool × List (List Nat × List Nat) := (true, [([], []), ([0], [0]), ([], []), ([2], [2]), ([3], [3]), ([4], [4]), ([1, 5], [1, 5]), ([6, 6, 0, 1, 2, 3, 4, 5, 6], [6])])
def impl_table.B1 : List Nat := [0, 1, 0, 4, 12, 28, 63, 127]
theorem impl_table.tab1 : rtab .any (opsOf Try.f25 1) = impl_table.T1 := by kernel_rfl
theorem impl_table.bits1 : waitsOk impl_table.T1.2 impl_table.B1 = true := by kernel_rfl
theorem impl_table.calls (k : Nat) (A0_0 : Option Addr) (c0_0 : Nat) (l0_0 : List Int) (a1 : Int) (r : List Bool) (w : World) (hr0_0 : Kd.C (Kd.int .i64) w A0_0 l0_0.length l0_0) (hc0_0 : l0_0.length ≤ c0_0) (h : impl_table.f k l0_0 a1 = some r) :
 Calls Try.prog 25 #[.agg #[.slice A0_0 l0_0.length c0_0], .int .i64 a1] w fun e w' => ∃ v0_ : Value, e = .returned (v0_) ∧ Kd.R Kd.bool 4 w' w.heap.size (fun _ => True) v0_ r ∧ Below w.heap.size w w' := by
 have hu26 := Try.underlying26
 have HR0_0 := Aside0.mk hr0_0
 have HC0_0 := Aside0.mk hc0_0
 clear hr0_0 hc0_0
 have HB := Aside0.mk (Below.refl w.heap.size w)
 have H := h
 clear h
 unfold impl_table.f at H
 obtain ⟨c3, H⟩ := ip_ H
 have c3b0 : decide (0 < (l0_0.length : Int)) = true := decide_eq_true c3
 have c3b1 : decide (0 < l0_0.length) = true := decide_eq_true (by omega)
 clear c3
 obtain ⟨t597, A4, H⟩ := ob_ H
 obtain ⟨ji5, hji5⟩ : ∃ j_ : Int, (wrap64 (a1 + 1)) = j_ := ⟨_, rfl⟩
 replace H : (if 0 ≤ (ji5) then (if (ji5 : Int).toNat ≤ 281474976710656 then ((some (List.replicate (ji5 : Int).toNat false : List Bool)).bind fun y600 => (impl_table.l0 k t597 y600 (y600.length : Int) 0 l0_0)) else (none)) else (none)) = some r := by first | (rw [hji5] at H; exact H) | (simp only [hji5] at H ⊢; exact H)
 (try rw [hji5] at A4)
 have hji5w : (IntKind.i64.wrap (a1 + 1)) = ji5 := (i64_w _).trans hji5
 obtain ⟨c6, H⟩ := ip_ H
 have c6b0 := eq_true c6
 have c6b1 : decide (0 ≤ (ji5)) = true := decide_eq_true c6
 clear c6
 obtain ⟨c7, H⟩ := ip_ H
 have c7b0 := eq_true c7
 have c7b1 : decide ((ji5 : Int).toNat ≤ 281474976710656) = true := decide_eq_true c7
 clear c7
 obtain ⟨y600, hy600⟩ : ∃ y_ : List Bool, y_ = (List.replicate (ji5 : Int).toNat false) := ⟨_, rfl⟩
 replace H : (impl_table.l0 k t597 y600 (y600.length : Int) 0 l0_0) = some r := by subst hy600; exact H
 have Ny600 := Aside0.mk hy600
 clear hy600
 have H' := Aside0.mk H
 clear H
 go_enter Try.func25, Try.ntmps25
 try go_wp2_with (first | ((with_reducible refine gate_dst (N := 2) rfl ?_); refine bx_ 2 #[.slice A0_0 l0_0.length c0_0] 26 ?_; intro gb595 hg w8 hbox hb; have BK595 := Aside0.mk (hbox); have GW595 := gw_ hg HB; have GE595 := gw_ hg HB; replace HB := bo_ HB hb; clear hb hbox hg))
 replace BK595 := Aside0.mk (blk_drew BK595.out)
 replace HB := Aside0.mk (below_drew1 HB.out)
 have p596 : 0 ≤ (0 : Int) := (by omega)
 have q596 : 0 < (l0_0.length : Int) := od_
 obtain ⟨ad596, e596, hx596_0⟩ := Kd.at_int HR0_0.out 0 p596 q596
 have hw596_0 := hx596_0
 (try rw [show ((0 : Int)).toNat = 0 from rfl] at hw596_0)
 (try rw [show 0 * 1 = 0 from rfl] at hw596_0)
 (try rw [Addr.add_zero'] at hw596_0)
 cases e596
 have qi596 : (0 < l0_0.length) = True := eq_true (by omega)
 (try rw [show ((0 : Int)).toNat = 0 from rfl] at hx596_0)
 (try rw [Addr.add_zero'] at hx596_0)
 (try replace hx596_0 := (HB.out.cell (World.block_lt_of_cell? w _ hx596_0)).trans hx596_0)
 replace p596 := eq_true p596
 replace q596 := eq_true q596
 refine start_ (n := 8) (S := fun w' => w'.cell? ⟨gb595, 0, none⟩ = some (.slice (some ad596) l0_0.length c0_0) ∧ w'.cell? ad596 = some (.int .i64 (rd l0_0 0))) (ds := []) (B_ 0 8) (by kernel_rfl) rfl rfl ⟨(blk_cell BK595.out 0).trans rfl, ((HB.out.cell (World.block_lt_of_cell? w _ hw596_0)).trans hw596_0)⟩ (fun hHeld => ?_); refine with_tabW impl_table.tab1 impl_table.bits1 (fun HT_ HW_ => ?_)
 generalize w8.drew = w9 at BK595 HB hx596_0 hHeld ⊢
 refine pu_ HT_ 0 8 (B_ 1 8) ?_
 refine pu_ HT_ 2 10 (B_ 5 8) ?_
 refine tk2_ HT_ HW_ hHeld 1 9 (B_ 7 8) ?_
 refine tk2_ HT_ HW_ hHeld 3 11 (B_ 15 8) ?_
 refine pu_ HT_ 4 12 (B_ 31 8) ?_
 refine tk2_ HT_ HW_ hHeld 5 13 (B_ 63 8) ?_
 refine on_ HT_ 6 14 (B_ 127 8) (fun K hK => ?_)
 refine goes_ Try.func50 (by kernel_rfl) rfl #[.slice (some ad596) l0_0.length c0_0, .int .i64 (rd l0_0 0)] (by rfl) rfl rfl (by (try simp only [List.map_toArray, List.map_cons, List.map_nil]); first | done | rfl | (simp only [List.length_drop, List.length_take]; rfl)) ?_
 with_reducible refine (impl_leasts.calls k _ _ l0_0 (rd l0_0 0) t597 _ ?side1 ?side2 A4.out).mono ?_
 (case side1 => exact ch_ HR0_0 HB)
 (case side2 => exact HC0_0.out)
 rintro e w10 ⟨v598, rfl, ho0, hb⟩
 refine ⟨_, rfl, ?_⟩
 have HO599 := Aside0.mk (Kd.R_lower ho0 (below_size (bq_ HB)))
 replace BK595 := bk_ BK595 hb
 replace HB := bp_ HB hb
 (try clear hb)
 (try clear ho0)
 refine hK.out _ _ ⟨(blk_cell BK595.out 0).trans rfl, ((HB.out.cell (World.block_lt_of_cell? w _ hw596_0)).trans hw596_0)⟩ (fun hHeld => ?_)
 clear hK K
 refine norm_ (a' := ?_) ?_ ?_
 rotate_left
 · show Act.put _ (some 14) _ = _
   simp only [Act.put, z1_, z2_, z3_, i64_w, i32_w]
   rfl
 refine pu_ HT_ 7 5 (B_ 255 8) ?_
 refine done_ (done_of HT_.out (by kernel_rfl)) ?_
 try go_wp2_with (first | ((with_reducible refine gate_dst (N := 17) rfl ?_); refine Kd.R_make Kd.bool _ 4 rfl (N := 17) rfl 42 _ _ rfl ji5 rfl rfl Try.underlying42 (.bool false) 1 info4 rfl (by decide) (by omega) false (ok := fun _ => True) (okp := fun _ => True) rfl (fun _ hk => hk) trivial (od_) (Nat.le_trans (Nat.mul_le_mul_right _ (od_ : ji5.toNat ≤ 281474976710656)) (by omega)) (Below.refl _ _) (Nat.le_refl _) ?_; intro v601 w11 ho12 hb hg_ hnew_; clear hg_ hnew_; (first | rw [← Ny600.out] at ho12 | (simp only [Int.reduceToNat] at ho12; rw [← Ny600.out] at ho12)); replace HO599 := Aside0.mk (Kd.R_below (re_ HO599.out) hb); have HO602 := Aside0.mk (Kd.R_lower ho12 (below_size (bq_ HB))); replace BK595 := bk_ BK595 hb; replace HB := bp_ HB hb; clear hb ho12; obtain ⟨Ao13, co13, eo13⟩ := Kd.R_slice HO602.out; subst eo13))
 go_loopg [20] k (fun kq v20 w' => ∃ (x6_1 : List Bool) (x20_1 : Int), v20 = .int .i64 x20_1 ∧ Aside0 (impl_table.l0 kq t597 x6_1 (y600.length : Int) x20_1 l0_0 = some r) ∧ Aside0 (kq ≤ k) ∧ Aside0 (Kd.R (Kd.int .i64) 3 w' w.heap.size (fun _ => True) v598 t597) ∧ Aside0 (Kd.R Kd.bool 4 w' w.heap.size (fun _ => True) (.slice Ao13 y600.length co13) x6_1) ∧ Aside0 (w'.heap[gb595]? = some (.cells #[(.slice (some ad596) l0_0.length c0_0)] 26 (0, 0))) ∧ Aside0 (Below w.heap.size w w'))
 case atStart => exact ⟨(y600), (0), rs_, H', ⟨Nat.le_refl _⟩, ⟨re_ HO599.out⟩, ⟨re_ HO602.out⟩, ⟨be_ BK595.out⟩, ⟨bq_ HB⟩⟩
 case round =>
  clear H'
  try clear c3b0
  try clear c3b1
  try clear c6b0
  try clear c6b1
  try clear c7b0
  try clear c7b1
  try clear hx596_0
  try clear p596
  try clear q596
  obtain ⟨x6_1, x20_1, rfl, HA, HK1, HO_5, HO_6, BK595, HB⟩ := hrel
  have hl6_1 := (Kd.R_reads' HO_6.out).1
  rw [hl6_1] at HO_6
  (try simp only [hl6_1])
  (try simp only [hl6_1] at BK595)
  (try simp only [hl6_1] at HO_5)
  cases gk with
  | zero => exact absurd HA.out (by simp [impl_table.l0])
  | succ k1 =>
   have H := HA.out
   clear HA
   simp only [impl_table.l0] at H
   by_cases c14 : x20_1 < (y600.length : Int)
   rotate_left
   · rw [if_neg c14] at H
     have c14b0 : decide (x20_1 < (y600.length : Int)) = false := decide_eq_false c14
     (try (have c14h := c14b0; simp only [hl6_1] at c14h))
     clear c14
     obtain rfl := Option.some.inj H
     go_wp2
     go_ret
     exact ⟨_, by first | rfl | (simp [errW_none, errW_some] <;> rfl) | (simp only [← hji5]; first | rfl | (simp [errW_none, errW_some] <;> rfl)) | (simp [*, errW_none, errW_some] <;> rfl), re_ HO_6.out, bq_ HB⟩
   rw [if_pos c14] at H
   have c14b0 : decide (x20_1 < (y600.length : Int)) = true := decide_eq_true c14
   (try (have c14h := c14b0; simp only [hl6_1] at c14h))
   clear c14
   obtain ⟨c15, H⟩ := ip_ H
   have c15b0 : decide (0 < (l0_0.length : Int)) = true := decide_eq_true c15
   have c15b1 : decide (0 < l0_0.length) = true := decide_eq_true (by omega)
   (try (have c15h := c15b0; simp only [hl6_1] at c15h))
   clear c15
   obtain ⟨c16, H⟩ := in_ H
   have c16b0 : ((rd l0_0 0) == 0) = false := beq_eq_false_iff_ne.mpr c16
   have c16b1 : ((rd l0_0 0) != 0) = true := bne_iff_ne.mpr c16
   obtain ⟨ji17, hji17⟩ : ∃ j_ : Int, (Int.tmod x20_1 (rd l0_0 0)) = j_ := ⟨_, rfl⟩
   replace H : (if 0 ≤ (ji17) then (if (ji17) < (t597.length : Int) then (if 0 ≤ x20_1 then (if x20_1 < (x6_1.length : Int) then (impl_table.l0 k1 t597 (x6_1.set (x20_1 : Int).toNat (decide ((rd t597 (ji17)) ≤ x20_1))) (y600.length : Int) (wrap64 (x20_1 + 1)) l0_0) else (none)) else (none)) else (none)) else (none)) = some r := by first | (rw [hji17] at H; exact H) | (simp only [hji17] at H ⊢; exact H)
   obtain ⟨c18b0, H⟩ := ipd_ H
   obtain ⟨c19, H⟩ := ip_ H
   have c19b0 : decide ((ji17) < (t597.length : Int)) = true := decide_eq_true c19
   (try (have c19h := c19b0; simp only [hl6_1] at c19h))
   clear c19
   obtain ⟨c20b0, H⟩ := ipd_ H
   obtain ⟨c21, H⟩ := ip_ H
   have c21b0 : decide (x20_1 < (x6_1.length : Int)) = true := decide_eq_true c21
   (try (have c21h := c21b0; simp only [hl6_1] at c21h))
   clear c21
   obtain ⟨y605, hy605⟩ : ∃ y_ : List Bool, y_ = (x6_1.set (x20_1 : Int).toNat (decide ((rd t597 (ji17)) ≤ x20_1))) := ⟨_, rfl⟩
   replace H : (impl_table.l0 k1 t597 y605 (y600.length : Int) (wrap64 (x20_1 + 1)) l0_0) = some r := by subst hy605; exact H
   have Ny605 := Aside0.mk hy605
   clear hy605
   have H' := Aside0.mk H
   clear H
   have hcz23_0 := cz_ BK595
   have hfz23_0 := blk_frozen BK595.out 0
   have p603 : 0 ≤ (0 : Int) := (by omega)
   have q603 : 0 < (l0_0.length : Int) := od_
   obtain ⟨ad603, e603, hx603_0⟩ := Kd.at_int HR0_0.out 0 p603 q603
   obtain rfl : ad596 = ad603 := (by injection e603)
   have qi603 : (0 < l0_0.length) = True := eq_true (by omega)
   (try rw [show ((0 : Int)).toNat = 0 from rfl] at hx603_0)
   (try rw [Addr.add_zero'] at hx603_0)
   (try replace hx603_0 := (HB.out.cell (World.block_lt_of_cell? w _ hx603_0)).trans hx603_0)
   replace p603 := eq_true p603
   replace q603 := eq_true q603
   obtain ⟨Ao24, co24, eo24⟩ := Kd.R_slice HO_5.out
   subst eo24
   have p604 : 0 ≤ ((ji17) : Int) := od_
   have q604 : (ji17) < (t597.length : Int) := od_
   obtain ⟨ad604, e604, hx604_0⟩ := Kd.at_int (Kd.R_reads' HO_5.out).2.2 (ji17) p604 q604
   cases e604
   replace p604 := eq_true p604
   replace q604 := eq_true q604
   have p22 : 0 ≤ (x20_1 : Int) := od_
   have q22 : (x20_1 : Int) < ((x6_1.length : Int) : Int) := od_
   obtain ⟨go22, co22, eo22, gb22, gl22, cl22, HG22⟩ := Kd.R_form HO_6.out (by omega)
   (first | cases eo22 | (injection eo22 with ea_ en_ ec_; (first | subst ea_ | (injection ea_ with ea_; subst ea_)); subst ec_; clear en_))
   have GB22 := Aside0.mk gb22
   have GG22 := Aside0.mk HG22
   clear gb22 gl22 HG22
   obtain ⟨hx22_0, hf22_0⟩ := Kd.R_celln false HO_6.out (x20_1 : Int) p22 q22
   replace p22 := eq_true p22
   replace q22 := eq_true q22
   have HP25 := Kd.R_putg HO_6.out (x20_1 : Int) (decide ((rd t597 (ji17)) ≤ x20_1))
   go_wp2_with (first | ((with_reducible refine gate_store (t := 4) (p := 36) rfl ?_); refine store_event (t := 4) (p := 36) (v := ?vo_w26) (w1 := (wr.setCell ⟨go22, (x20_1 : Int).toNat, none⟩ (.bool (decide ((rd t597 (ji17)) ≤ x20_1))))) ?hg ?ho ?hn ?hr ?_; (case ho => rfl); (case hg => rfl); (case hn => rfl); (case hr => first | (go_simp; done) | (go_simp; rfl)); intro w26 hw; have hg : wr.grownBy w26 (some go22) := (by rw [hw]; exact HP25.2); have hp_ : Kd.R Kd.bool 4 w26 w.heap.size (fun _ => True) (.slice (some ⟨go22, 0, none⟩) x6_1.length co13) y605 := (by rw [hw, Ny605.out]; exact HP25.1); clear HP25; replace HO_5 := Aside0.mk (Kd.R_over' (v := (.slice (some ⟨go22, 0, none⟩) x6_1.length co13)) (re_ HO_5.out) (Kd.R_typed HO_6.out) (by decide) hg); replace BK595 := Aside0.mk (blk_grown (be_ BK595.out) hg (Kd.R_ne HO_6.out BK595.out (by decide))); replace HO_6 := Aside0.mk (hp_); replace HB := Aside0.mk ((by rw [hw]; exact below_set (HB.out) GB22.out : Below w.heap.size w w26)); clear hg hw hp_))
   (try simp only [← hl6_1])
   go_roundg k1
   case measure => have := HK1.out; omega
   case rel => exact ⟨(y605), (wrap64 (x20_1 + 1)), rs_, H', ⟨by have := HK1.out; omega⟩, ⟨by (try simp only [hl6_1]); (with_reducible repeat (first | apply Kd.R_alloc | apply Kd.R_drewN | apply Kd.R_drew)); exact HO_5.out⟩, ⟨by (try simp only [hl6_1]); (with_reducible repeat (first | apply Kd.R_alloc | apply Kd.R_drewN | apply Kd.R_drew)); exact HO_6.out⟩, ⟨by (try simp only [hl6_1]); exact ba_ BK595⟩, ⟨bq_ HB⟩⟩
def impl_gapList.f (k : Nat) (l0 : List Int) : Option (Bool) := (impl_IsAscending.f k l0).bind fun t606 => (if t606 = true then ((impl_allWithin.f k l0 1 199).bind fun t607 => (some t607)) else (some false))
theorem impl_gapList.calls (k : Nat) (A0 : Option Addr) (c0 : Nat) (l0 : List Int) (r : Bool) (w : World) (hr0 : Kd.C (Kd.int .i64) w A0 l0.length l0) (hc0 : l0.length ≤ c0) (h : impl_gapList.f k l0 = some r) :
 Calls Try.prog 52 #[.slice A0 l0.length c0] w fun e w' => e = .returned (.bool r) ∧ Drawn0 w w' := by
 have HR0 := Aside0.mk hr0
 have HC0 := Aside0.mk hc0
 clear hr0 hc0
 have H := h
 clear h
 unfold impl_gapList.f at H
 obtain ⟨t606, A2, H⟩ := ob_ H
 by_cases c3 : t606 = true
 rotate_left
 · replace c3 := Bool.eq_false_iff.mpr c3
   subst c3
   rw [if_neg (show ¬ (false = true) by decide)] at H
   obtain rfl := Option.some.inj H
   go_enter Try.func52, Try.ntmps52
   go_wp2_with (first | ((with_reducible refine gate_callee (f := 47) rfl ?_); refine gL_ (some 4) Try.func47 #[.slice A0 l0.length c0] ?_; (with_reducible refine (impl_IsAscending.calls k _ _ l0 false _ ?side1 ?side2 A2.out).mono ?_); (case side1 => exact ce_ (HR0.out)); (case side2 => exact HC0.out); rintro e w' ⟨rfl, ⟨nd, rfl⟩⟩; refine ⟨_, rfl, ?_⟩))
   go_ret
   exact ⟨by first | rfl | (simp; done) | (simp [*]; done), by repeat (first | exact Drawn0.refl _ | apply Drawn0.step)⟩
 subst c3
 rw [if_pos rfl] at H
 obtain ⟨t607, A4, H⟩ := ob_ H
 obtain rfl := Option.some.inj H
 go_enter Try.func52, Try.ntmps52
 go_wp2_with (first | ((with_reducible refine gate_callee (f := 47) rfl ?_); refine gL_ (some 4) Try.func47 #[.slice A0 l0.length c0] ?_; (with_reducible refine (impl_IsAscending.calls k _ _ l0 true _ ?side1 ?side2 A2.out).mono ?_); (case side1 => exact ce_ (HR0.out)); (case side2 => exact HC0.out); rintro e w' ⟨rfl, ⟨nd, rfl⟩⟩; refine ⟨_, rfl, ?_⟩) | (go_at_call 46; (with_reducible refine (impl_allWithin.calls k _ _ l0 1 199 t607 _ ?side1 ?side2 A4.out).mono ?_); (case side1 => exact ce_ (HR0.out)); (case side2 => exact HC0.out); rintro e w' ⟨rfl, ⟨nd, rfl⟩⟩))
 go_ret
 exact ⟨by first | rfl | (simp; done) | (simp [*]; done), by repeat (first | exact Drawn0.refl _ | apply Drawn0.step)⟩
end Go.Proofs.Ytppkokbhgkeknaa.PA
end
