-- Bundled by shake.py from this session's printed and written texts; Lean checks it.
import Derived.Test.YtppkokbhgkeknaaZFnArfx1
section
namespace Go.Proofs.Ytppkokbhgkeknaa.PA
open Go.RowKit Go.Proofs.YtppkokbhgkeknaaW.PrintWords Go.Proofs.YtppkokbhgkeknaaW.PrintLast Go.Proofs.YtppkokbhgkeknaaW.PrintMore
attribute [local go_sem] max2_int min2_int max_two min_two max_three min_three max_four min_four
set_option linter.unusedVariables false
set_option linter.unusedSimpArgs false
set_option maxHeartbeats 8000000
set_option maxRecDepth 100000
mutual
def spec_GcdOf.j0 : Nat → Int → Int → Bool → Option (Int)
 | 0, _, _, _ => none
 | k + 1, x0, x1, x13 => if x13 = true then (some 0) else ((spec_l1Max.f x0 (wrap64 (-x0))).bind fun t130 => ((spec_l1Max.f x1 (wrap64 (-x1))).bind fun t131 => (spec_GcdOf.l0 k t130 t131)))
def spec_GcdOf.l0 : Nat → Int → Int → Option (Int)
 | 0, _, _ => none
 | k + 1, x0, x1 => if x1 > 0 then (if x1 = 0 then (none) else (spec_GcdOf.l0 k x1 (Int.tmod x0 x1))) else (some x0)
end
def spec_GcdOf.f (k : Nat) (a0 : Int) (a1 : Int) : Option (Int) := (spec_l2Small.f a0).bind fun t128 => (if t128 = true then ((spec_l2Small.f a1).bind fun t129 => (spec_GcdOf.j0 k a0 a1 (!t129))) else (spec_GcdOf.j0 k a0 a1 true))
theorem spec_GcdOf.mono_l : ∀ k, (∀ y0 y1 y2, LeO (spec_GcdOf.j0 k y0 y1 y2) (spec_GcdOf.j0 (k + 1) y0 y1 y2)) ∧ (∀ y0 y1, LeO (spec_GcdOf.l0 k y0 y1) (spec_GcdOf.l0 (k + 1) y0 y1))
 | 0 => ⟨fun _ _ _ r h => by simp [spec_GcdOf.j0] at h, fun _ _ r h => by simp [spec_GcdOf.l0] at h⟩
 | k + 1 => by
  obtain ⟨ih0, ih1⟩ := spec_GcdOf.mono_l k
  refine ⟨?_, ?_⟩
  · intro y0 y1 y2
    unfold spec_GcdOf.j0
    repeat' first
    | (with_reducible exact ih0 _ _ _)
    | (with_reducible exact ih1 _ _)
    | (with_reducible exact LeO.refl _)
    | (with_reducible exact LeO.none _)
    | (with_reducible refine LeO.ite ?_ ?_)
    | (with_reducible refine LeO.bind ?_ (fun _ => ?_))
    | exact ih0 _ _ _
    | exact ih1 _ _
    | exact LeO.none _
    | refine LeO.ite ?_ ?_
    | refine LeO.bind ?_ (fun _ => ?_)
  · intro y0 y1
    unfold spec_GcdOf.l0
    repeat' first
    | (with_reducible exact ih0 _ _ _)
    | (with_reducible exact ih1 _ _)
    | (with_reducible exact LeO.refl _)
    | (with_reducible exact LeO.none _)
    | (with_reducible refine LeO.ite ?_ ?_)
    | (with_reducible refine LeO.bind ?_ (fun _ => ?_))
    | exact ih0 _ _ _
    | exact ih1 _ _
    | exact LeO.none _
    | refine LeO.ite ?_ ?_
    | refine LeO.bind ?_ (fun _ => ?_)
theorem spec_GcdOf.mono : ∀ a0 a1 k, LeO (spec_GcdOf.f k a0 a1) (spec_GcdOf.f (k + 1) a0 a1) := by
 intro a0 a1 k
 obtain ⟨ih0, ih1⟩ := spec_GcdOf.mono_l k
 unfold spec_GcdOf.f
 repeat' first
  | (with_reducible exact ih0 _ _ _)
  | (with_reducible exact ih1 _ _)
  | (with_reducible exact LeO.refl _)
  | (with_reducible exact LeO.none _)
  | (with_reducible refine LeO.ite ?_ ?_)
  | (with_reducible refine LeO.bind ?_ (fun _ => ?_))
  | exact ih0 _ _ _
  | exact ih1 _ _
  | exact LeO.none _
  | refine LeO.ite ?_ ?_
  | refine LeO.bind ?_ (fun _ => ?_)
theorem spec_GcdOf.calls (k : Nat) (a0 : Int) (a1 : Int) (r : Int) (w : World) (h : spec_GcdOf.f k a0 a1 = some r) :
 Calls Try.prog 74 #[.int .i64 a0, .int .i64 a1] w fun e w' => e = .returned (.int .i64 r) ∧ Drawn0 w w' := by
 have H := h
 clear h
 unfold spec_GcdOf.f at H
 have HC3 := Aside0.mk H
 clear H
 go_enter Try.func74, Try.ntmps74
 go_upto_region 1 with (fail)
 go_cut [13] (fun v13 wc => ∃ (kq : Nat) (x13_2 : Bool), v13 = .bool x13_2 ∧ Aside0 (spec_GcdOf.j0 kq a0 a1 x13_2 = some r) ∧ Aside0 (kq ≤ k) ∧ Drawn0 w wc)
 case first =>
  have H := HC3.out
  clear HC3
  obtain ⟨t128, A4, H⟩ := ob_ H
  by_cases c5 : t128 = true
  rotate_left
  · replace c5 := Bool.eq_false_iff.mpr c5
    subst c5
    rw [if_neg (show ¬ (false = true) by decide)] at H
    have H' := Aside0.mk H
    clear H
    go_wp2_with (first | ((with_reducible refine gate_callee (f := 80) rfl ?_); refine gL_ (some 7) Try.func80 #[.int .i64 a0] ?_; (with_reducible refine (spec_l2Small.calls a0 false _ A4.out).mono ?_); rintro e w' ⟨rfl, ⟨nd, rfl⟩⟩; refine ⟨_, rfl, ?_⟩))
    go_meet
    case rel => exact ⟨_, (true), rs_, H', ⟨by first | omega | exact Nat.le_refl _⟩, by repeat (first | exact Drawn0.refl _ | apply Drawn0.step)⟩
  subst c5
  rw [if_pos rfl] at H
  obtain ⟨t129, A6, H⟩ := ob_ H
  have H' := Aside0.mk H
  clear H
  go_wp2_with (first | ((with_reducible refine gate_callee (f := 80) rfl ?_); refine gL_ (some 7) Try.func80 #[.int .i64 a0] ?_; (with_reducible refine (spec_l2Small.calls a0 true _ A4.out).mono ?_); rintro e w' ⟨rfl, ⟨nd, rfl⟩⟩; refine ⟨_, rfl, ?_⟩) | (go_at_call 80; (with_reducible refine (spec_l2Small.calls a1 t129 _ A6.out).mono ?_); rintro e w' ⟨rfl, ⟨nd, rfl⟩⟩))
  go_meet
  case rel => exact ⟨_, (!t129), rs_, H', ⟨by first | omega | exact Nat.le_refl _⟩, by repeat (first | exact Drawn0.refl _ | apply Drawn0.step)⟩
 case rest =>
  clear HC3
  obtain ⟨kq, x13_2, rfl, HA, HJ2, ⟨mc2, rfl⟩⟩ := hcut
  cases kq with
  | zero => exact absurd HA.out (by simp [spec_GcdOf.j0])
  | succ kj2 =>
   have H := HA.out
   clear HA
   simp only [spec_GcdOf.j0] at H
   by_cases c7 : x13_2 = true
   · subst c7
     rw [if_pos rfl] at H
     obtain rfl := Option.some.inj H
     go_wp2
     go_ret
     exact ⟨by first | rfl | (simp; done) | (simp [*]; done), by repeat (first | exact Drawn0.refl _ | apply Drawn0.step)⟩
   replace c7 := Bool.eq_false_iff.mpr c7
   subst c7
   rw [if_neg (show ¬ (false = true) by decide)] at H
   obtain ⟨t130, A8, H⟩ := ob_ H
   obtain ⟨t131, A9, H⟩ := ob_ H
   have H' := Aside0.mk H
   clear H
   go_wp2_with (first | ((with_reducible refine gate_callee (f := 81) rfl ?_); refine gL_ (some 17) Try.func81 #[.int .i64 a0, .int .i64 (wrap64 (-a0))] ?_; (with_reducible refine (spec_l1Max.calls a0 (wrap64 (-a0)) t130 _ A8.out).mono ?_); rintro e w' ⟨rfl, ⟨nd, rfl⟩⟩; refine ⟨_, rfl, ?_⟩) | ((with_reducible refine gate_callee (f := 81) rfl ?_); refine gL_ (some 21) Try.func81 #[.int .i64 a1, .int .i64 (wrap64 (-a1))] ?_; (with_reducible refine (spec_l1Max.calls a1 (wrap64 (-a1)) t131 _ A9.out).mono ?_); rintro e w' ⟨rfl, ⟨nd, rfl⟩⟩; refine ⟨_, rfl, ?_⟩))
   go_loopg [0, 1] kj2 (fun kq v0 v1 w' => ∃ (x0_2 : Int) (x1_2 : Int), v0 = .int .i64 x0_2 ∧ v1 = .int .i64 x1_2 ∧ Aside0 (spec_GcdOf.l0 kq x0_2 x1_2 = some r) ∧ Aside0 (kq ≤ kj2) ∧ Drawn0 w w')
   case atStart => exact ⟨(t130), (t131), rs_, rs_, H', ⟨Nat.le_refl _⟩, by repeat (first | exact Drawn0.refl _ | apply Drawn0.step)⟩
   case round =>
    clear H'
    obtain ⟨x0_2, x1_2, rfl, rfl, HA, HK2, ⟨m2, rfl⟩⟩ := hrel
    cases gk with
    | zero => exact absurd HA.out (by simp [spec_GcdOf.l0])
    | succ k2 =>
     have H := HA.out
     clear HA
     simp only [spec_GcdOf.l0] at H
     by_cases c10 : x1_2 > 0
     rotate_left
     · rw [if_neg c10] at H
       have c10b0 : decide (0 < x1_2) = false := decide_eq_false c10
       clear c10
       obtain rfl := Option.some.inj H
       go_wp2
       go_ret
       exact ⟨by first | rfl | (simp; done) | (simp [*]; done), by repeat (first | exact Drawn0.refl _ | apply Drawn0.step)⟩
     rw [if_pos c10] at H
     have c10b0 : decide (0 < x1_2) = true := decide_eq_true c10
     clear c10
     obtain ⟨c11, H⟩ := in_ H
     have c11b0 : (x1_2 == 0) = false := beq_eq_false_iff_ne.mpr c11
     have c11b1 : (x1_2 != 0) = true := bne_iff_ne.mpr c11
     have H' := Aside0.mk H
     clear H
     go_wp2
     go_roundg k2
     case measure => have := HJ2.out; have := HK2.out; omega
     case rel => exact ⟨(x1_2), (Int.tmod x0_2 x1_2), rs_, rs_, H', ⟨by have := HJ2.out; have := HK2.out; omega⟩, by repeat (first | exact Drawn0.refl _ | apply Drawn0.step)⟩
def spec_GcdOfList.l0 : Nat → List Int → Int → Int → Option (Int)
 | 0, _, _, _ => none
 | k + 1, x0, x3, x4 => if x4 < (x0.length : Int) then (if 0 ≤ x4 then ((spec_GcdOf.f k x3 (rd x0 x4)).bind fun t133 => (spec_GcdOfList.l0 k x0 t133 (wrap64 (x4 + 1)))) else (none)) else (some x3)
def spec_GcdOfList.f (k : Nat) (l0 : List Int) : Option (Int) := spec_GcdOfList.l0 k l0 0 0
theorem spec_GcdOfList.mono_l : ∀ k, (∀ y0 y1 y2, LeO (spec_GcdOfList.l0 k y0 y1 y2) (spec_GcdOfList.l0 (k + 1) y0 y1 y2))
 | 0 => fun _ _ _ r h => by simp [spec_GcdOfList.l0] at h
 | k + 1 => by
  have ih0 := spec_GcdOfList.mono_l k
  · intro y0 y1 y2
    unfold spec_GcdOfList.l0
    repeat' first
    | (with_reducible exact ih0 _ _ _)
    | (with_reducible exact spec_GcdOf.mono _ _ _)
    | (with_reducible exact LeO.refl _)
    | (with_reducible exact LeO.none _)
    | (with_reducible refine LeO.ite ?_ ?_)
    | (with_reducible refine LeO.bind ?_ (fun _ => ?_))
    | exact ih0 _ _ _
    | exact LeO.none _
    | refine LeO.ite ?_ ?_
    | refine LeO.bind ?_ (fun _ => ?_)
theorem spec_GcdOfList.mono : ∀ a0 k, LeO (spec_GcdOfList.f k a0) (spec_GcdOfList.f (k + 1) a0) := by
 intro a0 k
 have ih0 := spec_GcdOfList.mono_l k
 unfold spec_GcdOfList.f
 repeat' first
  | (with_reducible exact ih0 _ _ _)
  | (with_reducible exact spec_GcdOf.mono _ _ _)
  | (with_reducible exact LeO.refl _)
  | (with_reducible exact LeO.none _)
  | (with_reducible refine LeO.ite ?_ ?_)
  | (with_reducible refine LeO.bind ?_ (fun _ => ?_))
  | exact ih0 _ _ _
  | exact LeO.none _
  | refine LeO.ite ?_ ?_
  | refine LeO.bind ?_ (fun _ => ?_)
theorem spec_GcdOfList.calls (k : Nat) (A0 : Option Addr) (c0 : Nat) (l0 : List Int) (r : Int) (w : World) (hr0 : Kd.C (Kd.int .i64) w A0 l0.length l0) (hc0 : l0.length ≤ c0) (h : spec_GcdOfList.f k l0 = some r) :
 Calls Try.prog 57 #[.slice A0 l0.length c0] w fun e w' => e = .returned (.int .i64 r) ∧ Drawn0 w w' := by
 have HR0 := Aside0.mk hr0
 have HC0 := Aside0.mk hc0
 clear hr0 hc0
 have H := h
 clear h
 unfold spec_GcdOfList.f at H
 have H' := Aside0.mk H
 clear H
 go_enter Try.func57, Try.ntmps57
 go_wp2
 go_loopg [3, 4] k (fun kq v3 v4 w' => ∃ (x3_1 : Int) (x4_1 : Int), v3 = .int .i64 x3_1 ∧ v4 = .int .i64 x4_1 ∧ Aside0 (spec_GcdOfList.l0 kq l0 x3_1 x4_1 = some r) ∧ Aside0 (kq ≤ k) ∧ Drawn0 w w')
 case atStart => exact ⟨(0), (0), rs_, rs_, H', ⟨Nat.le_refl _⟩, by repeat (first | exact Drawn0.refl _ | apply Drawn0.step)⟩
 case round =>
  clear H'
  obtain ⟨x3_1, x4_1, rfl, rfl, HA, HK1, ⟨m1, rfl⟩⟩ := hrel
  cases gk with
  | zero => exact absurd HA.out (by simp [spec_GcdOfList.l0])
  | succ k1 =>
   have H := HA.out
   clear HA
   simp only [spec_GcdOfList.l0] at H
   by_cases c2 : x4_1 < (l0.length : Int)
   rotate_left
   · rw [if_neg c2] at H
     have c2b0 : decide (x4_1 < (l0.length : Int)) = false := decide_eq_false c2
     clear c2
     obtain rfl := Option.some.inj H
     go_wp2
     go_ret
     exact ⟨by first | rfl | (simp; done) | (simp [*]; done), by repeat (first | exact Drawn0.refl _ | apply Drawn0.step)⟩
   rw [if_pos c2] at H
   have c2b0 : decide (x4_1 < (l0.length : Int)) = true := decide_eq_true c2
   clear c2
   obtain ⟨c3b0, H⟩ := ipd_ H
   obtain ⟨t133, A4, H⟩ := ob_ H
   have H' := Aside0.mk H
   clear H
   have p132 : 0 ≤ (x4_1 : Int) := od_
   have q132 : x4_1 < (l0.length : Int) := od_
   obtain ⟨ad132, e132, hx132_0⟩ := Kd.at_int HR0.out x4_1 p132 q132
   cases e132
   replace p132 := eq_true p132
   replace q132 := eq_true q132
   go_wp2_with (first | ((with_reducible refine gate_callee (f := 74) rfl ?_); refine gL_ (some 16) Try.func74 #[.int .i64 x3_1, .int .i64 (rd l0 x4_1)] ?_; (with_reducible refine (spec_GcdOf.calls k1 x3_1 (rd l0 x4_1) t133 _ A4.out).mono ?_); rintro e w' ⟨rfl, ⟨nd, rfl⟩⟩; refine ⟨_, rfl, ?_⟩))
   go_roundg k1
   case measure => have := HK1.out; omega
   case rel => exact ⟨(t133), (wrap64 (x4_1 + 1)), rs_, rs_, H', ⟨by have := HK1.out; omega⟩, by repeat (first | exact Drawn0.refl _ | apply Drawn0.step)⟩
mutual
def spec_l3Table.l0 : Nat → List Int → Int → List Bool → Int → Option (List Bool)
 | 0, _, _, _, _ => none
 | k + 1, x0, x1, x5, x6 => if x6 ≤ x1 then (spec_l3Table.l1 k x0 x1 x5 x6 0) else (some x5)
def spec_l3Table.l1 : Nat → List Int → Int → List Bool → Int → Int → Option (List Bool)
 | 0, _, _, _, _, _ => none
 | k + 1, x0, x1, x5, x6, x7 => if x7 < (x0.length : Int) then (if 0 ≤ x7 then (if x6 ≥ (rd x0 x7) then (if 0 ≤ (wrap64 (x6 - (rd x0 x7))) then (if (wrap64 (x6 - (rd x0 x7))) < (x5.length : Int) then (if rdOf false x5 (wrap64 (x6 - (rd x0 x7))) = true then (if 0 ≤ x6 then (if x6 < (x5.length : Int) then (spec_l3Table.l1 k x0 x1 (x5.set (x6 : Int).toNat true) x6 (wrap64 (x7 + 1))) else (none)) else (none)) else (spec_l3Table.l1 k x0 x1 x5 x6 (wrap64 (x7 + 1)))) else (none)) else (none)) else (spec_l3Table.l1 k x0 x1 x5 x6 (wrap64 (x7 + 1)))) else (none)) else (spec_l3Table.l0 k x0 x1 x5 (wrap64 (x6 + 1)))
end
def spec_l3Table.f (k : Nat) (l0 : List Int) (a1 : Int) : Option (List Bool) := if 0 ≤ (wrap64 (a1 + 1)) then (if (wrap64 (a1 + 1) : Int).toNat ≤ 281474976710656 then ((some (List.replicate (wrap64 (a1 + 1) : Int).toNat false : List Bool)).bind fun y134 => (if 0 < (y134.length : Int) then (spec_l3Table.l0 k l0 a1 (y134.set (0 : Int).toNat true) 1) else (none))) else (none)) else (none)
theorem spec_l3Table.mono_l : ∀ k, (∀ y0 y1 y2 y3, LeO (spec_l3Table.l0 k y0 y1 y2 y3) (spec_l3Table.l0 (k + 1) y0 y1 y2 y3)) ∧ (∀ y0 y1 y2 y3 y4, LeO (spec_l3Table.l1 k y0 y1 y2 y3 y4) (spec_l3Table.l1 (k + 1) y0 y1 y2 y3 y4))
 | 0 => ⟨fun _ _ _ _ r h => by simp [spec_l3Table.l0] at h, fun _ _ _ _ _ r h => by simp [spec_l3Table.l1] at h⟩
 | k + 1 => by
  obtain ⟨ih0, ih1⟩ := spec_l3Table.mono_l k
  refine ⟨?_, ?_⟩
  · intro y0 y1 y2 y3
    unfold spec_l3Table.l0
    repeat' first
    | (with_reducible exact ih0 _ _ _ _)
    | (with_reducible exact ih1 _ _ _ _ _)
    | (with_reducible exact LeO.refl _)
    | (with_reducible exact LeO.none _)
    | (with_reducible refine LeO.ite ?_ ?_)
    | (with_reducible refine LeO.bind ?_ (fun _ => ?_))
    | exact ih0 _ _ _ _
    | exact ih1 _ _ _ _ _
    | exact LeO.none _
    | refine LeO.ite ?_ ?_
    | refine LeO.bind ?_ (fun _ => ?_)
  · intro y0 y1 y2 y3 y4
    unfold spec_l3Table.l1
    repeat' first
    | (with_reducible exact ih0 _ _ _ _)
    | (with_reducible exact ih1 _ _ _ _ _)
    | (with_reducible exact LeO.refl _)
    | (with_reducible exact LeO.none _)
    | (with_reducible refine LeO.ite ?_ ?_)
    | (with_reducible refine LeO.bind ?_ (fun _ => ?_))
    | exact ih0 _ _ _ _
    | exact ih1 _ _ _ _ _
    | exact LeO.none _
    | refine LeO.ite ?_ ?_
    | refine LeO.bind ?_ (fun _ => ?_)
theorem spec_l3Table.mono : ∀ a0 a1 k, LeO (spec_l3Table.f k a0 a1) (spec_l3Table.f (k + 1) a0 a1) := by
 intro a0 a1 k
 obtain ⟨ih0, ih1⟩ := spec_l3Table.mono_l k
 unfold spec_l3Table.f
 repeat' first
  | (with_reducible exact ih0 _ _ _ _)
  | (with_reducible exact ih1 _ _ _ _ _)
  | (with_reducible exact LeO.refl _)
  | (with_reducible exact LeO.none _)
  | (with_reducible refine LeO.ite ?_ ?_)
  | (with_reducible refine LeO.bind ?_ (fun _ => ?_))
  | exact ih0 _ _ _ _
  | exact ih1 _ _ _ _ _
  | exact LeO.none _
  | refine LeO.ite ?_ ?_
  | refine LeO.bind ?_ (fun _ => ?_)
theorem spec_l3Table.calls (k : Nat) (A0 : Option Addr) (c0 : Nat) (l0 : List Int) (a1 : Int) (r : List Bool) (w : World) (hr0 : Kd.C (Kd.int .i64) w A0 l0.length l0) (hc0 : l0.length ≤ c0) (h : spec_l3Table.f k l0 a1 = some r) :
 Calls Try.prog 60 #[.slice A0 l0.length c0, .int .i64 a1] w fun e w' => ∃ v0_ : Value, e = .returned (v0_) ∧ Kd.R Kd.bool 4 w' w.heap.size (fun _ => True) v0_ r ∧ Below w.heap.size w w' := by
 have HR0 := Aside0.mk hr0
 have HC0 := Aside0.mk hc0
 clear hr0 hc0
 have HB := Aside0.mk (Below.refl w.heap.size w)
 have H := h
 clear h
 unfold spec_l3Table.f at H
 obtain ⟨ji3, hji3⟩ : ∃ j_ : Int, (wrap64 (a1 + 1)) = j_ := ⟨_, rfl⟩
 replace H : (if 0 ≤ (ji3) then (if (ji3 : Int).toNat ≤ 281474976710656 then ((some (List.replicate (ji3 : Int).toNat false : List Bool)).bind fun y134 => (if 0 < (y134.length : Int) then (spec_l3Table.l0 k l0 a1 (y134.set (0 : Int).toNat true) 1) else (none))) else (none)) else (none)) = some r := by first | (rw [hji3] at H; exact H) | (simp only [hji3] at H ⊢; exact H)
 have hji3w : (IntKind.i64.wrap (a1 + 1)) = ji3 := (i64_w _).trans hji3
 obtain ⟨c4, H⟩ := ip_ H
 have c4b0 := eq_true c4
 have c4b1 : decide (0 ≤ (ji3)) = true := decide_eq_true c4
 clear c4
 obtain ⟨c5, H⟩ := ip_ H
 have c5b0 := eq_true c5
 have c5b1 : decide ((ji3 : Int).toNat ≤ 281474976710656) = true := decide_eq_true c5
 clear c5
 obtain ⟨y134, hy134⟩ : ∃ y_ : List Bool, y_ = (List.replicate (ji3 : Int).toNat false) := ⟨_, rfl⟩
 replace H : (if 0 < (y134.length : Int) then (spec_l3Table.l0 k l0 a1 (y134.set (0 : Int).toNat true) 1) else (none)) = some r := by subst hy134; exact H
 have Ny134 := Aside0.mk hy134
 clear hy134
 obtain ⟨c6, H⟩ := ip_ H
 have c6b0 : decide (0 < (y134.length : Int)) = true := decide_eq_true c6
 have c6b1 : decide (0 < y134.length) = true := decide_eq_true (by omega)
 clear c6
 obtain ⟨y137, hy137⟩ : ∃ y_ : List Bool, y_ = (y134.set (0 : Int).toNat true) := ⟨_, rfl⟩
 replace H : (spec_l3Table.l0 k l0 a1 y137 1) = some r := by subst hy137; exact H
 have Ny137 := Aside0.mk hy137
 clear hy137
 have H' := Aside0.mk H
 clear H
 go_enter Try.func60, Try.ntmps60
 go_wp2_with (first | ((with_reducible refine gate_dst (N := 10) rfl ?_); refine Kd.R_make Kd.bool _ 4 rfl (N := 10) rfl 42 _ _ rfl ji3 rfl rfl Try.underlying42 (.bool false) 1 info4 rfl (by decide) (by omega) false (ok := fun _ => True) (okp := fun _ => True) rfl (fun _ hk => hk) trivial (od_) (Nat.le_trans (Nat.mul_le_mul_right _ (od_ : ji3.toNat ≤ 281474976710656)) (by omega)) (Below.refl _ _) (Nat.le_refl _) ?_; intro v135 w8 ho9 hb hg_ hnew_; clear hg_ hnew_; (first | rw [← Ny134.out] at ho9 | (simp only [Int.reduceToNat] at ho9; rw [← Ny134.out] at ho9)); have HO136 := Aside0.mk (Kd.R_lower ho9 (below_size (bl_ HB.out))); replace HB := bo_ HB hb; clear hb ho9; have p7 : 0 ≤ (0 : Int) := (by omega); have q7 : (0 : Int) < ((y134.length : Int) : Int) := od_; have qi7 : (0 < y134.length) = True := eq_true (by omega); obtain ⟨go7, co7, eo7, gb7, gl7, cl7, HG7⟩ := Kd.R_form HO136.out (by omega); (first | cases eo7 | (injection eo7 with ea_ en_ ec_; (first | subst ea_ | (injection ea_ with ea_; subst ea_)); subst ec_; clear en_)); have GB7 := Aside0.mk gb7; have GG7 := Aside0.mk HG7; clear gb7 gl7 HG7; obtain ⟨hx7_0, hf7_0⟩ := Kd.R_celln false HO136.out (0 : Int) p7 q7; (try rw [show ((0 : Int)).toNat = 0 from rfl] at hx7_0); (try simp only [Nat.reduceMul, Nat.zero_mul, Nat.zero_add, Nat.reduceAdd] at hx7_0); (try rw [show ((0 : Int)).toNat = 0 from rfl] at hf7_0); (try simp only [Nat.reduceMul, Nat.zero_mul, Nat.zero_add, Nat.reduceAdd] at hf7_0); replace p7 := eq_true p7; replace q7 := eq_true q7; obtain ⟨hy10_, hz10_⟩ := Kd.R_celln false HO136.out (0 : Int) (by omega) (od_); (try simp only [Int.reduceToNat, Int.toNat_zero, Int.toNat_ofNat, Nat.reduceMul, Nat.zero_mul, Nat.zero_add] at hy10_ hz10_); (try rw [show ((0 : Int)).toNat = 0 from rfl] at hy10_); (try rw [show ((0 : Int)).toNat = 0 from rfl] at hz10_); have HP10 := Kd.R_putg HO136.out (0 : Int) true) | ((with_reducible refine gate_store (t := 4) (p := 12) rfl ?_); refine store_event (t := 4) (p := 12) (v := ?vo_w11) (w1 := (w8.setCell ⟨go7, (0 : Int).toNat, none⟩ (.bool true))) ?hg ?ho ?hn ?hr ?_; (case ho => rfl); (case hg => rfl); (case hn => rfl); (case hr => first | (go_simp; done) | (go_simp; rfl)); intro w11 hw; have hg : w8.grownBy w11 (some go7) := (by rw [hw]; exact HP10.2); have hp_ : Kd.R Kd.bool 4 w11 w.heap.size (fun _ => True) (.slice (some ⟨go7, 0, none⟩) y134.length co7) y137 := (by rw [hw, Ny137.out]; exact HP10.1); clear HP10; replace HO136 := Aside0.mk (hp_); replace HB := Aside0.mk ((by rw [hw]; exact below_set (HB.out) GB7.out : Below w.heap.size w w11)); clear hg hw hp_))
 go_loopg [6] k (fun kq v6 w' => ∃ (x5_1 : List Bool) (x6_1 : Int), v6 = .int .i64 x6_1 ∧ Aside0 (spec_l3Table.l0 kq l0 a1 x5_1 x6_1 = some r) ∧ Aside0 (kq ≤ k) ∧ Aside0 (Kd.R Kd.bool 4 w' w.heap.size (fun _ => True) (.slice (some ⟨go7, 0, none⟩) y134.length co7) x5_1) ∧ Aside0 (Below w.heap.size w w'))
 case atStart => exact ⟨(y137), (1), rs_, H', ⟨Nat.le_refl _⟩, ⟨re_ HO136.out⟩, ⟨bl_ HB.out⟩⟩
 case round =>
  clear H'
  try clear c4b0
  try clear c4b1
  try clear c5b0
  try clear c5b1
  try clear c6b0
  try clear c6b1
  try clear p7
  try clear q7
  try clear qi7
  try clear hx7_0
  obtain ⟨x5_1, x6_1, rfl, HA, HK1, HO_5, HB⟩ := hrel
  have hl5_1 := (Kd.R_reads' HO_5.out).1
  rw [hl5_1] at HO_5
  (try simp only [hl5_1])
  cases gk with
  | zero => exact absurd HA.out (by simp [spec_l3Table.l0])
  | succ k1 =>
   have H := HA.out
   clear HA
   simp only [spec_l3Table.l0] at H
   by_cases c12 : x6_1 ≤ a1
   rotate_left
   · rw [if_neg c12] at H
     have c12b0 : decide (x6_1 ≤ a1) = false := decide_eq_false c12
     clear c12
     obtain rfl := Option.some.inj H
     go_wp2
     go_ret
     exact ⟨_, by first | rfl | (simp [errW_none, errW_some] <;> rfl) | (simp only [← hji3]; first | rfl | (simp [errW_none, errW_some] <;> rfl)) | (simp [*, errW_none, errW_some] <;> rfl), re_ HO_5.out, bl_ HB.out⟩
   rw [if_pos c12] at H
   have c12b0 : decide (x6_1 ≤ a1) = true := decide_eq_true c12
   clear c12
   have H' := Aside0.mk H
   clear H
   go_wp2
   go_loopg [7] k1 (fun kq v7 w' => ∃ (x5_2 : List Bool) (x7_2 : Int), v7 = .int .i64 x7_2 ∧ Aside0 (spec_l3Table.l1 kq l0 a1 x5_2 x6_1 x7_2 = some r) ∧ Aside0 (kq ≤ k1) ∧ Aside0 (Kd.R Kd.bool 4 w' w.heap.size (fun _ => True) (.slice (some ⟨go7, 0, none⟩) x5_1.length co7) x5_2) ∧ Aside0 (Below w.heap.size w w'))
   case atStart => exact ⟨(x5_1), (0), rs_, H', ⟨Nat.le_refl _⟩, ⟨by (try simp only [hl5_1]); (with_reducible repeat (first | apply Kd.R_alloc | apply Kd.R_drewN | apply Kd.R_drew)); exact HO_5.out⟩, ⟨bl_ HB.out⟩⟩
   case round =>
    clear H'
    try clear c12b0
    obtain ⟨x5_2, x7_2, rfl, HA, HK2, HO_5, HB⟩ := hrel
    have hl5_2 := (Kd.R_reads' HO_5.out).1
    rw [hl5_2] at HO_5
    (try simp only [hl5_2])
    cases gk with
    | zero => exact absurd HA.out (by simp [spec_l3Table.l1])
    | succ k2 =>
     have H := HA.out
     clear HA
     simp only [spec_l3Table.l1] at H
     by_cases c13 : x7_2 < (l0.length : Int)
     rotate_left
     · rw [if_neg c13] at H
       have c13b0 : decide (x7_2 < (l0.length : Int)) = false := decide_eq_false c13
       (try (have c13h := c13b0; simp only [hl5_1, hl5_2] at c13h))
       clear c13
       have H' := Aside0.mk H
       clear H
       go_wp2
       (try simp only [← hl5_1, ← hl5_2])
       go_roundg k2
       case measure => have := HK1.out; have := HK2.out; omega
       case rel => exact ⟨(x5_2), (wrap64 (x6_1 + 1)), rs_, H', ⟨by have := HK1.out; have := HK2.out; omega⟩, ⟨by (try simp only [hl5_1]); (try simp only [hl5_2]); (with_reducible repeat (first | apply Kd.R_alloc | apply Kd.R_drewN | apply Kd.R_drew)); exact HO_5.out⟩, ⟨bl_ HB.out⟩⟩
     rw [if_pos c13] at H
     have c13b0 : decide (x7_2 < (l0.length : Int)) = true := decide_eq_true c13
     (try (have c13h := c13b0; simp only [hl5_1, hl5_2] at c13h))
     clear c13
     obtain ⟨c14b0, H⟩ := ipd_ H
     by_cases c15 : x6_1 ≥ (rd l0 x7_2)
     rotate_left
     · rw [if_neg c15] at H
       have c15b0 : decide ((rd l0 x7_2) ≤ x6_1) = false := decide_eq_false c15
       clear c15
       have H' := Aside0.mk H
       clear H
       have p138 : 0 ≤ (x7_2 : Int) := od_
       have q138 : x7_2 < (l0.length : Int) := od_
       obtain ⟨ad138, e138, hx138_0⟩ := Kd.at_int HR0.out x7_2 p138 q138
       cases e138
       (try replace hx138_0 := (HB.out.cell (World.block_lt_of_cell? w _ hx138_0)).trans hx138_0)
       replace p138 := eq_true p138
       replace q138 := eq_true q138
       go_wp2
       (try simp only [← hl5_2])
       go_roundg k2
       case measure => have := HK1.out; have := HK2.out; omega
       case rel => exact ⟨(x5_2), (wrap64 (x7_2 + 1)), rs_, H', ⟨by have := HK1.out; have := HK2.out; omega⟩, ⟨by (try simp only [hl5_1]); (try simp only [hl5_2]); (with_reducible repeat (first | apply Kd.R_alloc | apply Kd.R_drewN | apply Kd.R_drew)); exact HO_5.out⟩, ⟨bl_ HB.out⟩⟩
     rw [if_pos c15] at H
     have c15b0 : decide ((rd l0 x7_2) ≤ x6_1) = true := decide_eq_true c15
     clear c15
     obtain ⟨ji16, hji16⟩ : ∃ j_ : Int, (wrap64 (x6_1 - (rd l0 x7_2))) = j_ := ⟨_, rfl⟩
     replace H : (if 0 ≤ (ji16) then (if (ji16) < (x5_2.length : Int) then (if rdOf false x5_2 (ji16) = true then (if 0 ≤ x6_1 then (if x6_1 < (x5_2.length : Int) then (spec_l3Table.l1 k2 l0 a1 (x5_2.set (x6_1 : Int).toNat true) x6_1 (wrap64 (x7_2 + 1))) else (none)) else (none)) else (spec_l3Table.l1 k2 l0 a1 x5_2 x6_1 (wrap64 (x7_2 + 1)))) else (none)) else (none)) = some r := by first | (rw [hji16] at H; exact H) | (simp only [hji16] at H ⊢; exact H)
     have hji16w : (IntKind.i64.wrap (x6_1 - (rd l0 x7_2))) = ji16 := (i64_w _).trans hji16
     obtain ⟨c17b0, H⟩ := ipd_ H
     obtain ⟨c18, H⟩ := ip_ H
     have c18b0 : decide ((ji16) < (x5_2.length : Int)) = true := decide_eq_true c18
     (try (have c18h := c18b0; simp only [hl5_1, hl5_2] at c18h))
     clear c18
     obtain ⟨bq19, hbq19⟩ : ∃ b_ : Bool, b_ = (rdOf false x5_2 (ji16)) := ⟨_, rfl⟩
     replace H : (if bq19 = true then (if 0 ≤ x6_1 then (if x6_1 < (x5_2.length : Int) then (spec_l3Table.l1 k2 l0 a1 (x5_2.set (x6_1 : Int).toNat true) x6_1 (wrap64 (x7_2 + 1))) else (none)) else (none)) else (spec_l3Table.l1 k2 l0 a1 x5_2 x6_1 (wrap64 (x7_2 + 1)))) = some r := by rw [← hbq19] at H; exact H
     have Nbq19 := Aside0.mk hbq19
     clear hbq19
     by_cases c20 : bq19 = true
     rotate_left
     · replace c20 := Bool.eq_false_iff.mpr c20
       subst c20
       rw [if_neg (show ¬ (false = true) by decide)] at H
       have H' := Aside0.mk H
       clear H
       have p138 : 0 ≤ (x7_2 : Int) := od_
       have q138 : x7_2 < (l0.length : Int) := od_
       obtain ⟨ad138, e138, hx138_0⟩ := Kd.at_int HR0.out x7_2 p138 q138
       cases e138
       (try replace hx138_0 := (HB.out.cell (World.block_lt_of_cell? w _ hx138_0)).trans hx138_0)
       replace p138 := eq_true p138
       replace q138 := eq_true q138
       have p139 : 0 ≤ (x7_2 : Int) := od_
       have q139 : x7_2 < (l0.length : Int) := od_
       obtain ⟨ad139, e139, hx139_0⟩ := Kd.at_int HR0.out x7_2 p139 q139
       obtain rfl : ad138 = ad139 := (by injection e139)
       (try replace hx139_0 := (HB.out.cell (World.block_lt_of_cell? w _ hx139_0)).trans hx139_0)
       replace p139 := eq_true p139
       replace q139 := eq_true q139
       have p140 : 0 ≤ ((ji16) : Int) := od_
       have q140 : (ji16) < (x5_2.length : Int) := od_
       obtain ⟨ad140, e140, hx140_0⟩ := Kd.at_bool (Kd.R_reads' HO_5.out).2.2 (ji16) p140 q140
       (try rw [← Nbq19.out] at hx140_0)
       obtain rfl : (⟨go7, 0, none⟩ : Addr) = ad140 := (by injection e140)
       (first | simp only [add_plain] at hx140_0 | simp only [add_at] at hx140_0 | simp only [Addr.add, Nat.zero_add] at hx140_0 | skip)
       replace p140 := eq_true p140
       replace q140 := eq_true q140
       go_wp2
       (try simp only [← hl5_2])
       go_roundg k2
       case measure => have := HK1.out; have := HK2.out; omega
       case rel => exact ⟨(x5_2), (wrap64 (x7_2 + 1)), rs_, H', ⟨by have := HK1.out; have := HK2.out; omega⟩, ⟨by (try simp only [hl5_1]); (try simp only [hl5_2]); (with_reducible repeat (first | apply Kd.R_alloc | apply Kd.R_drewN | apply Kd.R_drew)); exact HO_5.out⟩, ⟨bl_ HB.out⟩⟩
     subst c20
     rw [if_pos rfl] at H
     obtain ⟨c21b0, H⟩ := ipd_ H
     obtain ⟨c22, H⟩ := ip_ H
     have c22b0 : decide (x6_1 < (x5_2.length : Int)) = true := decide_eq_true c22
     (try (have c22h := c22b0; simp only [hl5_1, hl5_2] at c22h))
     clear c22
     obtain ⟨y141, hy141⟩ : ∃ y_ : List Bool, y_ = (x5_2.set (x6_1 : Int).toNat true) := ⟨_, rfl⟩
     replace H : (spec_l3Table.l1 k2 l0 a1 y141 x6_1 (wrap64 (x7_2 + 1))) = some r := by subst hy141; exact H
     have Ny141 := Aside0.mk hy141
     clear hy141
     have H' := Aside0.mk H
     clear H
     have p138 : 0 ≤ (x7_2 : Int) := od_
     have q138 : x7_2 < (l0.length : Int) := od_
     obtain ⟨ad138, e138, hx138_0⟩ := Kd.at_int HR0.out x7_2 p138 q138
     cases e138
     (try replace hx138_0 := (HB.out.cell (World.block_lt_of_cell? w _ hx138_0)).trans hx138_0)
     replace p138 := eq_true p138
     replace q138 := eq_true q138
     have p139 : 0 ≤ (x7_2 : Int) := od_
     have q139 : x7_2 < (l0.length : Int) := od_
     obtain ⟨ad139, e139, hx139_0⟩ := Kd.at_int HR0.out x7_2 p139 q139
     obtain rfl : ad138 = ad139 := (by injection e139)
     (try replace hx139_0 := (HB.out.cell (World.block_lt_of_cell? w _ hx139_0)).trans hx139_0)
     replace p139 := eq_true p139
     replace q139 := eq_true q139
     have p140 : 0 ≤ ((ji16) : Int) := od_
     have q140 : (ji16) < (x5_2.length : Int) := od_
     obtain ⟨ad140, e140, hx140_0⟩ := Kd.at_bool (Kd.R_reads' HO_5.out).2.2 (ji16) p140 q140
     (try rw [← Nbq19.out] at hx140_0)
     obtain rfl : (⟨go7, 0, none⟩ : Addr) = ad140 := (by injection e140)
     (first | simp only [add_plain] at hx140_0 | simp only [add_at] at hx140_0 | simp only [Addr.add, Nat.zero_add] at hx140_0 | skip)
     replace p140 := eq_true p140
     replace q140 := eq_true q140
     have p23 : 0 ≤ (x6_1 : Int) := od_
     have q23 : (x6_1 : Int) < ((x5_2.length : Int) : Int) := od_
     obtain ⟨hx23_0, hf23_0⟩ := Kd.R_celln false HO_5.out (x6_1 : Int) p23 q23
     replace p23 := eq_true p23
     replace q23 := eq_true q23
     have HP24 := Kd.R_putg HO_5.out (x6_1 : Int) true
     go_wp2_with (first | ((with_reducible refine gate_store (t := 4) (p := 43) rfl ?_); refine store_event (t := 4) (p := 43) (v := ?vo_w25) (w1 := (wr.setCell ⟨go7, (x6_1 : Int).toNat, none⟩ (.bool true))) ?hg ?ho ?hn ?hr ?_; (case ho => rfl); (case hg => rfl); (case hn => rfl); (case hr => first | (go_simp; done) | (go_simp; rfl)); intro w25 hw; have hg : wr.grownBy w25 (some go7) := (by rw [hw]; exact HP24.2); have hp_ : Kd.R Kd.bool 4 w25 w.heap.size (fun _ => True) (.slice (some ⟨go7, 0, none⟩) x5_2.length co7) y141 := (by rw [hw, Ny141.out]; exact HP24.1); clear HP24; replace HO_5 := Aside0.mk (hp_); replace HB := Aside0.mk ((by rw [hw]; exact below_set (HB.out) GB7.out : Below w.heap.size w w25)); clear hg hw hp_))
     (try simp only [← hl5_2])
     go_roundg k2
     case measure => have := HK1.out; have := HK2.out; omega
     case rel => exact ⟨(y141), (wrap64 (x7_2 + 1)), rs_, H', ⟨by have := HK1.out; have := HK2.out; omega⟩, ⟨by (try simp only [hl5_1]); (try simp only [hl5_2]); (with_reducible repeat (first | apply Kd.R_alloc | apply Kd.R_drewN | apply Kd.R_drew)); exact HO_5.out⟩, ⟨bl_ HB.out⟩⟩
mutual
def spec_SortList.l0 : Nat → List Int → List Int → Int → Option (List Int)
 | 0, _, _, _ => none
 | k + 1, x0, x3, x4 => if x4 < (x0.length : Int) then (spec_SortList.l1 k x0 x3 x4 (x3.length : Int)) else (some x3)
def spec_SortList.l1 : Nat → List Int → List Int → Int → Int → Option (List Int)
 | 0, _, _, _, _ => none
 | k + 1, x0, x3, x4, x5 => if x5 > 0 then (if 0 ≤ (wrap64 (x5 - 1)) then (if (wrap64 (x5 - 1)) < (x3.length : Int) then (if 0 ≤ x4 then (if x4 < (x0.length : Int) then (if (rd x3 (wrap64 (x5 - 1))) > (rd x0 x4) then (spec_SortList.l1 k x0 x3 x4 (wrap64 (x5 - 1))) else (if (rd x3 (wrap64 (x5 - 1))) = (rd x0 x4) then (spec_SortList.l0 k x0 x3 (wrap64 (x4 + 1))) else ((some (([] : List Int) : List Int)).bind fun y149 => (if 0 ≤ x5 then (if x5 ≤ (x3.length : Int) then ((some (x3.drop (x5 : Int).toNat : List Int)).bind fun y152 => (if y149.length + y152.length < 17592186044416 then ((some (y149 ++ y152 : List Int)).bind fun y156 => ((some (x3.take (x5 : Int).toNat : List Int)).bind fun y159 => (if y159.length < 17592186044416 then ((some (y159 ++ [rd x0 x4] : List Int)).bind fun y163 => (if y163.length + y156.length < 17592186044416 then (spec_SortList.l0 k x0 (y163 ++ y156) (wrap64 (x4 + 1))) else (none))) else (none)))) else (none))) else (none)) else (none))))) else (none)) else (none)) else (none)) else (none)) else ((some (([] : List Int) : List Int)).bind fun y169 => (if 0 ≤ x5 then (if x5 ≤ (x3.length : Int) then ((some (x3.drop (x5 : Int).toNat : List Int)).bind fun y172 => (if y169.length + y172.length < 17592186044416 then ((some (y169 ++ y172 : List Int)).bind fun y176 => ((some (x3.take (x5 : Int).toNat : List Int)).bind fun y179 => (if 0 ≤ x4 then (if x4 < (x0.length : Int) then (if y179.length < 17592186044416 then ((some (y179 ++ [rd x0 x4] : List Int)).bind fun y183 => (if y183.length + y176.length < 17592186044416 then (spec_SortList.l0 k x0 (y183 ++ y176) (wrap64 (x4 + 1))) else (none))) else (none)) else (none)) else (none)))) else (none))) else (none)) else (none)))
end
def spec_SortList.f (k : Nat) (l0 : List Int) : Option (List Int) := spec_SortList.l0 k l0 (([] : List Int)) 0
theorem spec_SortList.mono_l : ∀ k, (∀ y0 y1 y2, LeO (spec_SortList.l0 k y0 y1 y2) (spec_SortList.l0 (k + 1) y0 y1 y2)) ∧ (∀ y0 y1 y2 y3, LeO (spec_SortList.l1 k y0 y1 y2 y3) (spec_SortList.l1 (k + 1) y0 y1 y2 y3))
 | 0 => ⟨fun _ _ _ r h => by simp [spec_SortList.l0] at h, fun _ _ _ _ r h => by simp [spec_SortList.l1] at h⟩
 | k + 1 => by
  obtain ⟨ih0, ih1⟩ := spec_SortList.mono_l k
  refine ⟨?_, ?_⟩
  · intro y0 y1 y2
    unfold spec_SortList.l0
    repeat' first
    | (with_reducible exact ih0 _ _ _)
    | (with_reducible exact ih1 _ _ _ _)
    | (with_reducible exact LeO.refl _)
    | (with_reducible exact LeO.none _)
    | (with_reducible refine LeO.ite ?_ ?_)
    | (with_reducible refine LeO.bind ?_ (fun _ => ?_))
    | exact ih0 _ _ _
    | exact ih1 _ _ _ _
    | exact LeO.none _
    | refine LeO.ite ?_ ?_
    | refine LeO.bind ?_ (fun _ => ?_)
  · intro y0 y1 y2 y3
    unfold spec_SortList.l1
    repeat' first
    | (with_reducible exact ih0 _ _ _)
    | (with_reducible exact ih1 _ _ _ _)
    | (with_reducible exact LeO.refl _)
    | (with_reducible exact LeO.none _)
    | (with_reducible refine LeO.ite ?_ ?_)
    | (with_reducible refine LeO.bind ?_ (fun _ => ?_))
    | exact ih0 _ _ _
    | exact ih1 _ _ _ _
    | exact LeO.none _
    | refine LeO.ite ?_ ?_
    | refine LeO.bind ?_ (fun _ => ?_)
theorem spec_SortList.mono : ∀ a0 k, LeO (spec_SortList.f k a0) (spec_SortList.f (k + 1) a0) := by
 intro a0 k
 obtain ⟨ih0, ih1⟩ := spec_SortList.mono_l k
 unfold spec_SortList.f
 repeat' first
  | (with_reducible exact ih0 _ _ _)
  | (with_reducible exact ih1 _ _ _ _)
  | (with_reducible exact LeO.refl _)
  | (with_reducible exact LeO.none _)
  | (with_reducible refine LeO.ite ?_ ?_)
  | (with_reducible refine LeO.bind ?_ (fun _ => ?_))
  | exact ih0 _ _ _
  | exact ih1 _ _ _ _
  | exact LeO.none _
  | refine LeO.ite ?_ ?_
  | refine LeO.bind ?_ (fun _ => ?_)
def spec_SortList.T6 : Bool × List (List Nat × List Nat) := (true, [([], []), ([0], [0]), ([1], [1]), ([2], [2]), ([2], [2]), ([4, 2], [2, 4]), ([3, 5, 2], [2, 3, 5]), ([6, 2], [2, 6]), ([2], [2]), ([2], [2]), ([8, 9, 2], [2, 8, 9]), ([10, 2], [2, 10]), ([7, 11, 2], [2, 7, 11]), ([2, 12], [2, 12])])
def spec_SortList.B6 : List Nat := [0, 1, 3, 7, 7, 23, 63, 127, 7, 7, 775, 1799, 4095, 8191]
theorem spec_SortList.tab6 : rtab .any (opsOf Try.f75 6) = spec_SortList.T6 := by kernel_rfl
theorem spec_SortList.bits6 : waitsOk spec_SortList.T6.2 spec_SortList.B6 = true := by kernel_rfl
def spec_SortList.T8 : Bool × List (List Nat × List Nat) := (true, [([], []), ([0], [0]), ([1], [1]), ([2], [2]), ([2], [2]), ([4, 2], [2, 4]), ([3, 5, 2], [2, 3, 5]), ([6, 2], [2, 6]), ([2], [2]), ([2], [2]), ([8, 9, 2], [2, 8, 9]), ([10, 2], [2, 10]), ([7, 11, 2], [2, 7, 11]), ([2, 12], [2, 12])])
def spec_SortList.B8 : List Nat := [0, 1, 3, 7, 7, 23, 63, 127, 7, 7, 775, 1799, 4095, 8191]
theorem spec_SortList.tab8 : rtab .any (opsOf Try.f75 8) = spec_SortList.T8 := by kernel_rfl
theorem spec_SortList.bits8 : waitsOk spec_SortList.T8.2 spec_SortList.B8 = true := by kernel_rfl
def spec_SortList.T10 : Bool × List (List Nat × List Nat) := (true, [([], []), ([], []), ([0, 1], [0, 1]), ([], []), ([], []), ([3, 4], [3, 4]), ([5], [5]), ([6], [6]), ([2, 7], [2, 7]), ([], []), ([8, 9, 8], [8, 9]), ([10, 10, 0, 1, 2, 3, 4, 5, 6, 7, 8, 9, 10], [0, 10])])
def spec_SortList.B10 : List Nat := [0, 0, 3, 0, 0, 24, 56, 120, 255, 0, 1023, 2047]
theorem spec_SortList.tab10 : rtab .any (opsOf Try.f75 10) = spec_SortList.T10 := by kernel_rfl
theorem spec_SortList.bits10 : waitsOk spec_SortList.T10.2 spec_SortList.B10 = true := by kernel_rfl
theorem spec_SortList.calls (k : Nat) (A0 : Option Addr) (c0 : Nat) (l0 : List Int) (r : List Int) (w : World) (hr0 : Kd.C (Kd.int .i64) w A0 l0.length l0) (hc0 : l0.length ≤ c0) (h : spec_SortList.f k l0 = some r) :
 Calls Try.prog 75 #[.slice A0 l0.length c0] w fun e w' => ∃ v0_ : Value, e = .returned (v0_) ∧ Kd.R (Kd.int .i64) 3 w' w.heap.size (fun _ => True) v0_ r ∧ Below w.heap.size w w' := by
 have HR0 := Aside0.mk hr0
 have HC0 := Aside0.mk hc0
 clear hr0 hc0
 have HB := Aside0.mk (Below.refl w.heap.size w)
 have H := h
 clear h
 unfold spec_SortList.f at H
 obtain ⟨y142, hy142⟩ : ∃ y_ : List Int, y_ = (([] : List Int)) := ⟨_, rfl⟩
 replace H : (spec_SortList.l0 k l0 y142 0) = some r := by subst hy142; exact H
 have Ny142 := Aside0.mk hy142
 clear hy142
 have H' := Aside0.mk H
 clear H
 go_enter Try.func75, Try.ntmps75
 go_wp2_with (first | ((with_reducible refine gate_dst (N := 7) rfl ?_); refine Kd.R_lit (Kd.int .i64) _ 3 ?hg (N := 7) ?hd (xs := ([] : List Int)) (inner := []) (ok := fun _ => True) (okp := fun _ => True) ?hr ?hp (fun _ hk => hk) trivial (Below.refl _ _) (Nat.le_refl _) (by simp) ?_; (case hd => rfl); (case hg => rfl); (case hr => first | (go_simp; done) | (go_simp; rfl)); (case hp => exact (Reps.none _ _)); intro v143 w2 ho3 hb hg_ hnew_; clear hg_ hnew_; (first | rw [← Ny142.out] at ho3 | (simp only [Int.reduceToNat] at ho3; rw [← Ny142.out] at ho3)); have HO144 := Aside0.mk (Kd.R_lower ho3 (below_size (bl_ HB.out))); replace HB := bo_ HB hb; clear hb ho3))
 go_loopg [3, 4] k (fun kq v3 v4 w' => ∃ (x3_1 : List Int) (x4_1 : Int), v4 = .int .i64 x4_1 ∧ Aside0 (spec_SortList.l0 kq l0 x3_1 x4_1 = some r) ∧ Aside0 (kq ≤ k) ∧ Aside0 (Kd.R (Kd.int .i64) 3 w' w.heap.size (fun _ => True) v3 x3_1) ∧ Aside0 (Below w.heap.size w w'))
 case atStart => exact ⟨(y142), (0), rs_, H', ⟨Nat.le_refl _⟩, ⟨re_ HO144.out⟩, ⟨bl_ HB.out⟩⟩
 case round =>
  clear H'
  obtain ⟨x3_1, x4_1, rfl, HA, HK1, HO_3, HB⟩ := hrel
  cases gk with
  | zero => exact absurd HA.out (by simp [spec_SortList.l0])
  | succ k1 =>
   have H := HA.out
   clear HA
   simp only [spec_SortList.l0] at H
   by_cases c4 : x4_1 < (l0.length : Int)
   rotate_left
   · rw [if_neg c4] at H
     have c4b0 : decide (x4_1 < (l0.length : Int)) = false := decide_eq_false c4
     clear c4
     obtain rfl := Option.some.inj H
     go_wp2
     go_ret
     exact ⟨_, rf_, re_ HO_3.out, bl_ HB.out⟩
   rw [if_pos c4] at H
   have c4b0 : decide (x4_1 < (l0.length : Int)) = true := decide_eq_true c4
   clear c4
   have H' := Aside0.mk H
   clear H
   obtain ⟨Ao5, co5, eo5⟩ := Kd.R_slice HO_3.out
   subst eo5
   go_wp2
   go_loopg [5] k1 (fun kq v5 w' => ∃ (x5_2 : Int), v5 = .int .i64 x5_2 ∧ Aside0 (spec_SortList.l1 kq l0 x3_1 x4_1 x5_2 = some r) ∧ Aside0 (kq ≤ k1) ∧ Aside0 (Kd.R (Kd.int .i64) 3 w' w.heap.size (fun _ => True) (.slice Ao5 x3_1.length co5) x3_1) ∧ Aside0 (Below w.heap.size w w'))
   case atStart => exact ⟨((x3_1.length : Int)), rs_, H', ⟨Nat.le_refl _⟩, ⟨re_ HO_3.out⟩, ⟨bl_ HB.out⟩⟩
   case round =>
    clear H'
    try clear c4b0
    obtain ⟨x5_2, rfl, HA, HK2, HO_3, HB⟩ := hrel
    cases gk with
    | zero => exact absurd HA.out (by simp [spec_SortList.l1])
    | succ k2 =>
     have H := HA.out
     clear HA
     simp only [spec_SortList.l1] at H
     by_cases c6 : x5_2 > 0
     rotate_left
     · rw [if_neg c6] at H
       have c6b0 : decide (0 < x5_2) = false := decide_eq_false c6
       clear c6
       obtain ⟨y169, hy169⟩ : ∃ y_ : List Int, y_ = (([] : List Int)) := ⟨_, rfl⟩
       replace H : (if 0 ≤ x5_2 then (if x5_2 ≤ (x3_1.length : Int) then ((some (x3_1.drop (x5_2 : Int).toNat : List Int)).bind fun y172 => (if y169.length + y172.length < 17592186044416 then ((some (y169 ++ y172 : List Int)).bind fun y176 => ((some (x3_1.take (x5_2 : Int).toNat : List Int)).bind fun y179 => (if 0 ≤ x4_1 then (if x4_1 < (l0.length : Int) then (if y179.length < 17592186044416 then ((some (y179 ++ [rd l0 x4_1] : List Int)).bind fun y183 => (if y183.length + y176.length < 17592186044416 then (spec_SortList.l0 k2 l0 (y183 ++ y176) (wrap64 (x4_1 + 1))) else (none))) else (none)) else (none)) else (none)))) else (none))) else (none)) else (none)) = some r := by subst hy169; exact H
       have Ny169 := Aside0.mk hy169
       clear hy169
       obtain ⟨c34, H⟩ := ip_ H
       have c34b0 := eq_true c34
       have c34b1 : decide (0 ≤ x5_2) = true := decide_eq_true c34
       clear c34
       obtain ⟨c35, H⟩ := ip_ H
       have c35b0 := eq_true c35
       have c35b1 : decide (x5_2 ≤ (x3_1.length : Int)) = true := decide_eq_true c35
       clear c35
       obtain ⟨y172, hy172⟩ : ∃ y_ : List Int, y_ = (x3_1.drop (x5_2 : Int).toNat) := ⟨_, rfl⟩
       replace H : (if y169.length + y172.length < 17592186044416 then ((some (y169 ++ y172 : List Int)).bind fun y176 => ((some (x3_1.take (x5_2 : Int).toNat : List Int)).bind fun y179 => (if 0 ≤ x4_1 then (if x4_1 < (l0.length : Int) then (if y179.length < 17592186044416 then ((some (y179 ++ [rd l0 x4_1] : List Int)).bind fun y183 => (if y183.length + y176.length < 17592186044416 then (spec_SortList.l0 k2 l0 (y183 ++ y176) (wrap64 (x4_1 + 1))) else (none))) else (none)) else (none)) else (none)))) else (none)) = some r := by subst hy172; exact H
       have Ny172 := Aside0.mk hy172
       clear hy172
       obtain ⟨c36, H⟩ := ip_ H
       have LMc36 := Aside0.mk c36
       clear c36
       obtain ⟨y176, hy176⟩ : ∃ y_ : List Int, y_ = (y169 ++ y172) := ⟨_, rfl⟩
       replace H : ((some (x3_1.take (x5_2 : Int).toNat : List Int)).bind fun y179 => (if 0 ≤ x4_1 then (if x4_1 < (l0.length : Int) then (if y179.length < 17592186044416 then ((some (y179 ++ [rd l0 x4_1] : List Int)).bind fun y183 => (if y183.length + y176.length < 17592186044416 then (spec_SortList.l0 k2 l0 (y183 ++ y176) (wrap64 (x4_1 + 1))) else (none))) else (none)) else (none)) else (none))) = some r := by subst hy176; exact H
       have Ny176 := Aside0.mk hy176
       clear hy176
       have c37b0 := eq_true (od_ : x5_2 ≤ (x3_1.length : Int))
       obtain ⟨y179, hy179⟩ : ∃ y_ : List Int, y_ = (x3_1.take (x5_2 : Int).toNat) := ⟨_, rfl⟩
       replace H : (if 0 ≤ x4_1 then (if x4_1 < (l0.length : Int) then (if y179.length < 17592186044416 then ((some (y179 ++ [rd l0 x4_1] : List Int)).bind fun y183 => (if y183.length + y176.length < 17592186044416 then (spec_SortList.l0 k2 l0 (y183 ++ y176) (wrap64 (x4_1 + 1))) else (none))) else (none)) else (none)) else (none)) = some r := by subst hy179; exact H
       have Ny179 := Aside0.mk hy179
       clear hy179
       obtain ⟨c38b0, H⟩ := ipd_ H
       obtain ⟨c39b0, H⟩ := ipd_ H
       obtain ⟨c40, H⟩ := ip_ H
       have LMc40 := Aside0.mk c40
       clear c40
       obtain ⟨y183, hy183⟩ : ∃ y_ : List Int, y_ = (y179 ++ [rd l0 x4_1]) := ⟨_, rfl⟩
       replace H : (if y183.length + y176.length < 17592186044416 then (spec_SortList.l0 k2 l0 (y183 ++ y176) (wrap64 (x4_1 + 1))) else (none)) = some r := by subst hy183; exact H
       have Ny183 := Aside0.mk hy183
       clear hy183
       obtain ⟨c41, H⟩ := ip_ H
       have LMc41 := Aside0.mk c41
       clear c41
       obtain ⟨y186, hy186⟩ : ∃ y_ : List Int, y_ = (y183 ++ y176) := ⟨_, rfl⟩
       replace H : (spec_SortList.l0 k2 l0 y186 (wrap64 (x4_1 + 1))) = some r := by subst hy186; exact H
       have Ny186 := Aside0.mk hy186
       clear hy186
       have H' := Aside0.mk H
       clear H
       try go_wp2
       replace HO_3 := Aside0.mk (Kd.R_drew HO_3.out)
       replace HB := Aside0.mk (below_drew1 HB.out)
       refine start_ (n := 14) (S := fun w' => True) (ds := []) (B_ 0 14) (by kernel_rfl) rfl rfl trivial (fun hHeld => ?_); refine with_tabW spec_SortList.tab6 spec_SortList.bits6 (fun HT_ HW_ => ?_)
       generalize wr.drew = w42 at HO_3 HB hHeld ⊢
       refine pu_ HT_ 0 16 (B_ 1 14) ?_
       refine pu_ HT_ 1 17 (B_ 3 14) ?_
       refine pu_ HT_ 2 18 (B_ 7 14) ?_
       refine pn_ HT_ 3 19 (B_ 15 14) ?_
       refine pn_ HT_ 4 20 (B_ 31 14) ?_
       refine pn_ HT_ 5 21 (B_ 63 14) ?_
       refine pn_ HT_ 6 22 (B_ 127 14) ?_
       refine pn_ HT_ 7 23 (B_ 255 14) ?_
       refine pn_ HT_ 8 24 (B_ 511 14) ?_
       refine pn_ HT_ 9 25 (B_ 1023 14) ?_
       refine pn_ HT_ 10 26 (B_ 2047 14) ?_
       refine pn_ HT_ 11 27 (B_ 4095 14) ?_
       refine pn_ HT_ 12 28 (B_ 8191 14) ?_
       refine pu_ HT_ 13 29 (B_ 16383 14) ?_
       refine done_ (done_of HT_.out (by kernel_rfl)) ?_
       try go_wp2
       replace HO_3 := Aside0.mk (Kd.R_drew HO_3.out)
       replace HB := Aside0.mk (below_drew1 HB.out)
       refine start_ (n := 14) (S := fun w' => True) (ds := []) (B_ 0 14) (by kernel_rfl) rfl rfl trivial (fun hHeld => ?_); refine with_tabW spec_SortList.tab8 spec_SortList.bits8 (fun HT_ HW_ => ?_)
       generalize w42.drew = w43 at HO_3 HB hHeld ⊢
       refine pu_ HT_ 0 32 (B_ 1 14) ?_
       refine pu_ HT_ 1 33 (B_ 3 14) ?_
       refine pu_ HT_ 2 34 (B_ 7 14) ?_
       refine pn_ HT_ 3 35 (B_ 15 14) ?_
       refine pn_ HT_ 4 36 (B_ 31 14) ?_
       refine pn_ HT_ 5 37 (B_ 63 14) ?_
       refine pn_ HT_ 6 38 (B_ 127 14) ?_
       refine pn_ HT_ 7 39 (B_ 255 14) ?_
       refine pn_ HT_ 8 40 (B_ 511 14) ?_
       refine pn_ HT_ 9 41 (B_ 1023 14) ?_
       refine pn_ HT_ 10 42 (B_ 2047 14) ?_
       refine pn_ HT_ 11 43 (B_ 4095 14) ?_
       refine pn_ HT_ 12 44 (B_ 8191 14) ?_
       refine pu_ HT_ 13 45 (B_ 16383 14) ?_
       refine done_ (done_of HT_.out (by kernel_rfl)) ?_
       try go_wp2_with (first | ((with_reducible refine gate_dst (N := 46) rfl ?_); refine Kd.R_lit (Kd.int .i64) _ 3 ?hg (N := 46) ?hd (xs := ([] : List Int)) (inner := []) (ok := fun _ => True) (okp := fun _ => True) ?hr ?hp (fun _ hk => hk) trivial (Below.refl _ _) (Nat.le_refl _) (by simp) ?_; (case hd => rfl); (case hg => rfl); (case hr => first | (go_simp; done) | (go_simp; rfl)); (case hp => exact (Reps.none _ _)); intro v170 w44 ho45 hb hg_ hnew_; clear hg_ hnew_; (first | rw [← Ny169.out] at ho45 | (simp only [Int.reduceToNat] at ho45; rw [← Ny169.out] at ho45)); have HO171 := Aside0.mk (Kd.R_lower (Kd.R_new' ho45 (Kd.R_lt (re_ HO_3.out))) (below_size (bl_ HB.out))); replace HO_3 := Aside0.mk (Kd.R_elder' (re_ HO_3.out) (Kd.R_base ho45) hb); replace HB := bo_ HB hb; clear hb ho45; have q46 : (x5_2 : Int) ≤ ((x3_1.length : Int) : Int) := od_; obtain ⟨i046, hi046, _, hsz46, _⟩ := info_parts info3; have hroom46 : x3_1.length ≤ co5 := (Kd.R_reads' HO_3.out).2.1; have hC46 : Kd.C (Kd.int .i64) _ Ao5 x3_1.length x3_1 := (Kd.R_reads' HO_3.out).2.2; have q046 : (0 : Int) ≤ (x5_2 : Int) := od_; have hcut46 := cut_from (P := Try.prog) 24 3 .i64 Try.underlying24 hi046 1 hsz46 Ao5 x3_1.length co5 x5_2 q046 q46; have hr46 := Kd.C_drop (m := (x5_2 : Int).toNat) (c := co5) hC46 (by omega) hroom46; obtain ⟨A46, hA46⟩ : ∃ A1, A1 = (if co5 = (x5_2 : Int).toNat then Ao5 else (Ao5 : Option Addr).map (·.add ((x5_2 : Int).toNat * 1))) := ⟨_, rfl⟩; obtain ⟨c46, hc46⟩ : ∃ c1, c1 = co5 - (x5_2 : Int).toNat := ⟨_, rfl⟩; have hy46 : y172.length = x3_1.length - (x5_2 : Int).toNat := (by rw [Ny172.out, List.length_drop] <;> omega); rw [show (x3_1).drop (x5_2 : Int).toNat = y172 from Ny172.out.symm] at hr46; replace hr46 : Kd.C (Kd.int .i64) _ A46 y172.length y172 := (by rw [hA46]; exact hr46); rw [← hy46, ← hA46, ← hc46] at hcut46; have HR175 := Aside0.mk hr46; have HC175 := Aside0.mk (show y172.length ≤ c46 from by rw [hy46, hc46]; exact Nat.sub_le_sub_right hroom46 _); clear hr46 hC46 hroom46 hi046 hsz46 hc46; have KY46 := Aside0.mk hy46; have KA46 := Aside0.mk hA46; clear hy46 hA46; have KL46 := Aside0.mk (show (x5_2 : Int).toNat ≤ x3_1.length from by omega); replace q46 := eq_true q46) | ((with_reducible refine gate_builtin (b := .append) (xs := #[.tmp 46, .tmp 49]) rfl ?_); at_builtin; refine Kd.R_append_rows (Kd.int .i64) (w0 := w) w.heap.size rfl (.tmp 46) (.tmp 49) 24 3 (.int .i64 0) 8 rfl Try.underlying24 info3 rfl (by decide) (by omega) v170 y169 y172 _ _ _ (fun k_ => some k_ ≠ (.slice Ao5 x3_1.length co5 : Value).ownBlock) (fun _ => False) rfl rfl ?aO ?aR (fun _ _ h => h) (fun _ h => h.elim) ?aF ?aB ?aS ?aL ?_; (case aR => repeat (first | exact (by repeat (first | (with_reducible exact HR175.out) | (with_reducible refine Kd.C_alloc ?_ _) | (with_reducible refine Kd.C_drewN ?_ _) | (with_reducible refine Kd.C_drew ?_) | exact HR175.out)) | (with_reducible refine Kd.C_alloc ?_ _) | (with_reducible refine Kd.C_drewN ?_ _) | (with_reducible refine Kd.C_drew ?_))); (case aB => exact (bl_ HB.out)); (case aF => exact (fun k_ hk => Kd.fresh' (Kd.R_lt (re_ HO_3.out)) k_ hk)); (case aO => exact (by (with_reducible repeat (first | apply Kd.R_alloc | apply Kd.R_drewN | apply Kd.R_drew)); exact Kd.R_mono HO171.out (fun _ hk => hk.2))); (case aS => exact (below_size (bl_ HB.out))); (case aL => have := LMc36.out; omega); intro v177 w47 ho hb hg hat; rw [← Ny176.out] at ho; replace HB := Aside0.mk (hb); replace HR175 := Aside0.mk ((show Kd.C (Kd.int .i64) w47 A46 y172.length y172 from by rw [Ny172.out, KA46.out]; exact Kd.C_drop (m := (x5_2 : Int).toNat) (c := co5) ((Kd.R_reads' (Kd.R_after (ok := (fun _ => True)) (re_ HO_3.out) hg hat)).2.2) KL46.out ((Kd.R_reads' (Kd.R_after (ok := (fun _ => True)) (re_ HO_3.out) hg hat)).2.1))); replace HO_3 := Aside0.mk (Kd.R_after (ok := (fun _ => True)) (re_ HO_3.out) hg hat); have HO178 := Aside0.mk (ho); clear HO171; clear ho hb hg hat))
       replace HO_3 := Aside0.mk (Kd.R_drew HO_3.out)
       replace HO178 := Aside0.mk (Kd.R_drew HO178.out)
       replace HR175 := Aside0.mk (Kd.C_drew HR175.out)
       replace HB := Aside0.mk (below_drew1 HB.out)
       have q49 : (x5_2 : Int) ≤ ((x3_1.length : Int) : Int) := od_
       obtain ⟨i049, hi049, _, hsz49, _⟩ := info_parts info3
       have hcut49 := cut_to (P := Try.prog) 24 3 .i64 Try.underlying24 hi049 Ao5 x3_1.length co5 x5_2 (od_) q49 (Kd.R_reads' HO_3.out).2.1
       have hr49 := Kd.R_take (m := (x5_2 : Int).toNat) HO_3.out (by omega)
       have hy49 : y179.length = (x5_2 : Int).toNat := (by rw [Ny179.out, List.length_take]; omega)
       rw [← Ny179.out] at hr49
       rw [← hy49] at hr49 hcut49
       clear hy49 hi049 hsz49 HO_3
       have HO181 := Aside0.mk hr49
       clear hr49
       replace q49 := eq_true q49
       have p182 : 0 ≤ (x4_1 : Int) := od_
       have q182 : x4_1 < (l0.length : Int) := od_
       obtain ⟨ad182, e182, hx182_0⟩ := Kd.at_int HR0.out x4_1 p182 q182
       have hw182_0 := hx182_0
       cases e182
       (try replace hx182_0 := (HB.out.cell (World.block_lt_of_cell? w _ hx182_0)).trans hx182_0)
       replace p182 := eq_true p182
       replace q182 := eq_true q182
       refine start_ (n := 12) (S := fun w' => w'.cell? (ad182.add (x4_1).toNat) = some (.int .i64 (rd l0 x4_1))) (ds := []) (B_ 0 12) (by kernel_rfl) rfl rfl (by first | exact hw182_0 | exact (HB.out.cell (World.block_lt_of_cell? w _ hw182_0)).trans hw182_0 | (obtain ⟨_, e_, h_⟩ := Kd.at_int HR0.out x4_1 (of_eq_true p182) (of_eq_true q182); cases e_; exact h_)) (fun hHeld => ?_); refine with_tabW spec_SortList.tab10 spec_SortList.bits10 (fun HT_ HW_ => ?_)
       generalize w47.drew = w48 at HO_3 HO178 HR175 HB HO181 hx182_0 hHeld ⊢
       refine pu_ HT_ 0 51 (B_ 1 12) ?_
       refine pu_ HT_ 1 52 (B_ 3 12) ?_
       refine pu_ HT_ 2 53 (B_ 7 12) ?_
       refine pu_ HT_ 3 54 (B_ 15 12) ?_
       refine pu_ HT_ 4 55 (B_ 31 12) ?_
       refine pu_ HT_ 5 56 (B_ 63 12) ?_
       refine pu_ HT_ 9 60 (B_ 575 12) ?_
       refine tk1_ HT_ HW_ hHeld 6 57 (B_ 639 12) ?_
       refine on_ HT_ 7 58 (B_ 767 12) (fun K hK => ?_)
       refine value_ (w1 := ?_) (v := ?_) (by rfl) rfl ?_ ?_
       rotate_left 2
       · go_simp
         constructor
         · rfl
         · rfl
       refine hK.out _ _ ((World.cell?_alloc_lt _ _ _ (World.block_lt_of_cell? _ _ (by first | exact hw182_0 | exact (HB.out.cell (World.block_lt_of_cell? w _ hw182_0)).trans hw182_0 | (obtain ⟨_, e_, h_⟩ := Kd.at_int HR0.out x4_1 (of_eq_true p182) (of_eq_true q182); cases e_; exact h_)))).trans (by first | exact hw182_0 | exact (HB.out.cell (World.block_lt_of_cell? w _ hw182_0)).trans hw182_0 | (obtain ⟨_, e_, h_⟩ := Kd.at_int HR0.out x4_1 (of_eq_true p182) (of_eq_true q182); cases e_; exact h_))) (fun hHeld => ?_)
       clear hK K
       refine norm_ (a' := ?_) ?_ ?_
       rotate_left
       · show Act.put _ (some 58) _ = _
         simp only [Act.put, z1_, z2_, z3_, i64_w, i32_w]
         rfl
       refine on_ HT_ 8 59 (B_ 1023 12) (fun K hK => ?_)
       refine Kd.R_append_step (Kd.int .i64) (w0 := w) w.heap.size (by rfl) (.tmp 53) (.tmp 58) 24 3 (.int .i64 0) 8 rfl Try.underlying24 info3 rfl (by decide) (by omega) (.slice Ao5 y179.length co5) y179 (rd l0 x4_1) [.int .i64 (rd l0 x4_1)] (fun k_ => some k_ ≠ (v177 : Value).ownBlock) (fun _ => False) rfl rfl ?aP (fun _ hk => hk.elim) ?aF ?aO ?aB ?aS ?aL ?_
       (case aP => exact rfl)
       (case aB => exact (bl_ HB.out))
       (case aF => exact (fun k_ hk => Kd.fresh' (Kd.R_lt (re_ HO178.out)) k_ hk))
       (case aO => exact (by (with_reducible repeat (first | apply Kd.R_alloc | apply Kd.R_drewN | apply Kd.R_drew)); exact Kd.R_mono HO181.out (fun _ hk => hk.2)))
       (case aS => exact (below_size (bl_ HB.out)))
       (case aL => have := LMc40.out; omega)
       intro v184 w50 ho hb hg hat
       rw [← Ny183.out] at ho
       replace HO178 := Aside0.mk (Kd.R_after (ok := (fun _ => True)) (by (with_reducible repeat (first | apply Kd.R_alloc | apply Kd.R_drewN | apply Kd.R_drew)); exact Kd.R_mono HO178.out (fun _ hk => ⟨trivial, by first | exact hk | exact (fun e_ => hk (e_.trans (own_len_ _ _ _ _ _)))⟩)) hg hat)
       replace HB := Aside0.mk (hb)
       have HO185 := Aside0.mk (ho)
       clear HO181
       clear ho hb hg hat
       obtain ⟨Ao52, co52, eo52⟩ := Kd.R_slice HO178.out
       (first | subst eo52 | (injection eo52 with f1_ f2_ f3_; have f4_ := f1_.symm; have f5_ := f3_.symm; clear f1_ f2_ f3_; subst f4_; subst f5_))
       refine hK.out _ _ (by first | exact hw182_0 | exact (HB.out.cell (World.block_lt_of_cell? w _ hw182_0)).trans hw182_0 | (obtain ⟨_, e_, h_⟩ := Kd.at_int HR0.out x4_1 (of_eq_true p182) (of_eq_true q182); cases e_; exact h_)) (fun hHeld => ?_)
       clear hK K
       refine norm_ (a' := ?_) ?_ ?_
       rotate_left
       · show Act.put _ (some 59) _ = _
         simp only [Act.put, z1_, z2_, z3_, i64_w, i32_w]
         rfl
       refine on_ HT_ 10 61 (B_ 2047 12) (fun K hK => ?_)
       refine Kd.R_append_rows_step (Kd.int .i64) (w0 := w) w.heap.size (by rfl) (.tmp 59) (.tmp 60) 24 3 (.int .i64 0) 8 rfl Try.underlying24 info3 rfl (by decide) (by omega) v184 y183 y176 _ _ _ (fun k_ => some k_ ≠ (.slice Ao52 y176.length co52 : Value).ownBlock) (fun _ => False) rfl rfl ?aO ?aR (fun _ _ h => h) (fun _ h => h.elim) ?aF ?aB ?aS ?aL ?_
       (case aR => exact ce_ ((Kd.R_reads' HO178.out).2.2))
       (case aB => exact (bl_ HB.out))
       (case aF => exact (fun k_ hk => Kd.fresh' (Kd.R_lt (re_ HO178.out)) k_ hk))
       (case aO => exact (re_ HO185.out))
       (case aS => exact (below_size (bl_ HB.out)))
       (case aL => have := LMc41.out; omega)
       intro v187 w51 ho hb hg hat
       rw [← Ny186.out] at ho
       replace HO178 := Aside0.mk (Kd.R_after (ok := (fun _ => True)) (re_ HO178.out) hg hat)
       replace HB := Aside0.mk (hb)
       have HO188 := Aside0.mk (ho)
       clear HO185
       clear ho hb hg hat
       refine hK.out _ _ (by first | exact hw182_0 | exact (HB.out.cell (World.block_lt_of_cell? w _ hw182_0)).trans hw182_0 | (obtain ⟨_, e_, h_⟩ := Kd.at_int HR0.out x4_1 (of_eq_true p182) (of_eq_true q182); cases e_; exact h_)) (fun hHeld => ?_)
       clear hK K
       refine norm_ (a' := ?_) ?_ ?_
       rotate_left
       · show Act.put _ (some 61) _ = _
         simp only [Act.put, z1_, z2_, z3_, i64_w, i32_w]
         rfl
       refine pu_ HT_ 11 3 (B_ 4095 12) ?_
       refine done_ (done_of HT_.out (by kernel_rfl)) ?_
       try go_wp2
       go_roundg k2
       case measure => have := HK1.out; have := HK2.out; omega
       case rel => exact ⟨(y186), (wrap64 (x4_1 + 1)), rs_, H', ⟨by have := HK1.out; have := HK2.out; omega⟩, ⟨by (with_reducible repeat (first | apply Kd.R_alloc | apply Kd.R_drewN | apply Kd.R_drew)); exact Kd.R_mono HO188.out (fun _ hk => trivial)⟩, ⟨bl_ HB.out⟩⟩
     rw [if_pos c6] at H
     have c6b0 : decide (0 < x5_2) = true := decide_eq_true c6
     clear c6
     obtain ⟨ji7, hji7⟩ : ∃ j_ : Int, (wrap64 (x5_2 - 1)) = j_ := ⟨_, rfl⟩
     replace H : (if 0 ≤ (ji7) then (if (ji7) < (x3_1.length : Int) then (if 0 ≤ x4_1 then (if x4_1 < (l0.length : Int) then (if (rd x3_1 (ji7)) > (rd l0 x4_1) then (spec_SortList.l1 k2 l0 x3_1 x4_1 ji7) else (if (rd x3_1 (ji7)) = (rd l0 x4_1) then (spec_SortList.l0 k2 l0 x3_1 (wrap64 (x4_1 + 1))) else ((some (([] : List Int) : List Int)).bind fun y149 => (if 0 ≤ x5_2 then (if x5_2 ≤ (x3_1.length : Int) then ((some (x3_1.drop (x5_2 : Int).toNat : List Int)).bind fun y152 => (if y149.length + y152.length < 17592186044416 then ((some (y149 ++ y152 : List Int)).bind fun y156 => ((some (x3_1.take (x5_2 : Int).toNat : List Int)).bind fun y159 => (if y159.length < 17592186044416 then ((some (y159 ++ [rd l0 x4_1] : List Int)).bind fun y163 => (if y163.length + y156.length < 17592186044416 then (spec_SortList.l0 k2 l0 (y163 ++ y156) (wrap64 (x4_1 + 1))) else (none))) else (none)))) else (none))) else (none)) else (none))))) else (none)) else (none)) else (none)) else (none)) = some r := by first | (rw [hji7] at H; exact H) | (simp only [hji7] at H ⊢; exact H)
     have hji7w : (IntKind.i64.wrap (x5_2 - 1)) = ji7 := (i64_w _).trans hji7
     obtain ⟨c8b0, H⟩ := ipd_ H
     obtain ⟨c9b0, H⟩ := ipd_ H
     obtain ⟨c10b0, H⟩ := ipd_ H
     obtain ⟨c11b0, H⟩ := ipd_ H
     by_cases c12 : (rd x3_1 (ji7)) > (rd l0 x4_1)
     · rw [if_pos c12] at H
       have c12b0 : decide ((rd l0 x4_1) < (rd x3_1 (ji7))) = true := decide_eq_true c12
       clear c12
       have H' := Aside0.mk H
       clear H
       try go_wp2
       replace HO_3 := Aside0.mk (Kd.R_drew HO_3.out)
       replace HB := Aside0.mk (below_drew1 HB.out)
       have p145 : 0 ≤ ((ji7) : Int) := od_
       have q145 : (ji7) < (x3_1.length : Int) := od_
       obtain ⟨ad145, e145, hx145_0⟩ := Kd.at_int (Kd.R_reads' HO_3.out).2.2 (ji7) p145 q145
       cases e145
       replace p145 := eq_true p145
       replace q145 := eq_true q145
       have p146 : 0 ≤ (x4_1 : Int) := od_
       have q146 : x4_1 < (l0.length : Int) := od_
       obtain ⟨ad146, e146, hx146_0⟩ := Kd.at_int HR0.out x4_1 p146 q146
       have hw146_0 := hx146_0
       cases e146
       (try replace hx146_0 := (HB.out.cell (World.block_lt_of_cell? w _ hx146_0)).trans hx146_0)
       replace p146 := eq_true p146
       replace q146 := eq_true q146
       refine start_ (n := 14) (S := fun w' => w'.cell? (ad145.add ((ji7)).toNat) = some (.int .i64 (rd x3_1 (ji7))) ∧ w'.cell? (ad146.add (x4_1).toNat) = some (.int .i64 (rd l0 x4_1))) (ds := []) (B_ 0 14) (by kernel_rfl) rfl rfl ⟨hx145_0, ((HB.out.cell (World.block_lt_of_cell? w _ hw146_0)).trans hw146_0)⟩ (fun hHeld => ?_); refine with_tabW spec_SortList.tab6 spec_SortList.bits6 (fun HT_ HW_ => ?_)
       generalize wr.drew = w13 at HO_3 HB hx145_0 hx146_0 hHeld ⊢
       refine pu_ HT_ 0 16 (B_ 1 14) ?_
       refine pu_ HT_ 1 17 (B_ 3 14) ?_
       refine pu_ HT_ 2 18 (B_ 7 14) ?_
       refine pu_ HT_ 3 19 (B_ 15 14) ?_
       refine pu_ HT_ 4 20 (B_ 31 14) ?_
       refine pu_ HT_ 5 21 (B_ 63 14) ?_
       refine pu_ HT_ 6 22 (B_ 127 14) ?_
       refine pu_ HT_ 8 24 (B_ 383 14) ?_
       refine pu_ HT_ 9 25 (B_ 895 14) ?_
       refine pu_ HT_ 10 26 (B_ 1919 14) ?_
       refine tk2_ HT_ HW_ hHeld 7 23 (B_ 2047 14) ?_
       refine tk2_ HT_ HW_ hHeld 11 27 (B_ 4095 14) ?_
       refine pu_ HT_ 12 28 (B_ 8191 14) ?_
       refine pu_ HT_ 13 29 (B_ 16383 14) ?_
       refine done_ (done_of HT_.out (by kernel_rfl)) ?_
       try go_wp2
       go_roundg k2
       case measure => have := HK1.out; have := HK2.out; omega
       case rel => exact ⟨(ji7), (by first | rfl | (simp; done) | (simp only [← hji7] <;> (first | rfl | simp)) | (simp [*]; done)), H', ⟨by have := HK1.out; have := HK2.out; omega⟩, ⟨re_ HO_3.out⟩, ⟨bl_ HB.out⟩⟩
     rw [if_neg c12] at H
     have c12b0 : decide ((rd l0 x4_1) < (rd x3_1 (ji7))) = false := decide_eq_false c12
     clear c12
     by_cases c14 : (rd x3_1 (ji7)) = (rd l0 x4_1)
     · rw [if_pos c14] at H
       have c14b0 : ((rd x3_1 (ji7)) == (rd l0 x4_1)) = true := beq_iff_eq.mpr c14
       have c14b1 : ((rd x3_1 (ji7)) != (rd l0 x4_1)) = false := bne_eq_false_iff_eq.mpr c14
       clear c14
       have H' := Aside0.mk H
       clear H
       try go_wp2
       replace HO_3 := Aside0.mk (Kd.R_drew HO_3.out)
       replace HB := Aside0.mk (below_drew1 HB.out)
       have p145 : 0 ≤ ((ji7) : Int) := od_
       have q145 : (ji7) < (x3_1.length : Int) := od_
       obtain ⟨ad145, e145, hx145_0⟩ := Kd.at_int (Kd.R_reads' HO_3.out).2.2 (ji7) p145 q145
       cases e145
       replace p145 := eq_true p145
       replace q145 := eq_true q145
       have p146 : 0 ≤ (x4_1 : Int) := od_
       have q146 : x4_1 < (l0.length : Int) := od_
       obtain ⟨ad146, e146, hx146_0⟩ := Kd.at_int HR0.out x4_1 p146 q146
       have hw146_0 := hx146_0
       cases e146
       (try replace hx146_0 := (HB.out.cell (World.block_lt_of_cell? w _ hx146_0)).trans hx146_0)
       replace p146 := eq_true p146
       replace q146 := eq_true q146
       refine start_ (n := 14) (S := fun w' => w'.cell? (ad145.add ((ji7)).toNat) = some (.int .i64 (rd x3_1 (ji7))) ∧ w'.cell? (ad146.add (x4_1).toNat) = some (.int .i64 (rd l0 x4_1))) (ds := []) (B_ 0 14) (by kernel_rfl) rfl rfl ⟨hx145_0, ((HB.out.cell (World.block_lt_of_cell? w _ hw146_0)).trans hw146_0)⟩ (fun hHeld => ?_); refine with_tabW spec_SortList.tab6 spec_SortList.bits6 (fun HT_ HW_ => ?_)
       generalize wr.drew = w15 at HO_3 HB hx145_0 hx146_0 hHeld ⊢
       refine pu_ HT_ 0 16 (B_ 1 14) ?_
       refine pu_ HT_ 1 17 (B_ 3 14) ?_
       refine pu_ HT_ 2 18 (B_ 7 14) ?_
       refine pu_ HT_ 3 19 (B_ 15 14) ?_
       refine pu_ HT_ 4 20 (B_ 31 14) ?_
       refine pu_ HT_ 5 21 (B_ 63 14) ?_
       refine pu_ HT_ 6 22 (B_ 127 14) ?_
       refine pu_ HT_ 8 24 (B_ 383 14) ?_
       refine pu_ HT_ 9 25 (B_ 895 14) ?_
       refine pu_ HT_ 10 26 (B_ 1919 14) ?_
       refine tk2_ HT_ HW_ hHeld 7 23 (B_ 2047 14) ?_
       refine tk2_ HT_ HW_ hHeld 11 27 (B_ 4095 14) ?_
       refine pu_ HT_ 12 28 (B_ 8191 14) ?_
       refine pu_ HT_ 13 29 (B_ 16383 14) ?_
       refine done_ (done_of HT_.out (by kernel_rfl)) ?_
       try go_wp2
       replace HO_3 := Aside0.mk (Kd.R_drew HO_3.out)
       replace HB := Aside0.mk (below_drew1 HB.out)
       have p147 : 0 ≤ ((ji7) : Int) := od_
       have q147 : (ji7) < (x3_1.length : Int) := od_
       obtain ⟨ad147, e147, hx147_0⟩ := Kd.at_int (Kd.R_reads' HO_3.out).2.2 (ji7) p147 q147
       obtain rfl : ad145 = ad147 := (by injection e147)
       replace p147 := eq_true p147
       replace q147 := eq_true q147
       have p148 : 0 ≤ (x4_1 : Int) := od_
       have q148 : x4_1 < (l0.length : Int) := od_
       obtain ⟨ad148, e148, hx148_0⟩ := Kd.at_int HR0.out x4_1 p148 q148
       have hw148_0 := hx148_0
       obtain rfl : ad146 = ad148 := (by injection e148)
       (try replace hx148_0 := (HB.out.cell (World.block_lt_of_cell? w _ hx148_0)).trans hx148_0)
       replace p148 := eq_true p148
       replace q148 := eq_true q148
       refine start_ (n := 14) (S := fun w' => w'.cell? (ad145.add ((ji7)).toNat) = some (.int .i64 (rd x3_1 (ji7))) ∧ w'.cell? (ad146.add (x4_1).toNat) = some (.int .i64 (rd l0 x4_1))) (ds := []) (B_ 0 14) (by kernel_rfl) rfl rfl ⟨hx147_0, ((HB.out.cell (World.block_lt_of_cell? w _ hw148_0)).trans hw148_0)⟩ (fun hHeld => ?_); refine with_tabW spec_SortList.tab8 spec_SortList.bits8 (fun HT_ HW_ => ?_)
       generalize w15.drew = w16 at HO_3 HB hx147_0 hx148_0 hHeld ⊢
       refine pu_ HT_ 0 32 (B_ 1 14) ?_
       refine pu_ HT_ 1 33 (B_ 3 14) ?_
       refine pu_ HT_ 2 34 (B_ 7 14) ?_
       refine pu_ HT_ 3 35 (B_ 15 14) ?_
       refine pu_ HT_ 4 36 (B_ 31 14) ?_
       refine pu_ HT_ 5 37 (B_ 63 14) ?_
       refine pu_ HT_ 6 38 (B_ 127 14) ?_
       refine pu_ HT_ 8 40 (B_ 383 14) ?_
       refine pu_ HT_ 9 41 (B_ 895 14) ?_
       refine pu_ HT_ 10 42 (B_ 1919 14) ?_
       refine tk2_ HT_ HW_ hHeld 7 39 (B_ 2047 14) ?_
       refine tk2_ HT_ HW_ hHeld 11 43 (B_ 4095 14) ?_
       refine pu_ HT_ 12 44 (B_ 8191 14) ?_
       refine pu_ HT_ 13 45 (B_ 16383 14) ?_
       refine done_ (done_of HT_.out (by kernel_rfl)) ?_
       try go_wp2
       go_roundg k2
       case measure => have := HK1.out; have := HK2.out; omega
       case rel => exact ⟨(x3_1), (wrap64 (x4_1 + 1)), rs_, H', ⟨by have := HK1.out; have := HK2.out; omega⟩, ⟨re_ HO_3.out⟩, ⟨bl_ HB.out⟩⟩
     rw [if_neg c14] at H
     have c14b0 : ((rd x3_1 (ji7)) == (rd l0 x4_1)) = false := beq_eq_false_iff_ne.mpr c14
     have c14b1 : ((rd x3_1 (ji7)) != (rd l0 x4_1)) = true := bne_iff_ne.mpr c14
     obtain ⟨y149, hy149⟩ : ∃ y_ : List Int, y_ = (([] : List Int)) := ⟨_, rfl⟩
     replace H : (if 0 ≤ x5_2 then (if x5_2 ≤ (x3_1.length : Int) then ((some (x3_1.drop (x5_2 : Int).toNat : List Int)).bind fun y152 => (if y149.length + y152.length < 17592186044416 then ((some (y149 ++ y152 : List Int)).bind fun y156 => ((some (x3_1.take (x5_2 : Int).toNat : List Int)).bind fun y159 => (if y159.length < 17592186044416 then ((some (y159 ++ [rd l0 x4_1] : List Int)).bind fun y163 => (if y163.length + y156.length < 17592186044416 then (spec_SortList.l0 k2 l0 (y163 ++ y156) (wrap64 (x4_1 + 1))) else (none))) else (none)))) else (none))) else (none)) else (none)) = some r := by subst hy149; exact H
     have Ny149 := Aside0.mk hy149
     clear hy149
     obtain ⟨c17, H⟩ := ip_ H
     have c17b0 := eq_true c17
     have c17b1 : decide (0 ≤ x5_2) = true := decide_eq_true c17
     clear c17
     obtain ⟨c18, H⟩ := ip_ H
     have c18b0 := eq_true c18
     have c18b1 : decide (x5_2 ≤ (x3_1.length : Int)) = true := decide_eq_true c18
     clear c18
     obtain ⟨y152, hy152⟩ : ∃ y_ : List Int, y_ = (x3_1.drop (x5_2 : Int).toNat) := ⟨_, rfl⟩
     replace H : (if y149.length + y152.length < 17592186044416 then ((some (y149 ++ y152 : List Int)).bind fun y156 => ((some (x3_1.take (x5_2 : Int).toNat : List Int)).bind fun y159 => (if y159.length < 17592186044416 then ((some (y159 ++ [rd l0 x4_1] : List Int)).bind fun y163 => (if y163.length + y156.length < 17592186044416 then (spec_SortList.l0 k2 l0 (y163 ++ y156) (wrap64 (x4_1 + 1))) else (none))) else (none)))) else (none)) = some r := by subst hy152; exact H
     have Ny152 := Aside0.mk hy152
     clear hy152
     obtain ⟨c19, H⟩ := ip_ H
     have LMc19 := Aside0.mk c19
     clear c19
     obtain ⟨y156, hy156⟩ : ∃ y_ : List Int, y_ = (y149 ++ y152) := ⟨_, rfl⟩
     replace H : ((some (x3_1.take (x5_2 : Int).toNat : List Int)).bind fun y159 => (if y159.length < 17592186044416 then ((some (y159 ++ [rd l0 x4_1] : List Int)).bind fun y163 => (if y163.length + y156.length < 17592186044416 then (spec_SortList.l0 k2 l0 (y163 ++ y156) (wrap64 (x4_1 + 1))) else (none))) else (none))) = some r := by subst hy156; exact H
     have Ny156 := Aside0.mk hy156
     clear hy156
     have c20b0 := eq_true (od_ : x5_2 ≤ (x3_1.length : Int))
     obtain ⟨y159, hy159⟩ : ∃ y_ : List Int, y_ = (x3_1.take (x5_2 : Int).toNat) := ⟨_, rfl⟩
     replace H : (if y159.length < 17592186044416 then ((some (y159 ++ [rd l0 x4_1] : List Int)).bind fun y163 => (if y163.length + y156.length < 17592186044416 then (spec_SortList.l0 k2 l0 (y163 ++ y156) (wrap64 (x4_1 + 1))) else (none))) else (none)) = some r := by subst hy159; exact H
     have Ny159 := Aside0.mk hy159
     clear hy159
     obtain ⟨c21, H⟩ := ip_ H
     have LMc21 := Aside0.mk c21
     clear c21
     obtain ⟨y163, hy163⟩ : ∃ y_ : List Int, y_ = (y159 ++ [rd l0 x4_1]) := ⟨_, rfl⟩
     replace H : (if y163.length + y156.length < 17592186044416 then (spec_SortList.l0 k2 l0 (y163 ++ y156) (wrap64 (x4_1 + 1))) else (none)) = some r := by subst hy163; exact H
     have Ny163 := Aside0.mk hy163
     clear hy163
     obtain ⟨c22, H⟩ := ip_ H
     have LMc22 := Aside0.mk c22
     clear c22
     obtain ⟨y166, hy166⟩ : ∃ y_ : List Int, y_ = (y163 ++ y156) := ⟨_, rfl⟩
     replace H : (spec_SortList.l0 k2 l0 y166 (wrap64 (x4_1 + 1))) = some r := by subst hy166; exact H
     have Ny166 := Aside0.mk hy166
     clear hy166
     have H' := Aside0.mk H
     clear H
     try go_wp2
     replace HO_3 := Aside0.mk (Kd.R_drew HO_3.out)
     replace HB := Aside0.mk (below_drew1 HB.out)
     have p145 : 0 ≤ ((ji7) : Int) := od_
     have q145 : (ji7) < (x3_1.length : Int) := od_
     obtain ⟨ad145, e145, hx145_0⟩ := Kd.at_int (Kd.R_reads' HO_3.out).2.2 (ji7) p145 q145
     cases e145
     replace p145 := eq_true p145
     replace q145 := eq_true q145
     have p146 : 0 ≤ (x4_1 : Int) := od_
     have q146 : x4_1 < (l0.length : Int) := od_
     obtain ⟨ad146, e146, hx146_0⟩ := Kd.at_int HR0.out x4_1 p146 q146
     have hw146_0 := hx146_0
     cases e146
     (try replace hx146_0 := (HB.out.cell (World.block_lt_of_cell? w _ hx146_0)).trans hx146_0)
     replace p146 := eq_true p146
     replace q146 := eq_true q146
     refine start_ (n := 14) (S := fun w' => w'.cell? (ad145.add ((ji7)).toNat) = some (.int .i64 (rd x3_1 (ji7))) ∧ w'.cell? (ad146.add (x4_1).toNat) = some (.int .i64 (rd l0 x4_1))) (ds := []) (B_ 0 14) (by kernel_rfl) rfl rfl ⟨hx145_0, ((HB.out.cell (World.block_lt_of_cell? w _ hw146_0)).trans hw146_0)⟩ (fun hHeld => ?_); refine with_tabW spec_SortList.tab6 spec_SortList.bits6 (fun HT_ HW_ => ?_)
     generalize wr.drew = w23 at HO_3 HB hx145_0 hx146_0 hHeld ⊢
     refine pu_ HT_ 0 16 (B_ 1 14) ?_
     refine pu_ HT_ 1 17 (B_ 3 14) ?_
     refine pu_ HT_ 2 18 (B_ 7 14) ?_
     refine pu_ HT_ 3 19 (B_ 15 14) ?_
     refine pu_ HT_ 4 20 (B_ 31 14) ?_
     refine pu_ HT_ 5 21 (B_ 63 14) ?_
     refine pu_ HT_ 6 22 (B_ 127 14) ?_
     refine pu_ HT_ 8 24 (B_ 383 14) ?_
     refine pu_ HT_ 9 25 (B_ 895 14) ?_
     refine pu_ HT_ 10 26 (B_ 1919 14) ?_
     refine tk2_ HT_ HW_ hHeld 7 23 (B_ 2047 14) ?_
     refine tk2_ HT_ HW_ hHeld 11 27 (B_ 4095 14) ?_
     refine pu_ HT_ 12 28 (B_ 8191 14) ?_
     refine pu_ HT_ 13 29 (B_ 16383 14) ?_
     refine done_ (done_of HT_.out (by kernel_rfl)) ?_
     try go_wp2
     replace HO_3 := Aside0.mk (Kd.R_drew HO_3.out)
     replace HB := Aside0.mk (below_drew1 HB.out)
     have p147 : 0 ≤ ((ji7) : Int) := od_
     have q147 : (ji7) < (x3_1.length : Int) := od_
     obtain ⟨ad147, e147, hx147_0⟩ := Kd.at_int (Kd.R_reads' HO_3.out).2.2 (ji7) p147 q147
     obtain rfl : ad145 = ad147 := (by injection e147)
     replace p147 := eq_true p147
     replace q147 := eq_true q147
     have p148 : 0 ≤ (x4_1 : Int) := od_
     have q148 : x4_1 < (l0.length : Int) := od_
     obtain ⟨ad148, e148, hx148_0⟩ := Kd.at_int HR0.out x4_1 p148 q148
     have hw148_0 := hx148_0
     obtain rfl : ad146 = ad148 := (by injection e148)
     (try replace hx148_0 := (HB.out.cell (World.block_lt_of_cell? w _ hx148_0)).trans hx148_0)
     replace p148 := eq_true p148
     replace q148 := eq_true q148
     refine start_ (n := 14) (S := fun w' => w'.cell? (ad145.add ((ji7)).toNat) = some (.int .i64 (rd x3_1 (ji7))) ∧ w'.cell? (ad146.add (x4_1).toNat) = some (.int .i64 (rd l0 x4_1))) (ds := []) (B_ 0 14) (by kernel_rfl) rfl rfl ⟨hx147_0, ((HB.out.cell (World.block_lt_of_cell? w _ hw148_0)).trans hw148_0)⟩ (fun hHeld => ?_); refine with_tabW spec_SortList.tab8 spec_SortList.bits8 (fun HT_ HW_ => ?_)
     generalize w23.drew = w24 at HO_3 HB hx147_0 hx148_0 hHeld ⊢
     refine pu_ HT_ 0 32 (B_ 1 14) ?_
     refine pu_ HT_ 1 33 (B_ 3 14) ?_
     refine pu_ HT_ 2 34 (B_ 7 14) ?_
     refine pu_ HT_ 3 35 (B_ 15 14) ?_
     refine pu_ HT_ 4 36 (B_ 31 14) ?_
     refine pu_ HT_ 5 37 (B_ 63 14) ?_
     refine pu_ HT_ 6 38 (B_ 127 14) ?_
     refine pu_ HT_ 8 40 (B_ 383 14) ?_
     refine pu_ HT_ 9 41 (B_ 895 14) ?_
     refine pu_ HT_ 10 42 (B_ 1919 14) ?_
     refine tk2_ HT_ HW_ hHeld 7 39 (B_ 2047 14) ?_
     refine tk2_ HT_ HW_ hHeld 11 43 (B_ 4095 14) ?_
     refine pu_ HT_ 12 44 (B_ 8191 14) ?_
     refine pu_ HT_ 13 45 (B_ 16383 14) ?_
     refine done_ (done_of HT_.out (by kernel_rfl)) ?_
     try go_wp2_with (first | ((with_reducible refine gate_dst (N := 46) rfl ?_); refine Kd.R_lit (Kd.int .i64) _ 3 ?hg (N := 46) ?hd (xs := ([] : List Int)) (inner := []) (ok := fun _ => True) (okp := fun _ => True) ?hr ?hp (fun _ hk => hk) trivial (Below.refl _ _) (Nat.le_refl _) (by simp) ?_; (case hd => rfl); (case hg => rfl); (case hr => first | (go_simp; done) | (go_simp; rfl)); (case hp => exact (Reps.none _ _)); intro v150 w25 ho26 hb hg_ hnew_; clear hg_ hnew_; (first | rw [← Ny149.out] at ho26 | (simp only [Int.reduceToNat] at ho26; rw [← Ny149.out] at ho26)); have HO151 := Aside0.mk (Kd.R_lower (Kd.R_new' ho26 (Kd.R_lt (re_ HO_3.out))) (below_size (bl_ HB.out))); replace HO_3 := Aside0.mk (Kd.R_elder' (re_ HO_3.out) (Kd.R_base ho26) hb); replace HB := bo_ HB hb; clear hb ho26; have q27 : (x5_2 : Int) ≤ ((x3_1.length : Int) : Int) := od_; obtain ⟨i027, hi027, _, hsz27, _⟩ := info_parts info3; have hroom27 : x3_1.length ≤ co5 := (Kd.R_reads' HO_3.out).2.1; have hC27 : Kd.C (Kd.int .i64) _ (some ad145) x3_1.length x3_1 := (Kd.R_reads' HO_3.out).2.2; have q027 : (0 : Int) ≤ (x5_2 : Int) := od_; have hcut27 := cut_from (P := Try.prog) 24 3 .i64 Try.underlying24 hi027 1 hsz27 (some ad145) x3_1.length co5 x5_2 q027 q27; have hr27 := Kd.C_drop (m := (x5_2 : Int).toNat) (c := co5) hC27 (by omega) hroom27; obtain ⟨A27, hA27⟩ : ∃ A1, A1 = (if co5 = (x5_2 : Int).toNat then (some ad145) else ((some ad145) : Option Addr).map (·.add ((x5_2 : Int).toNat * 1))) := ⟨_, rfl⟩; obtain ⟨c27, hc27⟩ : ∃ c1, c1 = co5 - (x5_2 : Int).toNat := ⟨_, rfl⟩; have hy27 : y152.length = x3_1.length - (x5_2 : Int).toNat := (by rw [Ny152.out, List.length_drop] <;> omega); rw [show (x3_1).drop (x5_2 : Int).toNat = y152 from Ny152.out.symm] at hr27; replace hr27 : Kd.C (Kd.int .i64) _ A27 y152.length y152 := (by rw [hA27]; exact hr27); rw [← hy27, ← hA27, ← hc27] at hcut27; have HR155 := Aside0.mk hr27; have HC155 := Aside0.mk (show y152.length ≤ c27 from by rw [hy27, hc27]; exact Nat.sub_le_sub_right hroom27 _); clear hr27 hC27 hroom27 hi027 hsz27 hc27; have KY27 := Aside0.mk hy27; have KA27 := Aside0.mk hA27; clear hy27 hA27; have KL27 := Aside0.mk (show (x5_2 : Int).toNat ≤ x3_1.length from by omega); replace q27 := eq_true q27) | ((with_reducible refine gate_builtin (b := .append) (xs := #[.tmp 46, .tmp 49]) rfl ?_); at_builtin; refine Kd.R_append_rows (Kd.int .i64) (w0 := w) w.heap.size rfl (.tmp 46) (.tmp 49) 24 3 (.int .i64 0) 8 rfl Try.underlying24 info3 rfl (by decide) (by omega) v150 y149 y152 _ _ _ (fun k_ => some k_ ≠ (.slice (some ad145) x3_1.length co5 : Value).ownBlock) (fun _ => False) rfl rfl ?aO ?aR (fun _ _ h => h) (fun _ h => h.elim) ?aF ?aB ?aS ?aL ?_; (case aR => repeat (first | exact (by repeat (first | (with_reducible exact HR155.out) | (with_reducible refine Kd.C_alloc ?_ _) | (with_reducible refine Kd.C_drewN ?_ _) | (with_reducible refine Kd.C_drew ?_) | exact HR155.out)) | (with_reducible refine Kd.C_alloc ?_ _) | (with_reducible refine Kd.C_drewN ?_ _) | (with_reducible refine Kd.C_drew ?_))); (case aB => exact (bl_ HB.out)); (case aF => exact (fun k_ hk => Kd.fresh' (Kd.R_lt (re_ HO_3.out)) k_ hk)); (case aO => exact (by (with_reducible repeat (first | apply Kd.R_alloc | apply Kd.R_drewN | apply Kd.R_drew)); exact Kd.R_mono HO151.out (fun _ hk => hk.2))); (case aS => exact (below_size (bl_ HB.out))); (case aL => have := LMc19.out; omega); intro v157 w28 ho hb hg hat; rw [← Ny156.out] at ho; replace HB := Aside0.mk (hb); replace HR155 := Aside0.mk ((show Kd.C (Kd.int .i64) w28 A27 y152.length y152 from by rw [Ny152.out, KA27.out]; exact Kd.C_drop (m := (x5_2 : Int).toNat) (c := co5) ((Kd.R_reads' (Kd.R_after (ok := (fun _ => True)) (re_ HO_3.out) hg hat)).2.2) KL27.out ((Kd.R_reads' (Kd.R_after (ok := (fun _ => True)) (re_ HO_3.out) hg hat)).2.1))); replace HO_3 := Aside0.mk (Kd.R_after (ok := (fun _ => True)) (re_ HO_3.out) hg hat); have HO158 := Aside0.mk (ho); clear HO151; clear ho hb hg hat))
     replace HO_3 := Aside0.mk (Kd.R_drew HO_3.out)
     replace HO158 := Aside0.mk (Kd.R_drew HO158.out)
     replace HR155 := Aside0.mk (Kd.C_drew HR155.out)
     replace HB := Aside0.mk (below_drew1 HB.out)
     have q30 : (x5_2 : Int) ≤ ((x3_1.length : Int) : Int) := od_
     obtain ⟨i030, hi030, _, hsz30, _⟩ := info_parts info3
     have hcut30 := cut_to (P := Try.prog) 24 3 .i64 Try.underlying24 hi030 (some ad145) x3_1.length co5 x5_2 (od_) q30 (Kd.R_reads' HO_3.out).2.1
     have hr30 := Kd.R_take (m := (x5_2 : Int).toNat) HO_3.out (by omega)
     have hy30 : y159.length = (x5_2 : Int).toNat := (by rw [Ny159.out, List.length_take]; omega)
     rw [← Ny159.out] at hr30
     rw [← hy30] at hr30 hcut30
     clear hy30 hi030 hsz30 HO_3
     have HO161 := Aside0.mk hr30
     clear hr30
     replace q30 := eq_true q30
     have p162 : 0 ≤ (x4_1 : Int) := od_
     have q162 : x4_1 < (l0.length : Int) := od_
     obtain ⟨ad162, e162, hx162_0⟩ := Kd.at_int HR0.out x4_1 p162 q162
     have hw162_0 := hx162_0
     obtain rfl : ad146 = ad162 := (by injection e162)
     (try replace hx162_0 := (HB.out.cell (World.block_lt_of_cell? w _ hx162_0)).trans hx162_0)
     replace p162 := eq_true p162
     replace q162 := eq_true q162
     refine start_ (n := 12) (S := fun w' => w'.cell? (ad146.add (x4_1).toNat) = some (.int .i64 (rd l0 x4_1))) (ds := []) (B_ 0 12) (by kernel_rfl) rfl rfl (by first | exact hw162_0 | exact (HB.out.cell (World.block_lt_of_cell? w _ hw162_0)).trans hw162_0 | (obtain ⟨_, e_, h_⟩ := Kd.at_int HR0.out x4_1 (of_eq_true p162) (of_eq_true q162); cases e_; exact h_)) (fun hHeld => ?_); refine with_tabW spec_SortList.tab10 spec_SortList.bits10 (fun HT_ HW_ => ?_)
     generalize w28.drew = w29 at HO_3 HO158 HR155 HB HO161 hx162_0 hHeld ⊢
     refine pu_ HT_ 0 51 (B_ 1 12) ?_
     refine pu_ HT_ 1 52 (B_ 3 12) ?_
     refine pu_ HT_ 2 53 (B_ 7 12) ?_
     refine pu_ HT_ 3 54 (B_ 15 12) ?_
     refine pu_ HT_ 4 55 (B_ 31 12) ?_
     refine pu_ HT_ 5 56 (B_ 63 12) ?_
     refine pu_ HT_ 9 60 (B_ 575 12) ?_
     refine tk1_ HT_ HW_ hHeld 6 57 (B_ 639 12) ?_
     refine on_ HT_ 7 58 (B_ 767 12) (fun K hK => ?_)
     refine value_ (w1 := ?_) (v := ?_) (by rfl) rfl ?_ ?_
     rotate_left 2
     · go_simp
       constructor
       · rfl
       · rfl
     refine hK.out _ _ ((World.cell?_alloc_lt _ _ _ (World.block_lt_of_cell? _ _ (by first | exact hw162_0 | exact (HB.out.cell (World.block_lt_of_cell? w _ hw162_0)).trans hw162_0 | (obtain ⟨_, e_, h_⟩ := Kd.at_int HR0.out x4_1 (of_eq_true p162) (of_eq_true q162); cases e_; exact h_)))).trans (by first | exact hw162_0 | exact (HB.out.cell (World.block_lt_of_cell? w _ hw162_0)).trans hw162_0 | (obtain ⟨_, e_, h_⟩ := Kd.at_int HR0.out x4_1 (of_eq_true p162) (of_eq_true q162); cases e_; exact h_))) (fun hHeld => ?_)
     clear hK K
     refine norm_ (a' := ?_) ?_ ?_
     rotate_left
     · show Act.put _ (some 58) _ = _
       simp only [Act.put, z1_, z2_, z3_, i64_w, i32_w]
       rfl
     refine on_ HT_ 8 59 (B_ 1023 12) (fun K hK => ?_)
     refine Kd.R_append_step (Kd.int .i64) (w0 := w) w.heap.size (by rfl) (.tmp 53) (.tmp 58) 24 3 (.int .i64 0) 8 rfl Try.underlying24 info3 rfl (by decide) (by omega) (.slice (some ad145) y159.length co5) y159 (rd l0 x4_1) [.int .i64 (rd l0 x4_1)] (fun k_ => some k_ ≠ (v157 : Value).ownBlock) (fun _ => False) rfl rfl ?aP (fun _ hk => hk.elim) ?aF ?aO ?aB ?aS ?aL ?_
     (case aP => exact rfl)
     (case aB => exact (bl_ HB.out))
     (case aF => exact (fun k_ hk => Kd.fresh' (Kd.R_lt (re_ HO158.out)) k_ hk))
     (case aO => exact (by (with_reducible repeat (first | apply Kd.R_alloc | apply Kd.R_drewN | apply Kd.R_drew)); exact Kd.R_mono HO161.out (fun _ hk => hk.2)))
     (case aS => exact (below_size (bl_ HB.out)))
     (case aL => have := LMc21.out; omega)
     intro v164 w31 ho hb hg hat
     rw [← Ny163.out] at ho
     replace HO158 := Aside0.mk (Kd.R_after (ok := (fun _ => True)) (by (with_reducible repeat (first | apply Kd.R_alloc | apply Kd.R_drewN | apply Kd.R_drew)); exact Kd.R_mono HO158.out (fun _ hk => ⟨trivial, by first | exact hk | exact (fun e_ => hk (e_.trans (own_len_ _ _ _ _ _)))⟩)) hg hat)
     replace HB := Aside0.mk (hb)
     have HO165 := Aside0.mk (ho)
     clear HO161
     clear ho hb hg hat
     obtain ⟨Ao33, co33, eo33⟩ := Kd.R_slice HO158.out
     (first | subst eo33 | (injection eo33 with f1_ f2_ f3_; have f4_ := f1_.symm; have f5_ := f3_.symm; clear f1_ f2_ f3_; subst f4_; subst f5_))
     refine hK.out _ _ (by first | exact hw162_0 | exact (HB.out.cell (World.block_lt_of_cell? w _ hw162_0)).trans hw162_0 | (obtain ⟨_, e_, h_⟩ := Kd.at_int HR0.out x4_1 (of_eq_true p162) (of_eq_true q162); cases e_; exact h_)) (fun hHeld => ?_)
     clear hK K
     refine norm_ (a' := ?_) ?_ ?_
     rotate_left
     · show Act.put _ (some 59) _ = _
       simp only [Act.put, z1_, z2_, z3_, i64_w, i32_w]
       rfl
     refine on_ HT_ 10 61 (B_ 2047 12) (fun K hK => ?_)
     refine Kd.R_append_rows_step (Kd.int .i64) (w0 := w) w.heap.size (by rfl) (.tmp 59) (.tmp 60) 24 3 (.int .i64 0) 8 rfl Try.underlying24 info3 rfl (by decide) (by omega) v164 y163 y156 _ _ _ (fun k_ => some k_ ≠ (.slice Ao33 y156.length co33 : Value).ownBlock) (fun _ => False) rfl rfl ?aO ?aR (fun _ _ h => h) (fun _ h => h.elim) ?aF ?aB ?aS ?aL ?_
     (case aR => exact ce_ ((Kd.R_reads' HO158.out).2.2))
     (case aB => exact (bl_ HB.out))
     (case aF => exact (fun k_ hk => Kd.fresh' (Kd.R_lt (re_ HO158.out)) k_ hk))
     (case aO => exact (re_ HO165.out))
     (case aS => exact (below_size (bl_ HB.out)))
     (case aL => have := LMc22.out; omega)
     intro v167 w32 ho hb hg hat
     rw [← Ny166.out] at ho
     replace HO158 := Aside0.mk (Kd.R_after (ok := (fun _ => True)) (re_ HO158.out) hg hat)
     replace HB := Aside0.mk (hb)
     have HO168 := Aside0.mk (ho)
     clear HO165
     clear ho hb hg hat
     refine hK.out _ _ (by first | exact hw162_0 | exact (HB.out.cell (World.block_lt_of_cell? w _ hw162_0)).trans hw162_0 | (obtain ⟨_, e_, h_⟩ := Kd.at_int HR0.out x4_1 (of_eq_true p162) (of_eq_true q162); cases e_; exact h_)) (fun hHeld => ?_)
     clear hK K
     refine norm_ (a' := ?_) ?_ ?_
     rotate_left
     · show Act.put _ (some 61) _ = _
       simp only [Act.put, z1_, z2_, z3_, i64_w, i32_w]
       rfl
     refine pu_ HT_ 11 3 (B_ 4095 12) ?_
     refine done_ (done_of HT_.out (by kernel_rfl)) ?_
     try go_wp2
     go_roundg k2
     case measure => have := HK1.out; have := HK2.out; omega
     case rel => exact ⟨(y166), (wrap64 (x4_1 + 1)), rs_, H', ⟨by have := HK1.out; have := HK2.out; omega⟩, ⟨by (with_reducible repeat (first | apply Kd.R_alloc | apply Kd.R_drewN | apply Kd.R_drew)); exact Kd.R_mono HO168.out (fun _ hk => trivial)⟩, ⟨bl_ HB.out⟩⟩
def spec_l3Minimal.l0 : Nat → List Int → List Int → Int → Option (List Int)
 | 0, _, _, _ => none
 | k + 1, x3, x4, x5 => if x5 < (x4.length : Int) then (if x5 = 0 then (if 0 ≤ x5 then (if x3.length < 17592186044416 then (spec_l3Minimal.l0 k (x3 ++ [rd x4 x5]) x4 (wrap64 (x5 + 1))) else (none)) else (none)) else (if 0 ≤ x5 then (if x5 ≤ (x4.length : Int) then ((spec_l3Table.f k (x4.take (x5 : Int).toNat) (rd x4 x5)).bind fun t204 => (if 0 ≤ (rd x4 x5) then (if (rd x4 x5) < (t204.length : Int) then (if (rdOf false t204 (rd x4 x5) = true) then (spec_l3Minimal.l0 k x3 x4 (wrap64 (x5 + 1))) else (if x3.length < 17592186044416 then (spec_l3Minimal.l0 k (x3 ++ [rd x4 x5]) x4 (wrap64 (x5 + 1))) else (none))) else (none)) else (none))) else (none)) else (none))) else (some x3)
def spec_l3Minimal.f (k : Nat) (l0 : List Int) : Option (List Int) := (spec_SortList.f k l0).bind fun t192 => (spec_l3Minimal.l0 k (([] : List Int)) t192 0)
theorem spec_l3Minimal.mono_l : ∀ k, (∀ y0 y1 y2, LeO (spec_l3Minimal.l0 k y0 y1 y2) (spec_l3Minimal.l0 (k + 1) y0 y1 y2))
 | 0 => fun _ _ _ r h => by simp [spec_l3Minimal.l0] at h
 | k + 1 => by
  have ih0 := spec_l3Minimal.mono_l k
  · intro y0 y1 y2
    unfold spec_l3Minimal.l0
    repeat' first
    | (with_reducible exact ih0 _ _ _)
    | (with_reducible exact spec_SortList.mono _ _)
    | (with_reducible exact spec_l3Table.mono _ _ _)
    | (with_reducible exact LeO.refl _)
    | (with_reducible exact LeO.none _)
    | (with_reducible refine LeO.ite ?_ ?_)
    | (with_reducible refine LeO.bind ?_ (fun _ => ?_))
    | exact ih0 _ _ _
    | exact LeO.none _
    | refine LeO.ite ?_ ?_
    | refine LeO.bind ?_ (fun _ => ?_)
theorem spec_l3Minimal.mono : ∀ a0 k, LeO (spec_l3Minimal.f k a0) (spec_l3Minimal.f (k + 1) a0) := by
 intro a0 k
 have ih0 := spec_l3Minimal.mono_l k
 unfold spec_l3Minimal.f
 repeat' first
  | (with_reducible exact ih0 _ _ _)
  | (with_reducible exact spec_SortList.mono _ _)
  | (with_reducible exact spec_l3Table.mono _ _ _)
  | (with_reducible exact LeO.refl _)
  | (with_reducible exact LeO.none _)
  | (with_reducible refine LeO.ite ?_ ?_)
  | (with_reducible refine LeO.bind ?_ (fun _ => ?_))
  | exact ih0 _ _ _
  | exact LeO.none _
  | refine LeO.ite ?_ ?_
  | refine LeO.bind ?_ (fun _ => ?_)
def spec_l3Minimal.T6 : Bool × List (List Nat × List Nat) := (true, [([], []), ([0], [0]), ([1], [1]), ([2], [2]), ([2], [2]), ([3, 4, 2], [2, 3, 4]), ([2], [2]), ([2], [2]), ([6, 7, 2], [2, 6, 7]), ([8, 2], [2, 8]), ([5, 9, 2, 2], [2, 5, 9]), ([2], [2]), ([2], [2]), ([11, 12, 2], [2, 11, 12]), ([13, 2], [2, 13]), ([10, 14, 2], [2, 10, 14]), ([15, 2], [2, 15]), ([16, 2], [2, 16]), ([2, 17], [2, 17])])
def spec_l3Minimal.B6 : List Nat := [0, 1, 3, 7, 7, 31, 7, 7, 199, 455, 1023, 7, 7, 6151, 14343, 32767, 65535, 131071, 262143]
theorem spec_l3Minimal.tab6 : rtab .any (opsOf Try.f58 6) = spec_l3Minimal.T6 := by kernel_rfl
theorem spec_l3Minimal.bits6 : waitsOk spec_l3Minimal.T6.2 spec_l3Minimal.B6 = true := by kernel_rfl
theorem spec_l3Minimal.calls (k : Nat) (A0 : Option Addr) (c0 : Nat) (l0 : List Int) (r : List Int) (w : World) (hr0 : Kd.C (Kd.int .i64) w A0 l0.length l0) (hc0 : l0.length ≤ c0) (h : spec_l3Minimal.f k l0 = some r) :
 Calls Try.prog 58 #[.slice A0 l0.length c0] w fun e w' => ∃ v0_ : Value, e = .returned (v0_) ∧ Kd.R (Kd.int .i64) 3 w' w.heap.size (fun _ => True) v0_ r ∧ Below w.heap.size w w' := by
 have HR0 := Aside0.mk hr0
 have HC0 := Aside0.mk hc0
 clear hr0 hc0
 have HB := Aside0.mk (Below.refl w.heap.size w)
 have H := h
 clear h
 unfold spec_l3Minimal.f at H
 obtain ⟨y189, hy189⟩ : ∃ y_ : List Int, y_ = (([] : List Int)) := ⟨_, rfl⟩
 replace H : ((spec_SortList.f k l0).bind fun t192 => (spec_l3Minimal.l0 k y189 t192 0)) = some r := by subst hy189; exact H
 have Ny189 := Aside0.mk hy189
 clear hy189
 obtain ⟨t192, A2, H⟩ := ob_ H
 have H' := Aside0.mk H
 clear H
 go_enter Try.func58, Try.ntmps58
 go_wp2_with (first | ((with_reducible refine gate_dst (N := 6) rfl ?_); refine Kd.R_lit (Kd.int .i64) _ 3 ?hg (N := 6) ?hd (xs := ([] : List Int)) (inner := []) (ok := fun _ => True) (okp := fun _ => True) ?hr ?hp (fun _ hk => hk) trivial (Below.refl _ _) (Nat.le_refl _) (by simp) ?_; (case hd => rfl); (case hg => rfl); (case hr => first | (go_simp; done) | (go_simp; rfl)); (case hp => exact (Reps.none _ _)); intro v190 w3 ho4 hb hg_ hnew_; clear hg_ hnew_; (first | rw [← Ny189.out] at ho4 | (simp only [Int.reduceToNat] at ho4; rw [← Ny189.out] at ho4)); have HO191 := Aside0.mk (Kd.R_lower ho4 (below_size (bl_ HB.out))); replace HB := bo_ HB hb; clear hb ho4) | ((with_reducible refine gate_callee (f := 75) rfl ?_); refine gL_ (some 8) Try.func75 #[.slice A0 l0.length c0] ?_; (with_reducible refine (spec_SortList.calls k _ _ l0 t192 _ ?side1 ?side2 A2.out).mono ?_); (case side1 => exact ch_ HR0 HB); (case side2 => exact HC0.out); rintro e w5 ⟨v193, rfl, ho0, hb⟩; refine ⟨_, rfl, ?_⟩; have HO194 := Aside0.mk (Kd.R_lower (Kd.R_new' ho0 (Kd.R_lt (re_ HO191.out))) (below_size (bl_ HB.out))); replace HO191 := Aside0.mk (Kd.R_elder' (re_ HO191.out) (Kd.R_base ho0) hb); replace HB := bo_ HB hb; (try clear hb); (try clear ho0)))
 go_loopg [3, 5] k (fun kq v3 v5 w' => ∃ (x3_1 : List Int) (x5_1 : Int), v5 = .int .i64 x5_1 ∧ Aside0 (spec_l3Minimal.l0 kq x3_1 t192 x5_1 = some r) ∧ Aside0 (kq ≤ k) ∧ Aside0 (Kd.R (Kd.int .i64) 3 w' w.heap.size (fun k_ => some k_ ≠ (v193 : Value).ownBlock) v3 x3_1) ∧ Aside0 (Kd.R (Kd.int .i64) 3 w' w.heap.size (fun k_ => some k_ ≠ (v3 : Value).ownBlock) v193 t192) ∧ Aside0 (Below w.heap.size w w'))
 case atStart => exact ⟨(y189), (0), rs_, H', ⟨Nat.le_refl _⟩, ⟨by (with_reducible repeat (first | apply Kd.R_alloc | apply Kd.R_drewN | apply Kd.R_drew)); exact Kd.R_mono HO191.out (fun _ hk => hk.2)⟩, ⟨by (with_reducible repeat (first | apply Kd.R_alloc | apply Kd.R_drewN | apply Kd.R_drew)); exact Kd.R_mono HO194.out (fun _ hk => hk.2)⟩, ⟨bl_ HB.out⟩⟩
 case round =>
  clear H'
  obtain ⟨x3_1, x5_1, rfl, HA, HK1, HO_3, HO_4, HB⟩ := hrel
  cases gk with
  | zero => exact absurd HA.out (by simp [spec_l3Minimal.l0])
  | succ k1 =>
   have H := HA.out
   clear HA
   simp only [spec_l3Minimal.l0] at H
   by_cases c6 : x5_1 < (t192.length : Int)
   rotate_left
   · rw [if_neg c6] at H
     have c6b0 : decide (x5_1 < (t192.length : Int)) = false := decide_eq_false c6
     clear c6
     obtain rfl := Option.some.inj H
     obtain ⟨Ao32, co32, eo32⟩ := Kd.R_slice HO_4.out
     subst eo32
     go_wp2
     go_ret
     exact ⟨_, rf_, by (with_reducible repeat (first | apply Kd.R_alloc | apply Kd.R_drewN | apply Kd.R_drew)); exact Kd.R_mono HO_3.out (fun _ hk => trivial), bl_ HB.out⟩
   rw [if_pos c6] at H
   have c6b0 : decide (x5_1 < (t192.length : Int)) = true := decide_eq_true c6
   clear c6
   by_cases c7 : x5_1 = 0
   · rw [if_pos c7] at H
     have c7b0 : (x5_1 == 0) = true := beq_iff_eq.mpr c7
     have c7b1 : (x5_1 != 0) = false := bne_eq_false_iff_eq.mpr c7
     clear c7
     obtain ⟨c8b0, H⟩ := ipd_ H
     obtain ⟨c9, H⟩ := ip_ H
     have LMc9 := Aside0.mk c9
     clear c9
     obtain ⟨y196, hy196⟩ : ∃ y_ : List Int, y_ = (x3_1 ++ [rd t192 x5_1]) := ⟨_, rfl⟩
     replace H : (spec_l3Minimal.l0 k1 y196 t192 (wrap64 (x5_1 + 1))) = some r := by subst hy196; exact H
     have Ny196 := Aside0.mk hy196
     clear hy196
     have H' := Aside0.mk H
     clear H
     obtain ⟨Ao10, co10, eo10⟩ := Kd.R_slice HO_4.out
     subst eo10
     try go_wp2
     replace HO_3 := Aside0.mk (Kd.R_drew HO_3.out)
     replace HO_4 := Aside0.mk (Kd.R_drew HO_4.out)
     replace HB := Aside0.mk (below_drew1 HB.out)
     refine start_ (n := 19) (S := fun w' => True) (ds := []) (B_ 0 19) (by kernel_rfl) rfl rfl trivial (fun hHeld => ?_); refine with_tabW spec_l3Minimal.tab6 spec_l3Minimal.bits6 (fun HT_ HW_ => ?_)
     generalize wr.drew = w11 at HO_3 HO_4 HB hHeld ⊢
     refine pu_ HT_ 0 15 (B_ 1 19) ?_
     refine pu_ HT_ 1 16 (B_ 3 19) ?_
     refine pu_ HT_ 2 17 (B_ 7 19) ?_
     refine pn_ HT_ 3 18 (B_ 15 19) ?_
     refine pn_ HT_ 4 19 (B_ 31 19) ?_
     refine pn_ HT_ 5 20 (B_ 63 19) ?_
     refine pn_ HT_ 6 21 (B_ 127 19) ?_
     refine pn_ HT_ 7 22 (B_ 255 19) ?_
     refine pn_ HT_ 8 23 (B_ 511 19) ?_
     refine pn_ HT_ 9 24 (B_ 1023 19) ?_
     refine pn_ HT_ 10 25 (B_ 2047 19) ?_
     refine pn_ HT_ 11 26 (B_ 4095 19) ?_
     refine pn_ HT_ 12 27 (B_ 8191 19) ?_
     refine pn_ HT_ 13 28 (B_ 16383 19) ?_
     refine pn_ HT_ 14 29 (B_ 32767 19) ?_
     refine pn_ HT_ 15 30 (B_ 65535 19) ?_
     refine pn_ HT_ 16 31 (B_ 131071 19) ?_
     refine pn_ HT_ 17 32 (B_ 262143 19) ?_
     refine pu_ HT_ 18 33 (B_ 524287 19) ?_
     refine done_ (done_of HT_.out (by kernel_rfl)) ?_
     have p195 : 0 ≤ (x5_1 : Int) := od_
     have q195 : x5_1 < (t192.length : Int) := od_
     obtain ⟨ad195, e195, hx195_0⟩ := Kd.at_int (Kd.R_reads' HO_4.out).2.2 x5_1 p195 q195
     cases e195
     replace p195 := eq_true p195
     replace q195 := eq_true q195
     try go_wp2_with (first | ((with_reducible refine gate_builtin (b := .append) (xs := #[.tmp 34, .tmp 39]) rfl ?_); at_builtin; refine Kd.R_append (Kd.int .i64) (w0 := w) w.heap.size rfl (.tmp 34) (.tmp 39) 24 3 (.int .i64 0) 8 rfl Try.underlying24 info3 rfl (by decide) (by omega) u3 x3_1 (rd t192 x5_1) [.int .i64 (rd t192 x5_1)] (fun k_ => some k_ ≠ (.slice (some ad195) t192.length co10 : Value).ownBlock) (fun _ => False) rfl rfl ?aP (fun _ hk => hk.elim) ?aF ?aO ?aB ?aS ?aL ?_; (case aP => exact rfl); (case aB => exact (bl_ HB.out)); (case aF => exact (fun k_ hk => Kd.fresh' (Kd.R_lt (re_ HO_4.out)) k_ hk)); (case aO => exact (re_ HO_3.out)); (case aS => exact (below_size (bl_ HB.out))); (case aL => have := LMc9.out; omega); intro v197 w12 ho hb hg hat; rw [← Ny196.out] at ho; replace HO_4 := Aside0.mk (Kd.R_after (ok := (fun _ => True)) (by (with_reducible repeat (first | apply Kd.R_alloc | apply Kd.R_drewN | apply Kd.R_drew)); exact Kd.R_mono HO_4.out (fun _ hk => ⟨trivial, hk⟩)) hg hat); replace HB := Aside0.mk (hb); have HO198 := Aside0.mk (ho); clear HO_3; clear ho hb hg hat))
     go_roundg k1
     case measure => have := HK1.out; omega
     case rel => exact ⟨(y196), (wrap64 (x5_1 + 1)), rs_, H', ⟨by have := HK1.out; omega⟩, ⟨re_ HO198.out⟩, ⟨by (with_reducible repeat (first | apply Kd.R_alloc | apply Kd.R_drewN | apply Kd.R_drew)); exact Kd.R_mono HO_4.out (fun _ hk => hk.2)⟩, ⟨bl_ HB.out⟩⟩
   rw [if_neg c7] at H
   have c7b0 : (x5_1 == 0) = false := beq_eq_false_iff_ne.mpr c7
   have c7b1 : (x5_1 != 0) = true := bne_iff_ne.mpr c7
   obtain ⟨c13, H⟩ := ip_ H
   have c13b0 := eq_true c13
   have c13b1 : decide (0 ≤ x5_1) = true := decide_eq_true c13
   clear c13
   obtain ⟨c14, H⟩ := ip_ H
   have c14b0 := eq_true c14
   have c14b1 : decide (x5_1 ≤ (t192.length : Int)) = true := decide_eq_true c14
   clear c14
   obtain ⟨y199, hy199⟩ : ∃ y_ : List Int, y_ = (t192.take (x5_1 : Int).toNat) := ⟨_, rfl⟩
   replace H : ((spec_l3Table.f k1 y199 (rd t192 x5_1)).bind fun t204 => (if 0 ≤ (rd t192 x5_1) then (if (rd t192 x5_1) < (t204.length : Int) then (if (rdOf false t204 (rd t192 x5_1) = true) then (spec_l3Minimal.l0 k1 x3_1 t192 (wrap64 (x5_1 + 1))) else (if x3_1.length < 17592186044416 then (spec_l3Minimal.l0 k1 (x3_1 ++ [rd t192 x5_1]) t192 (wrap64 (x5_1 + 1))) else (none))) else (none)) else (none))) = some r := by subst hy199; exact H
   have Ny199 := Aside0.mk hy199
   clear hy199
   obtain ⟨t204, A15, H⟩ := ob_ H
   obtain ⟨c16b0, H⟩ := ipd_ H
   obtain ⟨c17b0, H⟩ := ipd_ H
   obtain ⟨bq18, hbq18⟩ : ∃ b_ : Bool, b_ = (rdOf false t204 (rd t192 x5_1)) := ⟨_, rfl⟩
   replace H : (if (bq18 = true) then (spec_l3Minimal.l0 k1 x3_1 t192 (wrap64 (x5_1 + 1))) else (if x3_1.length < 17592186044416 then (spec_l3Minimal.l0 k1 (x3_1 ++ [rd t192 x5_1]) t192 (wrap64 (x5_1 + 1))) else (none))) = some r := by rw [← hbq18] at H; exact H
   have Nbq18 := Aside0.mk hbq18
   clear hbq18
   by_cases c19 : (bq18 = true)
   · subst c19
     rw [if_pos rfl] at H
     have H' := Aside0.mk H
     clear H
     obtain ⟨Ao20, co20, eo20⟩ := Kd.R_slice HO_4.out
     subst eo20
     try go_wp2
     replace HO_3 := Aside0.mk (Kd.R_drew HO_3.out)
     replace HO_4 := Aside0.mk (Kd.R_drew HO_4.out)
     replace HB := Aside0.mk (below_drew1 HB.out)
     have q22 : (x5_1 : Int) ≤ ((t192.length : Int) : Int) := od_
     obtain ⟨i022, hi022, _, hsz22, _⟩ := info_parts info3
     have hroom22 : t192.length ≤ co20 := (Kd.R_reads' HO_4.out).2.1
     have hC22 : Kd.C (Kd.int .i64) _ Ao20 t192.length t192 := (Kd.R_reads' HO_4.out).2.2
     have hcut22 := cut_to (P := Try.prog) 24 3 .i64 Try.underlying24 hi022 Ao20 t192.length co20 x5_1 (od_) q22 hroom22
     have hr22 := Kd.C_take (m := (x5_1 : Int).toNat) hC22 (by omega)
     have hy22 : y199.length = (x5_1 : Int).toNat := (by rw [Ny199.out, List.length_take]; omega)
     rw [← Ny199.out] at hr22
     rw [← hy22] at hcut22
     have HR202 := Aside0.mk hr22
     have HC202 := Aside0.mk (show y199.length ≤ co20 from by omega)
     clear hr22 hC22 hroom22 hi022 hsz22
     have KY22 := Aside0.mk hy22
     clear hy22
     have KL22 := Aside0.mk (show (x5_1 : Int).toNat ≤ t192.length from by omega)
     replace q22 := eq_true q22
     have p203 : 0 ≤ (x5_1 : Int) := od_
     have q203 : x5_1 < (t192.length : Int) := od_
     obtain ⟨ad203, e203, hx203_0⟩ := Kd.at_int (Kd.R_reads' HO_4.out).2.2 x5_1 p203 q203
     cases e203
     replace p203 := eq_true p203
     replace q203 := eq_true q203
     have p207 : 0 ≤ (x5_1 : Int) := od_
     have q207 : x5_1 < (t192.length : Int) := od_
     obtain ⟨ad207, e207, hx207_0⟩ := Kd.at_int (Kd.R_reads' HO_4.out).2.2 x5_1 p207 q207
     obtain rfl : ad203 = ad207 := (by injection e207)
     replace p207 := eq_true p207
     replace q207 := eq_true q207
     refine start_ (n := 19) (S := fun w' => w'.cell? (ad203.add (x5_1).toNat) = some (.int .i64 (rd t192 x5_1)) ∧ w'.cell? (ad203.add (x5_1).toNat) = some (.int .i64 (rd t192 x5_1)) ∧ True) (ds := []) (B_ 0 19) (by kernel_rfl) rfl rfl ⟨hx203_0, hx207_0, trivial⟩ (fun hHeld => ?_); refine with_tabW spec_l3Minimal.tab6 spec_l3Minimal.bits6 (fun HT_ HW_ => ?_)
     generalize wr.drew = w21 at HO_3 HO_4 HB HR202 hx203_0 hx207_0 hHeld ⊢
     refine pu_ HT_ 0 15 (B_ 1 19) ?_
     refine pu_ HT_ 1 16 (B_ 3 19) ?_
     refine pu_ HT_ 2 17 (B_ 7 19) ?_
     refine pu_ HT_ 3 18 (B_ 15 19) ?_
     refine pu_ HT_ 4 19 (B_ 31 19) ?_
     refine pu_ HT_ 5 20 (B_ 63 19) ?_
     refine pu_ HT_ 6 21 (B_ 127 19) ?_
     refine pu_ HT_ 7 22 (B_ 255 19) ?_
     refine pu_ HT_ 8 23 (B_ 511 19) ?_
     refine pu_ HT_ 11 26 (B_ 2559 19) ?_
     refine pu_ HT_ 12 27 (B_ 6655 19) ?_
     refine pu_ HT_ 13 28 (B_ 14847 19) ?_
     refine tk3_ HT_ HW_ hHeld 9 24 (B_ 15359 19) ?_
     refine tk3_ HT_ HW_ hHeld 14 29 (B_ 31743 19) ?_
     refine on_ HT_ 10 25 (B_ 32767 19) (fun K hK => ?_)
     refine goes_ Try.func60 (by kernel_rfl) rfl #[.slice (some ad203) y199.length co20, .int .i64 (rd t192 x5_1)] (by rfl) rfl rfl (by (try simp only [List.map_toArray, List.map_cons, List.map_nil]); first | done | rfl | (simp only [List.length_drop, List.length_take]; rfl)) ?_
     with_reducible refine (spec_l3Table.calls k1 _ _ y199 (rd t192 x5_1) t204 _ ?side1 ?side2 A15.out).mono ?_
     (case side1 => repeat (first | exact (by repeat (first | (with_reducible exact HR202.out) | (with_reducible refine Kd.C_alloc ?_ _) | (with_reducible refine Kd.C_drewN ?_ _) | (with_reducible refine Kd.C_drew ?_) | exact HR202.out)) | (with_reducible refine Kd.C_alloc ?_ _) | (with_reducible refine Kd.C_drewN ?_ _) | (with_reducible refine Kd.C_drew ?_)))
     (case side2 => exact HC202.out)
     rintro e w23 ⟨v205, rfl, ho0, hb⟩
     have HS0_ := (hb.cell (World.block_lt_of_cell? _ _ (hHeld.1))).trans (hHeld.1)
     have HS1_ := (hb.cell (World.block_lt_of_cell? _ _ (hHeld.2.1))).trans (hHeld.2.1)
     refine ⟨_, rfl, ?_⟩
     replace HO_3 := Aside0.mk (Kd.R_below (re_ HO_3.out) hb)
     replace HO_4 := Aside0.mk (Kd.R_below (re_ HO_4.out) hb)
     have HO206 := Aside0.mk (Kd.R_lower ho0 (below_size (bl_ HB.out)))
     replace HR202 := Aside0.mk (Kd.C_below (by repeat (first | (with_reducible exact HR202.out) | (with_reducible refine Kd.C_alloc ?_ _) | (with_reducible refine Kd.C_drewN ?_ _) | (with_reducible refine Kd.C_drew ?_) | exact HR202.out)) hb)
     replace HB := bo_ HB hb
     (try clear hb)
     (try clear ho0)
     obtain ⟨Ao24, co24, eo24⟩ := Kd.R_slice HO206.out
     (first | subst eo24 | (injection eo24 with f1_ f2_ f3_; have f4_ := f1_.symm; have f5_ := f3_.symm; clear f1_ f2_ f3_; subst f4_; subst f5_))
     have p208 : 0 ≤ ((rd t192 x5_1) : Int) := od_
     have q208 : (rd t192 x5_1) < (t204.length : Int) := od_
     obtain ⟨ad208, e208, hx208_0⟩ := Kd.at_bool (Kd.R_reads' HO206.out).2.2 (rd t192 x5_1) p208 q208
     (try rw [← Nbq18.out] at hx208_0)
     cases e208
     replace p208 := eq_true p208
     replace q208 := eq_true q208
     refine hK.out _ _ ⟨HS0_, HS1_, trivial⟩ (fun _ => ?_); refine restart_ (S' := fun w' => w'.cell? (ad203.add (x5_1).toNat) = some (.int .i64 (rd t192 x5_1)) ∧ w'.cell? (ad203.add (x5_1).toNat) = some (.int .i64 (rd t192 x5_1)) ∧ w'.cell? (ad208.add ((rd t192 x5_1)).toNat) = some (.bool true)) (fun _ h => ⟨h.1, h.2.1, trivial⟩) ⟨HS0_, HS1_, hx208_0⟩ (fun hHeld => ?_)
     clear hK K
     refine norm_ (a' := ?_) ?_ ?_
     rotate_left
     · show Act.put _ (some 25) _ = _
       simp only [Act.put, z1_, z2_, z3_, i64_w, i32_w]
       rfl
     refine pu_ HT_ 15 30 (B_ 65535 19) ?_
     refine tk3_ HT_ HW_ hHeld 16 31 (B_ 131071 19) ?_
     refine pu_ HT_ 17 32 (B_ 262143 19) ?_
     refine pu_ HT_ 18 33 (B_ 524287 19) ?_
     refine done_ (done_of HT_.out (by kernel_rfl)) ?_
     try go_wp2
     go_roundg k1
     case measure => have := HK1.out; omega
     case rel => exact ⟨(x3_1), (wrap64 (x5_1 + 1)), rs_, H', ⟨by have := HK1.out; omega⟩, ⟨re_ HO_3.out⟩, ⟨re_ HO_4.out⟩, ⟨bl_ HB.out⟩⟩
   replace c19 := Bool.eq_false_iff.mpr c19
   subst c19
   rw [if_neg (show ¬ (false = true) by decide)] at H
   obtain ⟨c25, H⟩ := ip_ H
   have LMc25 := Aside0.mk c25
   clear c25
   obtain ⟨y210, hy210⟩ : ∃ y_ : List Int, y_ = (x3_1 ++ [rd t192 x5_1]) := ⟨_, rfl⟩
   replace H : (spec_l3Minimal.l0 k1 y210 t192 (wrap64 (x5_1 + 1))) = some r := by subst hy210; exact H
   have Ny210 := Aside0.mk hy210
   clear hy210
   have H' := Aside0.mk H
   clear H
   obtain ⟨Ao26, co26, eo26⟩ := Kd.R_slice HO_4.out
   subst eo26
   try go_wp2
   replace HO_3 := Aside0.mk (Kd.R_drew HO_3.out)
   replace HO_4 := Aside0.mk (Kd.R_drew HO_4.out)
   replace HB := Aside0.mk (below_drew1 HB.out)
   have q28 : (x5_1 : Int) ≤ ((t192.length : Int) : Int) := od_
   obtain ⟨i028, hi028, _, hsz28, _⟩ := info_parts info3
   have hroom28 : t192.length ≤ co26 := (Kd.R_reads' HO_4.out).2.1
   have hC28 : Kd.C (Kd.int .i64) _ Ao26 t192.length t192 := (Kd.R_reads' HO_4.out).2.2
   have hcut28 := cut_to (P := Try.prog) 24 3 .i64 Try.underlying24 hi028 Ao26 t192.length co26 x5_1 (od_) q28 hroom28
   have hr28 := Kd.C_take (m := (x5_1 : Int).toNat) hC28 (by omega)
   have hy28 : y199.length = (x5_1 : Int).toNat := (by rw [Ny199.out, List.length_take]; omega)
   rw [← Ny199.out] at hr28
   rw [← hy28] at hcut28
   have HR202 := Aside0.mk hr28
   have HC202 := Aside0.mk (show y199.length ≤ co26 from by omega)
   clear hr28 hC28 hroom28 hi028 hsz28
   have KY28 := Aside0.mk hy28
   clear hy28
   have KL28 := Aside0.mk (show (x5_1 : Int).toNat ≤ t192.length from by omega)
   replace q28 := eq_true q28
   have p203 : 0 ≤ (x5_1 : Int) := od_
   have q203 : x5_1 < (t192.length : Int) := od_
   obtain ⟨ad203, e203, hx203_0⟩ := Kd.at_int (Kd.R_reads' HO_4.out).2.2 x5_1 p203 q203
   cases e203
   replace p203 := eq_true p203
   replace q203 := eq_true q203
   have p207 : 0 ≤ (x5_1 : Int) := od_
   have q207 : x5_1 < (t192.length : Int) := od_
   obtain ⟨ad207, e207, hx207_0⟩ := Kd.at_int (Kd.R_reads' HO_4.out).2.2 x5_1 p207 q207
   obtain rfl : ad203 = ad207 := (by injection e207)
   replace p207 := eq_true p207
   replace q207 := eq_true q207
   refine start_ (n := 19) (S := fun w' => w'.cell? (ad203.add (x5_1).toNat) = some (.int .i64 (rd t192 x5_1)) ∧ w'.cell? (ad203.add (x5_1).toNat) = some (.int .i64 (rd t192 x5_1)) ∧ True) (ds := []) (B_ 0 19) (by kernel_rfl) rfl rfl ⟨hx203_0, hx207_0, trivial⟩ (fun hHeld => ?_); refine with_tabW spec_l3Minimal.tab6 spec_l3Minimal.bits6 (fun HT_ HW_ => ?_)
   generalize wr.drew = w27 at HO_3 HO_4 HB HR202 hx203_0 hx207_0 hHeld ⊢
   refine pu_ HT_ 0 15 (B_ 1 19) ?_
   refine pu_ HT_ 1 16 (B_ 3 19) ?_
   refine pu_ HT_ 2 17 (B_ 7 19) ?_
   refine pu_ HT_ 3 18 (B_ 15 19) ?_
   refine pu_ HT_ 4 19 (B_ 31 19) ?_
   refine pu_ HT_ 5 20 (B_ 63 19) ?_
   refine pu_ HT_ 6 21 (B_ 127 19) ?_
   refine pu_ HT_ 7 22 (B_ 255 19) ?_
   refine pu_ HT_ 8 23 (B_ 511 19) ?_
   refine pu_ HT_ 11 26 (B_ 2559 19) ?_
   refine pu_ HT_ 12 27 (B_ 6655 19) ?_
   refine pu_ HT_ 13 28 (B_ 14847 19) ?_
   refine tk3_ HT_ HW_ hHeld 9 24 (B_ 15359 19) ?_
   refine tk3_ HT_ HW_ hHeld 14 29 (B_ 31743 19) ?_
   refine on_ HT_ 10 25 (B_ 32767 19) (fun K hK => ?_)
   refine goes_ Try.func60 (by kernel_rfl) rfl #[.slice (some ad203) y199.length co26, .int .i64 (rd t192 x5_1)] (by rfl) rfl rfl (by (try simp only [List.map_toArray, List.map_cons, List.map_nil]); first | done | rfl | (simp only [List.length_drop, List.length_take]; rfl)) ?_
   with_reducible refine (spec_l3Table.calls k1 _ _ y199 (rd t192 x5_1) t204 _ ?side1 ?side2 A15.out).mono ?_
   (case side1 => repeat (first | exact (by repeat (first | (with_reducible exact HR202.out) | (with_reducible refine Kd.C_alloc ?_ _) | (with_reducible refine Kd.C_drewN ?_ _) | (with_reducible refine Kd.C_drew ?_) | exact HR202.out)) | (with_reducible refine Kd.C_alloc ?_ _) | (with_reducible refine Kd.C_drewN ?_ _) | (with_reducible refine Kd.C_drew ?_)))
   (case side2 => exact HC202.out)
   rintro e w29 ⟨v205, rfl, ho0, hb⟩
   have HS0_ := (hb.cell (World.block_lt_of_cell? _ _ (hHeld.1))).trans (hHeld.1)
   have HS1_ := (hb.cell (World.block_lt_of_cell? _ _ (hHeld.2.1))).trans (hHeld.2.1)
   refine ⟨_, rfl, ?_⟩
   replace HO_3 := Aside0.mk (Kd.R_below (re_ HO_3.out) hb)
   replace HO_4 := Aside0.mk (Kd.R_below (re_ HO_4.out) hb)
   have HO206 := Aside0.mk (Kd.R_lower ho0 (below_size (bl_ HB.out)))
   replace HR202 := Aside0.mk (Kd.C_below (by repeat (first | (with_reducible exact HR202.out) | (with_reducible refine Kd.C_alloc ?_ _) | (with_reducible refine Kd.C_drewN ?_ _) | (with_reducible refine Kd.C_drew ?_) | exact HR202.out)) hb)
   replace HB := bo_ HB hb
   (try clear hb)
   (try clear ho0)
   obtain ⟨Ao30, co30, eo30⟩ := Kd.R_slice HO206.out
   (first | subst eo30 | (injection eo30 with f1_ f2_ f3_; have f4_ := f1_.symm; have f5_ := f3_.symm; clear f1_ f2_ f3_; subst f4_; subst f5_))
   have p208 : 0 ≤ ((rd t192 x5_1) : Int) := od_
   have q208 : (rd t192 x5_1) < (t204.length : Int) := od_
   obtain ⟨ad208, e208, hx208_0⟩ := Kd.at_bool (Kd.R_reads' HO206.out).2.2 (rd t192 x5_1) p208 q208
   (try rw [← Nbq18.out] at hx208_0)
   cases e208
   replace p208 := eq_true p208
   replace q208 := eq_true q208
   refine hK.out _ _ ⟨HS0_, HS1_, trivial⟩ (fun _ => ?_); refine restart_ (S' := fun w' => w'.cell? (ad203.add (x5_1).toNat) = some (.int .i64 (rd t192 x5_1)) ∧ w'.cell? (ad203.add (x5_1).toNat) = some (.int .i64 (rd t192 x5_1)) ∧ w'.cell? (ad208.add ((rd t192 x5_1)).toNat) = some (.bool false)) (fun _ h => ⟨h.1, h.2.1, trivial⟩) ⟨HS0_, HS1_, hx208_0⟩ (fun hHeld => ?_)
   clear hK K
   refine norm_ (a' := ?_) ?_ ?_
   rotate_left
   · show Act.put _ (some 25) _ = _
     simp only [Act.put, z1_, z2_, z3_, i64_w, i32_w]
     rfl
   refine pu_ HT_ 15 30 (B_ 65535 19) ?_
   refine tk3_ HT_ HW_ hHeld 16 31 (B_ 131071 19) ?_
   refine pu_ HT_ 17 32 (B_ 262143 19) ?_
   refine pu_ HT_ 18 33 (B_ 524287 19) ?_
   refine done_ (done_of HT_.out (by kernel_rfl)) ?_
   have p209 : 0 ≤ (x5_1 : Int) := od_
   have q209 : x5_1 < (t192.length : Int) := od_
   obtain ⟨ad209, e209, hx209_0⟩ := Kd.at_int (Kd.R_reads' HO_4.out).2.2 x5_1 p209 q209
   obtain rfl : ad203 = ad209 := (by injection e209)
   replace p209 := eq_true p209
   replace q209 := eq_true q209
   try go_wp2_with (first | ((with_reducible refine gate_builtin (b := .append) (xs := #[.tmp 34, .tmp 39]) rfl ?_); at_builtin; refine Kd.R_append (Kd.int .i64) (w0 := w) w.heap.size rfl (.tmp 34) (.tmp 39) 24 3 (.int .i64 0) 8 rfl Try.underlying24 info3 rfl (by decide) (by omega) u3 x3_1 (rd t192 x5_1) [.int .i64 (rd t192 x5_1)] (fun k_ => some k_ ≠ (.slice (some ad203) t192.length co26 : Value).ownBlock) (fun _ => False) rfl rfl ?aP (fun _ hk => hk.elim) ?aF ?aO ?aB ?aS ?aL ?_; (case aP => exact rfl); (case aB => exact (bl_ HB.out)); (case aF => exact (fun k_ hk => Kd.fresh' (Kd.R_lt (re_ HO_4.out)) k_ hk)); (case aO => exact (re_ HO_3.out)); (case aS => exact (below_size (bl_ HB.out))); (case aL => have := LMc25.out; omega); intro v211 w31 ho hb hg hat; rw [← Ny210.out] at ho; replace HO206 := Aside0.mk (Kd.R_over' (re_ HO206.out) (Kd.R_typed (re_ HO_3.out)) (by decide) hg); replace HB := Aside0.mk (hb); replace HR202 := Aside0.mk ((show Kd.C (Kd.int .i64) w31 (some ad203) y199.length y199 from by rw [Ny199.out]; exact Kd.C_take (m := (x5_1 : Int).toNat) ((Kd.R_reads' (Kd.R_after (ok := (fun _ => True)) (by (with_reducible repeat (first | apply Kd.R_alloc | apply Kd.R_drewN | apply Kd.R_drew)); exact Kd.R_mono HO_4.out (fun _ hk => ⟨trivial, hk⟩)) hg hat)).2.2) KL28.out)); replace HO_4 := Aside0.mk (Kd.R_after (ok := (fun _ => True)) (by (with_reducible repeat (first | apply Kd.R_alloc | apply Kd.R_drewN | apply Kd.R_drew)); exact Kd.R_mono HO_4.out (fun _ hk => ⟨trivial, hk⟩)) hg hat); have HO212 := Aside0.mk (ho); clear HO_3; clear ho hb hg hat))
   go_roundg k1
   case measure => have := HK1.out; omega
   case rel => exact ⟨(y210), (wrap64 (x5_1 + 1)), rs_, H', ⟨by have := HK1.out; omega⟩, ⟨re_ HO212.out⟩, ⟨by (with_reducible repeat (first | apply Kd.R_alloc | apply Kd.R_drewN | apply Kd.R_drew)); exact Kd.R_mono HO_4.out (fun _ hk => hk.2)⟩, ⟨bl_ HB.out⟩⟩
def spec_l3Ends.l0 : Nat → List Int → List Bool → Int → Option (Bool)
 | 0, _, _, _ => none
 | k + 1, x0, x3, x4 => if 0 < (x0.length : Int) then (if x4 < (wrap64 (200 + (rd x0 0))) then (if 0 ≤ x4 then (if x4 < (x3.length : Int) then (if rdOf false x3 x4 = true then (spec_l3Ends.l0 k x0 x3 (wrap64 (x4 + 1))) else (some false)) else (none)) else (none)) else (some true)) else (none)
def spec_l3Ends.f (k : Nat) (l0 : List Int) : Option (Bool) := (spec_l3Table.f k l0 260).bind fun t213 => (spec_l3Ends.l0 k l0 t213 200)
theorem spec_l3Ends.mono_l : ∀ k, (∀ y0 y1 y2, LeO (spec_l3Ends.l0 k y0 y1 y2) (spec_l3Ends.l0 (k + 1) y0 y1 y2))
 | 0 => fun _ _ _ r h => by simp [spec_l3Ends.l0] at h
 | k + 1 => by
  have ih0 := spec_l3Ends.mono_l k
  · intro y0 y1 y2
    unfold spec_l3Ends.l0
    repeat' first
    | (with_reducible exact ih0 _ _ _)
    | (with_reducible exact spec_l3Table.mono _ _ _)
    | (with_reducible exact LeO.refl _)
    | (with_reducible exact LeO.none _)
    | (with_reducible refine LeO.ite ?_ ?_)
    | (with_reducible refine LeO.bind ?_ (fun _ => ?_))
    | exact ih0 _ _ _
    | exact LeO.none _
    | refine LeO.ite ?_ ?_
    | refine LeO.bind ?_ (fun _ => ?_)
theorem spec_l3Ends.mono : ∀ a0 k, LeO (spec_l3Ends.f k a0) (spec_l3Ends.f (k + 1) a0) := by
 intro a0 k
 have ih0 := spec_l3Ends.mono_l k
 unfold spec_l3Ends.f
 repeat' first
  | (with_reducible exact ih0 _ _ _)
  | (with_reducible exact spec_l3Table.mono _ _ _)
  | (with_reducible exact LeO.refl _)
  | (with_reducible exact LeO.none _)
  | (with_reducible refine LeO.ite ?_ ?_)
  | (with_reducible refine LeO.bind ?_ (fun _ => ?_))
  | exact ih0 _ _ _
  | exact LeO.none _
  | refine LeO.ite ?_ ?_
  | refine LeO.bind ?_ (fun _ => ?_)
theorem spec_l3Ends.calls (k : Nat) (A0 : Option Addr) (c0 : Nat) (l0 : List Int) (r : Bool) (w : World) (hr0 : Kd.C (Kd.int .i64) w A0 l0.length l0) (hc0 : l0.length ≤ c0) (h : spec_l3Ends.f k l0 = some r) :
 Calls Try.prog 59 #[.slice A0 l0.length c0] w fun e w' => e = .returned (.bool r) ∧ Below w.heap.size w w' := by
 have HR0 := Aside0.mk hr0
 have HC0 := Aside0.mk hc0
 clear hr0 hc0
 have HB := Aside0.mk (Below.refl w.heap.size w)
 have H := h
 clear h
 unfold spec_l3Ends.f at H
 obtain ⟨t213, A2, H⟩ := ob_ H
 have H' := Aside0.mk H
 clear H
 go_enter Try.func59, Try.ntmps59
 go_wp2_with (first | ((with_reducible refine gate_callee (f := 60) rfl ?_); refine gL_ (some 6) Try.func60 #[.slice A0 l0.length c0, .int .i64 260] ?_; (with_reducible refine (spec_l3Table.calls k _ _ l0 260 t213 _ ?side1 ?side2 A2.out).mono ?_); (case side1 => exact ce_ (HR0.out)); (case side2 => exact HC0.out); rintro e w3 ⟨v214, rfl, ho0, hb⟩; refine ⟨_, rfl, ?_⟩; have HO215 := Aside0.mk (Kd.R_lower ho0 (below_size (bl_ HB.out))); replace HB := bo_ HB hb; (try clear hb); (try clear ho0)))
 go_loopg [4] k (fun kq v4 w' => ∃ (x4_1 : Int), v4 = .int .i64 x4_1 ∧ Aside0 (spec_l3Ends.l0 kq l0 t213 x4_1 = some r) ∧ Aside0 (kq ≤ k) ∧ Aside0 (Kd.R Kd.bool 4 w' w.heap.size (fun _ => True) v214 t213) ∧ Aside0 (Below w.heap.size w w'))
 case atStart => exact ⟨(200), rs_, H', ⟨Nat.le_refl _⟩, ⟨re_ HO215.out⟩, ⟨bl_ HB.out⟩⟩
 case round =>
  clear H'
  obtain ⟨x4_1, rfl, HA, HK1, HO_3, HB⟩ := hrel
  cases gk with
  | zero => exact absurd HA.out (by simp [spec_l3Ends.l0])
  | succ k1 =>
   have H := HA.out
   clear HA
   simp only [spec_l3Ends.l0] at H
   obtain ⟨c4, H⟩ := ip_ H
   have c4b0 : decide (0 < (l0.length : Int)) = true := decide_eq_true c4
   have c4b1 : decide (0 < l0.length) = true := decide_eq_true (by omega)
   clear c4
   by_cases c5 : x4_1 < (wrap64 (200 + (rd l0 0)))
   rotate_left
   · rw [if_neg c5] at H
     have c5b0 : decide (x4_1 < (wrap64 (200 + (rd l0 0)))) = false := decide_eq_false c5
     clear c5
     obtain rfl := Option.some.inj H
     have p216 : 0 ≤ (0 : Int) := (by omega)
     have q216 : 0 < (l0.length : Int) := od_
     obtain ⟨ad216, e216, hx216_0⟩ := Kd.at_int HR0.out 0 p216 q216
     cases e216
     have qi216 : (0 < l0.length) = True := eq_true (by omega)
     (try rw [show ((0 : Int)).toNat = 0 from rfl] at hx216_0)
     (try rw [Addr.add_zero'] at hx216_0)
     (try replace hx216_0 := (HB.out.cell (World.block_lt_of_cell? w _ hx216_0)).trans hx216_0)
     replace p216 := eq_true p216
     replace q216 := eq_true q216
     go_wp2
     go_ret
     exact ⟨rf_, bl_ HB.out⟩
   rw [if_pos c5] at H
   have c5b0 : decide (x4_1 < (wrap64 (200 + (rd l0 0)))) = true := decide_eq_true c5
   clear c5
   obtain ⟨c6b0, H⟩ := ipd_ H
   obtain ⟨c7b0, H⟩ := ipd_ H
   obtain ⟨bq8, hbq8⟩ : ∃ b_ : Bool, b_ = (rdOf false t213 x4_1) := ⟨_, rfl⟩
   replace H : (if bq8 = true then (spec_l3Ends.l0 k1 l0 t213 (wrap64 (x4_1 + 1))) else (some false)) = some r := by rw [← hbq8] at H; exact H
   have Nbq8 := Aside0.mk hbq8
   clear hbq8
   by_cases c9 : bq8 = true
   rotate_left
   · replace c9 := Bool.eq_false_iff.mpr c9
     subst c9
     rw [if_neg (show ¬ (false = true) by decide)] at H
     obtain rfl := Option.some.inj H
     have p216 : 0 ≤ (0 : Int) := (by omega)
     have q216 : 0 < (l0.length : Int) := od_
     obtain ⟨ad216, e216, hx216_0⟩ := Kd.at_int HR0.out 0 p216 q216
     cases e216
     have qi216 : (0 < l0.length) = True := eq_true (by omega)
     (try rw [show ((0 : Int)).toNat = 0 from rfl] at hx216_0)
     (try rw [Addr.add_zero'] at hx216_0)
     (try replace hx216_0 := (HB.out.cell (World.block_lt_of_cell? w _ hx216_0)).trans hx216_0)
     replace p216 := eq_true p216
     replace q216 := eq_true q216
     obtain ⟨Ao11, co11, eo11⟩ := Kd.R_slice HO_3.out
     subst eo11
     have p217 : 0 ≤ (x4_1 : Int) := od_
     have q217 : x4_1 < (t213.length : Int) := od_
     obtain ⟨ad217, e217, hx217_0⟩ := Kd.at_bool (Kd.R_reads' HO_3.out).2.2 x4_1 p217 q217
     (try rw [← Nbq8.out] at hx217_0)
     cases e217
     replace p217 := eq_true p217
     replace q217 := eq_true q217
     go_wp2
     go_ret
     exact ⟨rf_, bl_ HB.out⟩
   subst c9
   rw [if_pos rfl] at H
   have H' := Aside0.mk H
   clear H
   have p216 : 0 ≤ (0 : Int) := (by omega)
   have q216 : 0 < (l0.length : Int) := od_
   obtain ⟨ad216, e216, hx216_0⟩ := Kd.at_int HR0.out 0 p216 q216
   cases e216
   have qi216 : (0 < l0.length) = True := eq_true (by omega)
   (try rw [show ((0 : Int)).toNat = 0 from rfl] at hx216_0)
   (try rw [Addr.add_zero'] at hx216_0)
   (try replace hx216_0 := (HB.out.cell (World.block_lt_of_cell? w _ hx216_0)).trans hx216_0)
   replace p216 := eq_true p216
   replace q216 := eq_true q216
   obtain ⟨Ao10, co10, eo10⟩ := Kd.R_slice HO_3.out
   subst eo10
   have p217 : 0 ≤ (x4_1 : Int) := od_
   have q217 : x4_1 < (t213.length : Int) := od_
   obtain ⟨ad217, e217, hx217_0⟩ := Kd.at_bool (Kd.R_reads' HO_3.out).2.2 x4_1 p217 q217
   (try rw [← Nbq8.out] at hx217_0)
   cases e217
   replace p217 := eq_true p217
   replace q217 := eq_true q217
   go_wp2
   go_roundg k1
   case measure => have := HK1.out; omega
   case rel => exact ⟨(wrap64 (x4_1 + 1)), rs_, H', ⟨by have := HK1.out; omega⟩, ⟨re_ HO_3.out⟩, ⟨bl_ HB.out⟩⟩
end Go.Proofs.Ytppkokbhgkeknaa.PA
end
