-- Bundled by shake.py from this session's printed and written texts; Lean checks it.
import Derived.Test.YtkifakepmomgfaaZFnFewx0
section
namespace Go.Proofs.Ytkifakepmomgfaa.PA
open Go.RowKit Go.Proofs.YtkifakepmomgfaaW.PrintWords Go.Proofs.YtkifakepmomgfaaW.PrintLast Go.Proofs.YtkifakepmomgfaaW.PrintMore
set_option linter.unusedVariables false
set_option linter.unusedSimpArgs false
mutual
def spec_LeastInSum.j0 : Nat → List Int → Int → Bool → Option (List Int)
  | 0, _, _, _ => none
  | k + 1, x0, x1, x20 => if x20 = true then (some (([] : List Int))) else (spec_LeastInSum.l0 k x0 x1 0)
def spec_LeastInSum.l0 : Nat → List Int → Int → Int → Option (List Int)
  | 0, _, _, _ => none
  | k + 1, x0, x1, x5 => if x5 < (x0.length : Int) then (if 0 ≤ x5 then ((spec_l1In.f (rd x0 x5) 1 1000).bind fun t648 => (if t648 = true then (spec_LeastInSum.l0 k x0 x1 (wrap64 (x5 + 1))) else (some (([] : List Int))))) else (none)) else (if 0 ≤ x1 then (if (x1 : Int).toNat ≤ 35184372088832 then (spec_LeastInSum.l1 k x0 x1 (List.replicate (x1 : Int).toNat 0) 1) else (none)) else (none))
def spec_LeastInSum.l1 : Nat → List Int → Int → List Int → Int → Option (List Int)
  | 0, _, _, _, _ => none
  | k + 1, x0, x1, x6, x7 => if x7 < x1 then (if 0 ≤ x7 then (if x7 < (x6.length : Int) then (spec_LeastInSum.l1 k x0 x1 (x6.set (x7 : Int).toNat (-1)) (wrap64 (x7 + 1))) else (none)) else (none)) else (spec_LeastInSum.l2 k x0 x1 x6 true)
def spec_LeastInSum.l2 : Nat → List Int → Int → List Int → Bool → Option (List Int)
  | 0, _, _, _, _ => none
  | k + 1, x0, x1, x6, x8 => if x8 = true then (spec_LeastInSum.l3 k x0 x1 x6 false 0) else (some x6)
def spec_LeastInSum.l3 : Nat → List Int → Int → List Int → Bool → Int → Option (List Int)
  | 0, _, _, _, _, _ => none
  | k + 1, x0, x1, x6, x8, x9 => if x9 < x1 then (spec_LeastInSum.l4 k x0 x1 x6 x8 x9 0) else (spec_LeastInSum.l2 k x0 x1 x6 x8)
def spec_LeastInSum.l4 : Nat → List Int → Int → List Int → Bool → Int → Int → Option (List Int)
  | 0, _, _, _, _, _, _ => none
  | k + 1, x0, x1, x6, x8, x9, x10 => if x10 < (x0.length : Int) then (if 0 ≤ x9 then (if x9 < (x6.length : Int) then (spec_LeastInSum.j6 k x0 x1 x6 x8 x9 x10 (decide ((rd x6 x9) ≥ 0))) else (none)) else (none)) else (spec_LeastInSum.j6 k x0 x1 x6 x8 x9 x10 false)
def spec_LeastInSum.j6 : Nat → List Int → Int → List Int → Bool → Int → Int → Bool → Option (List Int)
  | 0, _, _, _, _, _, _, _ => none
  | k + 1, x0, x1, x6, x8, x9, x10, x61 => if x61 = true then (if 0 ≤ x9 then (if x9 < (x6.length : Int) then (if 0 ≤ x10 then (if x10 < (x0.length : Int) then (if x1 = 0 then (none) else (if 0 ≤ (Int.tmod (wrap64 ((rd x6 x9) + (rd x0 x10))) x1) then (if (Int.tmod (wrap64 ((rd x6 x9) + (rd x0 x10))) x1) < (x6.length : Int) then (if (rd x6 (Int.tmod (wrap64 ((rd x6 x9) + (rd x0 x10))) x1)) < 0 then (spec_LeastInSum.l4 k x0 x1 (x6.set ((Int.tmod (wrap64 ((rd x6 x9) + (rd x0 x10))) x1) : Int).toNat (wrap64 ((rd x6 x9) + (rd x0 x10)))) true x9 (wrap64 (x10 + 1))) else (if (wrap64 ((rd x6 x9) + (rd x0 x10))) < (rd x6 (Int.tmod (wrap64 ((rd x6 x9) + (rd x0 x10))) x1)) then (spec_LeastInSum.l4 k x0 x1 (x6.set ((Int.tmod (wrap64 ((rd x6 x9) + (rd x0 x10))) x1) : Int).toNat (wrap64 ((rd x6 x9) + (rd x0 x10)))) true x9 (wrap64 (x10 + 1))) else (spec_LeastInSum.l4 k x0 x1 x6 x8 x9 (wrap64 (x10 + 1))))) else (none)) else (none))) else (none)) else (none)) else (none)) else (none)) else (spec_LeastInSum.l3 k x0 x1 x6 x8 (wrap64 (x9 + 1)))
end
def spec_LeastInSum.f (k : Nat) (l0 : List Int) (a1 : Int) : Option (List Int) := (spec_l1In.f a1 1 200).bind fun t642 => (if t642 = true then ((spec_l1In.f (l0.length : Int) 1 20).bind fun t643 => (spec_LeastInSum.j0 k l0 a1 (!t643))) else (spec_LeastInSum.j0 k l0 a1 true))
set_option maxHeartbeats 8000000 in
set_option maxRecDepth 100000 in
theorem spec_LeastInSum.calls (k : Nat) (A0 : Option Addr) (c0 : Nat) (l0 : List Int) (a1 : Int) (r : List Int) (w : World) (hr0 : Kd.C (Kd.int .i64) w A0 l0.length l0) (hc0 : l0.length ≤ c0) (h : spec_LeastInSum.f k l0 a1 = some r) :
    Calls Try.prog 51 #[.slice A0 l0.length c0, .int .i64 a1] w fun e w' => ∃ v0_ : Value, e = .returned (v0_) ∧ Kd.R (Kd.int .i64) 3 w' w.heap.size (fun _ => True) v0_ r ∧ Below w.heap.size w w' := by
  have HR0 := Aside0.mk hr0
  have HC0 := Aside0.mk hc0
  clear hr0 hc0
  have HB := Aside0.mk (Below.refl w.heap.size w)
  have H : ((spec_l1In.f a1 1 200).bind fun t642 => (if t642 = true then ((spec_l1In.f (l0.length : Int) 1 20).bind fun t643 => (spec_LeastInSum.j0 k l0 a1 (!t643))) else (spec_LeastInSum.j0 k l0 a1 true))) = some r := h
  clear h
  have HC3 := Aside0.mk H
  clear H
  go_enter Try.func51, Try.ntmps51
  go_upto_region 1 with (fail)
  repeat (go_quiet (fail); go_upto_region 1 with (fail))
  go_cut [20] (fun v20 wc => ∃ (kq : Nat) (x20_2 : Bool), v20 = .bool x20_2 ∧ Aside0 (spec_LeastInSum.j0 kq l0 a1 x20_2 = some r) ∧ Aside0 (kq ≤ k) ∧ Aside0 (Below w.heap.size w wc))
  case first =>
    have H := HC3.out
    clear HC3
    replace H := Option.bind_eq_some_iff.mp H
    obtain ⟨t642, A40, H⟩ := H
    replace H : (if t642 = true then ((spec_l1In.f (l0.length : Int) 1 20).bind fun t643 => (spec_LeastInSum.j0 k l0 a1 (!t643))) else (spec_LeastInSum.j0 k l0 a1 true)) = some r := H
    have A4 := Aside0.mk A40
    clear A40
    by_cases c5 : t642 = true
    · subst c5
      have H1 : ((spec_l1In.f (l0.length : Int) 1 20).bind fun t643 => (spec_LeastInSum.j0 k l0 a1 (!t643))) = some r := by rw [if_pos rfl] at H; exact H
      clear H
      have H := H1
      clear H1
      replace H := Option.bind_eq_some_iff.mp H
      obtain ⟨t643, A60, H⟩ := H
      replace H : (spec_LeastInSum.j0 k l0 a1 (!t643)) = some r := H
      have A6 := Aside0.mk A60
      clear A60
      have H' := Aside0.mk H
      clear H
      go_wp2_with (first | (go_at_call 80; (with_reducible refine (spec_l1In.calls a1 1 200 true _ A4.out).mono ?_); rintro e w' ⟨rfl, ⟨nd, rfl⟩⟩; (try first | exact ⟨rfl, _, World.drewN_drewN _ _ _⟩ | exact ⟨rfl, _, Eq.trans (World.drewN_drewN _ _ _) (congrArg (World.drewN _) (Nat.add_assoc _ _ _))⟩)) | (go_at_call 80; (with_reducible refine (spec_l1In.calls (l0.length : Int) 1 20 t643 _ A6.out).mono ?_); rintro e w' ⟨rfl, ⟨nd, rfl⟩⟩; (try first | exact ⟨rfl, _, World.drewN_drewN _ _ _⟩ | exact ⟨rfl, _, Eq.trans (World.drewN_drewN _ _ _) (congrArg (World.drewN _) (Nat.add_assoc _ _ _))⟩)))
      repeat (go_quiet (first | (go_at_call 80; (with_reducible refine (spec_l1In.calls a1 1 200 true _ A4.out).mono ?_); rintro e w' ⟨rfl, ⟨nd, rfl⟩⟩; (try first | exact ⟨rfl, _, World.drewN_drewN _ _ _⟩ | exact ⟨rfl, _, Eq.trans (World.drewN_drewN _ _ _) (congrArg (World.drewN _) (Nat.add_assoc _ _ _))⟩)) | (go_at_call 80; (with_reducible refine (spec_l1In.calls (l0.length : Int) 1 20 t643 _ A6.out).mono ?_); rintro e w' ⟨rfl, ⟨nd, rfl⟩⟩; (try first | exact ⟨rfl, _, World.drewN_drewN _ _ _⟩ | exact ⟨rfl, _, Eq.trans (World.drewN_drewN _ _ _) (congrArg (World.drewN _) (Nat.add_assoc _ _ _))⟩))); try go_wp2_with (first | (go_at_call 80; (with_reducible refine (spec_l1In.calls a1 1 200 true _ A4.out).mono ?_); rintro e w' ⟨rfl, ⟨nd, rfl⟩⟩; (try first | exact ⟨rfl, _, World.drewN_drewN _ _ _⟩ | exact ⟨rfl, _, Eq.trans (World.drewN_drewN _ _ _) (congrArg (World.drewN _) (Nat.add_assoc _ _ _))⟩)) | (go_at_call 80; (with_reducible refine (spec_l1In.calls (l0.length : Int) 1 20 t643 _ A6.out).mono ?_); rintro e w' ⟨rfl, ⟨nd, rfl⟩⟩; (try first | exact ⟨rfl, _, World.drewN_drewN _ _ _⟩ | exact ⟨rfl, _, Eq.trans (World.drewN_drewN _ _ _) (congrArg (World.drewN _) (Nat.add_assoc _ _ _))⟩))))
      go_meet
      case rel => exact ⟨_, (!t643), (by first | rfl | (simp; done) | (simp [*]; done)), H', ⟨by first | omega | exact Nat.le_refl _⟩, ⟨by repeat (first | (with_reducible first | exact HB.out | apply below_alloc | apply pw_below_drewN | apply below_drew1) | exact HB.out)⟩⟩
    · replace c5 := Bool.eq_false_iff.mpr c5
      subst c5
      have H1 : (spec_LeastInSum.j0 k l0 a1 true) = some r := by rw [if_neg (show ¬ (false = true) by decide)] at H; exact H
      clear H
      have H := H1
      clear H1
      have H' := Aside0.mk H
      clear H
      go_wp2_with (first | (go_at_call 80; (with_reducible refine (spec_l1In.calls a1 1 200 false _ A4.out).mono ?_); rintro e w' ⟨rfl, ⟨nd, rfl⟩⟩; (try first | exact ⟨rfl, _, World.drewN_drewN _ _ _⟩ | exact ⟨rfl, _, Eq.trans (World.drewN_drewN _ _ _) (congrArg (World.drewN _) (Nat.add_assoc _ _ _))⟩)))
      repeat (go_quiet (first | (go_at_call 80; (with_reducible refine (spec_l1In.calls a1 1 200 false _ A4.out).mono ?_); rintro e w' ⟨rfl, ⟨nd, rfl⟩⟩; (try first | exact ⟨rfl, _, World.drewN_drewN _ _ _⟩ | exact ⟨rfl, _, Eq.trans (World.drewN_drewN _ _ _) (congrArg (World.drewN _) (Nat.add_assoc _ _ _))⟩))); try go_wp2_with (first | (go_at_call 80; (with_reducible refine (spec_l1In.calls a1 1 200 false _ A4.out).mono ?_); rintro e w' ⟨rfl, ⟨nd, rfl⟩⟩; (try first | exact ⟨rfl, _, World.drewN_drewN _ _ _⟩ | exact ⟨rfl, _, Eq.trans (World.drewN_drewN _ _ _) (congrArg (World.drewN _) (Nat.add_assoc _ _ _))⟩))))
      go_meet
      case rel => exact ⟨_, (true), (by first | rfl | (simp; done) | (simp [*]; done)), H', ⟨by first | omega | exact Nat.le_refl _⟩, ⟨by repeat (first | (with_reducible first | exact HB.out | apply below_alloc | apply pw_below_drewN | apply below_drew1) | exact HB.out)⟩⟩
  case rest =>
    clear HC3
    try clear p2
    try clear c5
    obtain ⟨kq, x20_2, rfl, HA, HJ2, HB⟩ := hcut
    cases kq with
    | zero => exact absurd HA.out (by simp [spec_LeastInSum.j0])
    | succ kj2 =>
      have H := HA.out
      clear HA
      simp only [spec_LeastInSum.j0] at H
      by_cases c7 : x20_2 = true
      · subst c7
        have H1 : (some (([] : List Int))) = some r := by rw [if_pos rfl] at H; exact H
        clear H
        have H := H1
        clear H1
        obtain ⟨y644, hy644⟩ : ∃ y_ : List Int, y_ = (([] : List Int)) := ⟨_, rfl⟩
        replace H : (some y644) = some r := by first | (rw [hy644]; with_reducible exact H) | (have H2_ := (Option.bind_some _ _).symm.trans H; rw [hy644]; with_reducible exact H2_) | (have H2_ := (Option.bind_some _ _).symm.trans H; with_reducible exact H2_) | with_reducible exact H | (rw [hy644]; exact H) | exact H
        have Ny644 := Aside0.mk hy644
        clear hy644
        obtain rfl := Option.some.inj H
        go_wp2_with (first | ((with_reducible refine gate_dst (N := 21) rfl ?_); (try (refine gate_guard (by rfl) ?_; dsimp only)); refine Kd.R_lit (Kd.int .i64) _ 3 ?hg (N := 21) ?hd (xs := ([] : List Int)) (inner := []) (ok := fun _ => True) (okp := fun _ => True) ?hr ?hp (fun _ hk => hk) trivial (Below.refl _ _) (Nat.le_refl _) (by simp) ?_; (case hd => rfl); (case hg => rfl); (case hr => first | (go_simp; done) | (go_simp; rfl)); (case hp => exact (Reps.none _ _)); intro v645 w8 ho9 hb hg_ hnew_; clear hg_ hnew_; (first | rw [← Ny644.out] at ho9 | (simp only [Int.reduceToNat] at ho9; rw [← Ny644.out] at ho9)); have n0_ := Aside0.mk (Kd.R_lower ho9 (below_size (by repeat (first | (with_reducible first | exact HB.out | apply below_alloc | apply pw_below_drewN | apply below_drew1) | exact HB.out)))); have n1_ := Aside0.mk (below_step (by repeat (first | (with_reducible first | exact HB.out | apply below_alloc | apply pw_below_drewN | apply below_drew1) | exact HB.out)) hb); clear HB; have HO646 := n0_; have HB := n1_; clear n0_ n1_; clear hb ho9))
        repeat (go_quiet (first | ((with_reducible refine gate_dst (N := 21) rfl ?_); (try (refine gate_guard (by rfl) ?_; dsimp only)); refine Kd.R_lit (Kd.int .i64) _ 3 ?hg (N := 21) ?hd (xs := ([] : List Int)) (inner := []) (ok := fun _ => True) (okp := fun _ => True) ?hr ?hp (fun _ hk => hk) trivial (Below.refl _ _) (Nat.le_refl _) (by simp) ?_; (case hd => rfl); (case hg => rfl); (case hr => first | (go_simp; done) | (go_simp; rfl)); (case hp => exact (Reps.none _ _)); intro v645 w8 ho9 hb hg_ hnew_; clear hg_ hnew_; (first | rw [← Ny644.out] at ho9 | (simp only [Int.reduceToNat] at ho9; rw [← Ny644.out] at ho9)); have n0_ := Aside0.mk (Kd.R_lower ho9 (below_size (by repeat (first | (with_reducible first | exact HB.out | apply below_alloc | apply pw_below_drewN | apply below_drew1) | exact HB.out)))); have n1_ := Aside0.mk (below_step (by repeat (first | (with_reducible first | exact HB.out | apply below_alloc | apply pw_below_drewN | apply below_drew1) | exact HB.out)) hb); clear HB; have HO646 := n0_; have HB := n1_; clear n0_ n1_; clear hb ho9)); try go_wp2_with (first | ((with_reducible refine gate_dst (N := 21) rfl ?_); (try (refine gate_guard (by rfl) ?_; dsimp only)); refine Kd.R_lit (Kd.int .i64) _ 3 ?hg (N := 21) ?hd (xs := ([] : List Int)) (inner := []) (ok := fun _ => True) (okp := fun _ => True) ?hr ?hp (fun _ hk => hk) trivial (Below.refl _ _) (Nat.le_refl _) (by simp) ?_; (case hd => rfl); (case hg => rfl); (case hr => first | (go_simp; done) | (go_simp; rfl)); (case hp => exact (Reps.none _ _)); intro v645 w8 ho9 hb hg_ hnew_; clear hg_ hnew_; (first | rw [← Ny644.out] at ho9 | (simp only [Int.reduceToNat] at ho9; rw [← Ny644.out] at ho9)); have n0_ := Aside0.mk (Kd.R_lower ho9 (below_size (by repeat (first | (with_reducible first | exact HB.out | apply below_alloc | apply pw_below_drewN | apply below_drew1) | exact HB.out)))); have n1_ := Aside0.mk (below_step (by repeat (first | (with_reducible first | exact HB.out | apply below_alloc | apply pw_below_drewN | apply below_drew1) | exact HB.out)) hb); clear HB; have HO646 := n0_; have HB := n1_; clear n0_ n1_; clear hb ho9)))
        go_ret
        exact ⟨_, by first | rfl | (simp [errW_none, errW_some] <;> rfl) | (simp [*, errW_none, errW_some] <;> rfl), by (with_reducible repeat (first | apply Kd.R_alloc | apply Kd.R_drewN | apply Kd.R_drew)); exact HO646.out, by repeat (first | (with_reducible first | exact HB.out | apply below_alloc | apply pw_below_drewN | apply below_drew1) | exact HB.out)⟩
      · replace c7 := Bool.eq_false_iff.mpr c7
        subst c7
        have H1 : (spec_LeastInSum.l0 kj2 l0 a1 0) = some r := by rw [if_neg (show ¬ (false = true) by decide)] at H; exact H
        clear H
        have H := H1
        clear H1
        have H' := Aside0.mk H
        clear H
        go_wp2
        repeat (go_quiet (fail); try go_wp2)
        go_loopg [5] kj2 (fun kq v5 w' => ∃ (x5_2 : Int), v5 = .int .i64 x5_2 ∧ Aside0 (spec_LeastInSum.l0 kq l0 a1 x5_2 = some r) ∧ Aside0 (kq ≤ kj2) ∧ Aside0 (Below w.heap.size w w'))
        case atStart => exact ⟨(0), (by first | rfl | (simp; done) | (simp [*]; done)), H', ⟨Nat.le_refl _⟩, ⟨by repeat (first | (with_reducible first | exact HB.out | apply below_alloc | apply pw_below_drewN | apply below_drew1) | exact HB.out)⟩⟩
        case round =>
          clear H'
          try clear p2
          try clear c5
          try clear c7
          try clear p2
          obtain ⟨x5_2, rfl, HA, HK2, HB⟩ := hrel
          cases gk with
          | zero => exact absurd HA.out (by simp [spec_LeastInSum.l0])
          | succ k2 =>
            have H := HA.out
            clear HA
            simp only [spec_LeastInSum.l0] at H
            by_cases c10 : x5_2 < (l0.length : Int)
            · rw [if_pos c10] at H
              have c10b0 : decide (x5_2 < (l0.length : Int)) = true := decide_eq_true c10
              clear c10
              by_cases c11 : 0 ≤ x5_2
              · rw [if_pos c11] at H
                have c11b0 : decide (0 ≤ x5_2) = true := decide_eq_true c11
                clear c11
                replace H := Option.bind_eq_some_iff.mp H
                obtain ⟨t648, A120, H⟩ := H
                replace H : (if t648 = true then (spec_LeastInSum.l0 k2 l0 a1 (wrap64 (x5_2 + 1))) else (some (([] : List Int)))) = some r := H
                have A12 := Aside0.mk A120
                clear A120
                by_cases c13 : t648 = true
                · subst c13
                  have H1 : (spec_LeastInSum.l0 k2 l0 a1 (wrap64 (x5_2 + 1))) = some r := by rw [if_pos rfl] at H; exact H
                  clear H
                  have H := H1
                  clear H1
                  have H' := Aside0.mk H
                  clear H
                  have p647 : 0 ≤ (x5_2 : Int) := of_decide_eq_true (by first | (with_reducible assumption) | assumption)
                  have q647 : x5_2 < (l0.length : Int) := of_decide_eq_true (by first | (with_reducible assumption) | assumption)
                  obtain ⟨ad647, e647, hx647_0⟩ := Kd.at_int HR0.out x5_2 p647 q647
                  cases e647
                  (try replace hx647_0 := (HB.out.cell (World.block_lt_of_cell? w _ hx647_0)).trans hx647_0)
                  replace p647 := eq_true p647
                  replace q647 := eq_true q647
                  go_wp2_with (first | (go_at_call 80; (with_reducible refine (spec_l1In.calls (rd l0 x5_2) 1 1000 true _ A12.out).mono ?_); rintro e w' ⟨rfl, ⟨nd, rfl⟩⟩; (try first | exact ⟨rfl, _, World.drewN_drewN _ _ _⟩ | exact ⟨rfl, _, Eq.trans (World.drewN_drewN _ _ _) (congrArg (World.drewN _) (Nat.add_assoc _ _ _))⟩)))
                  repeat (go_quiet (first | (go_at_call 80; (with_reducible refine (spec_l1In.calls (rd l0 x5_2) 1 1000 true _ A12.out).mono ?_); rintro e w' ⟨rfl, ⟨nd, rfl⟩⟩; (try first | exact ⟨rfl, _, World.drewN_drewN _ _ _⟩ | exact ⟨rfl, _, Eq.trans (World.drewN_drewN _ _ _) (congrArg (World.drewN _) (Nat.add_assoc _ _ _))⟩))); try go_wp2_with (first | (go_at_call 80; (with_reducible refine (spec_l1In.calls (rd l0 x5_2) 1 1000 true _ A12.out).mono ?_); rintro e w' ⟨rfl, ⟨nd, rfl⟩⟩; (try first | exact ⟨rfl, _, World.drewN_drewN _ _ _⟩ | exact ⟨rfl, _, Eq.trans (World.drewN_drewN _ _ _) (congrArg (World.drewN _) (Nat.add_assoc _ _ _))⟩))))
                  go_roundg k2
                  case measure => have := HJ2.out; have := HK2.out; omega
                  case rel => exact ⟨(wrap64 (x5_2 + 1)), (by first | rfl | (simp; done) | (simp [*]; done)), H', ⟨by have := HJ2.out; have := HK2.out; omega⟩, ⟨by repeat (first | (with_reducible first | exact HB.out | apply below_alloc | apply pw_below_drewN | apply below_drew1) | exact HB.out)⟩⟩
                · replace c13 := Bool.eq_false_iff.mpr c13
                  subst c13
                  have H1 : (some (([] : List Int))) = some r := by rw [if_neg (show ¬ (false = true) by decide)] at H; exact H
                  clear H
                  have H := H1
                  clear H1
                  obtain ⟨y649, hy649⟩ : ∃ y_ : List Int, y_ = (([] : List Int)) := ⟨_, rfl⟩
                  replace H : (some y649) = some r := by first | (rw [hy649]; with_reducible exact H) | (have H2_ := (Option.bind_some _ _).symm.trans H; rw [hy649]; with_reducible exact H2_) | (have H2_ := (Option.bind_some _ _).symm.trans H; with_reducible exact H2_) | with_reducible exact H | (rw [hy649]; exact H) | exact H
                  have Ny649 := Aside0.mk hy649
                  clear hy649
                  obtain rfl := Option.some.inj H
                  have p647 : 0 ≤ (x5_2 : Int) := of_decide_eq_true (by first | (with_reducible assumption) | assumption)
                  have q647 : x5_2 < (l0.length : Int) := of_decide_eq_true (by first | (with_reducible assumption) | assumption)
                  obtain ⟨ad647, e647, hx647_0⟩ := Kd.at_int HR0.out x5_2 p647 q647
                  cases e647
                  (try replace hx647_0 := (HB.out.cell (World.block_lt_of_cell? w _ hx647_0)).trans hx647_0)
                  replace p647 := eq_true p647
                  replace q647 := eq_true q647
                  go_wp2_with (first | (go_at_call 80; (with_reducible refine (spec_l1In.calls (rd l0 x5_2) 1 1000 false _ A12.out).mono ?_); rintro e w' ⟨rfl, ⟨nd, rfl⟩⟩; (try first | exact ⟨rfl, _, World.drewN_drewN _ _ _⟩ | exact ⟨rfl, _, Eq.trans (World.drewN_drewN _ _ _) (congrArg (World.drewN _) (Nat.add_assoc _ _ _))⟩)) | ((with_reducible refine gate_dst (N := 34) rfl ?_); (try (refine gate_guard (by rfl) ?_; dsimp only)); refine Kd.R_lit (Kd.int .i64) _ 3 ?hg (N := 34) ?hd (xs := ([] : List Int)) (inner := []) (ok := fun _ => True) (okp := fun _ => True) ?hr ?hp (fun _ hk => hk) trivial (Below.refl _ _) (Nat.le_refl _) (by simp) ?_; (case hd => rfl); (case hg => rfl); (case hr => first | (go_simp; done) | (go_simp; rfl)); (case hp => exact (Reps.none _ _)); intro v650 w14 ho15 hb hg_ hnew_; clear hg_ hnew_; (first | rw [← Ny649.out] at ho15 | (simp only [Int.reduceToNat] at ho15; rw [← Ny649.out] at ho15)); have n0_ := Aside0.mk (Kd.R_lower ho15 (below_size (by repeat (first | (with_reducible first | exact HB.out | apply below_alloc | apply pw_below_drewN | apply below_drew1) | exact HB.out)))); have n1_ := Aside0.mk (below_step (by repeat (first | (with_reducible first | exact HB.out | apply below_alloc | apply pw_below_drewN | apply below_drew1) | exact HB.out)) hb); clear HB; have HO651 := n0_; have HB := n1_; clear n0_ n1_; clear hb ho15))
                  repeat (go_quiet (first | (go_at_call 80; (with_reducible refine (spec_l1In.calls (rd l0 x5_2) 1 1000 false _ A12.out).mono ?_); rintro e w' ⟨rfl, ⟨nd, rfl⟩⟩; (try first | exact ⟨rfl, _, World.drewN_drewN _ _ _⟩ | exact ⟨rfl, _, Eq.trans (World.drewN_drewN _ _ _) (congrArg (World.drewN _) (Nat.add_assoc _ _ _))⟩)) | ((with_reducible refine gate_dst (N := 34) rfl ?_); (try (refine gate_guard (by rfl) ?_; dsimp only)); refine Kd.R_lit (Kd.int .i64) _ 3 ?hg (N := 34) ?hd (xs := ([] : List Int)) (inner := []) (ok := fun _ => True) (okp := fun _ => True) ?hr ?hp (fun _ hk => hk) trivial (Below.refl _ _) (Nat.le_refl _) (by simp) ?_; (case hd => rfl); (case hg => rfl); (case hr => first | (go_simp; done) | (go_simp; rfl)); (case hp => exact (Reps.none _ _)); intro v650 w14 ho15 hb hg_ hnew_; clear hg_ hnew_; (first | rw [← Ny649.out] at ho15 | (simp only [Int.reduceToNat] at ho15; rw [← Ny649.out] at ho15)); have n0_ := Aside0.mk (Kd.R_lower ho15 (below_size (by repeat (first | (with_reducible first | exact HB.out | apply below_alloc | apply pw_below_drewN | apply below_drew1) | exact HB.out)))); have n1_ := Aside0.mk (below_step (by repeat (first | (with_reducible first | exact HB.out | apply below_alloc | apply pw_below_drewN | apply below_drew1) | exact HB.out)) hb); clear HB; have HO651 := n0_; have HB := n1_; clear n0_ n1_; clear hb ho15)); try go_wp2_with (first | (go_at_call 80; (with_reducible refine (spec_l1In.calls (rd l0 x5_2) 1 1000 false _ A12.out).mono ?_); rintro e w' ⟨rfl, ⟨nd, rfl⟩⟩; (try first | exact ⟨rfl, _, World.drewN_drewN _ _ _⟩ | exact ⟨rfl, _, Eq.trans (World.drewN_drewN _ _ _) (congrArg (World.drewN _) (Nat.add_assoc _ _ _))⟩)) | ((with_reducible refine gate_dst (N := 34) rfl ?_); (try (refine gate_guard (by rfl) ?_; dsimp only)); refine Kd.R_lit (Kd.int .i64) _ 3 ?hg (N := 34) ?hd (xs := ([] : List Int)) (inner := []) (ok := fun _ => True) (okp := fun _ => True) ?hr ?hp (fun _ hk => hk) trivial (Below.refl _ _) (Nat.le_refl _) (by simp) ?_; (case hd => rfl); (case hg => rfl); (case hr => first | (go_simp; done) | (go_simp; rfl)); (case hp => exact (Reps.none _ _)); intro v650 w14 ho15 hb hg_ hnew_; clear hg_ hnew_; (first | rw [← Ny649.out] at ho15 | (simp only [Int.reduceToNat] at ho15; rw [← Ny649.out] at ho15)); have n0_ := Aside0.mk (Kd.R_lower ho15 (below_size (by repeat (first | (with_reducible first | exact HB.out | apply below_alloc | apply pw_below_drewN | apply below_drew1) | exact HB.out)))); have n1_ := Aside0.mk (below_step (by repeat (first | (with_reducible first | exact HB.out | apply below_alloc | apply pw_below_drewN | apply below_drew1) | exact HB.out)) hb); clear HB; have HO651 := n0_; have HB := n1_; clear n0_ n1_; clear hb ho15)))
                  go_ret
                  exact ⟨_, by first | rfl | (simp [errW_none, errW_some] <;> rfl) | (simp [*, errW_none, errW_some] <;> rfl), by (with_reducible repeat (first | apply Kd.R_alloc | apply Kd.R_drewN | apply Kd.R_drew)); exact HO651.out, by repeat (first | (with_reducible first | exact HB.out | apply below_alloc | apply pw_below_drewN | apply below_drew1) | exact HB.out)⟩
              · rw [if_neg c11] at H
                exact absurd H (by simp)
            · rw [if_neg c10] at H
              have c10b0 : decide (x5_2 < (l0.length : Int)) = false := decide_eq_false c10
              clear c10
              by_cases c16 : 0 ≤ a1
              · rw [if_pos c16] at H
                have c16b0 := eq_true c16
                have c16b1 : decide (0 ≤ a1) = true := decide_eq_true c16
                clear c16
                by_cases c17 : (a1 : Int).toNat ≤ 35184372088832
                · rw [if_pos c17] at H
                  have c17b0 := eq_true c17
                  have c17b1 : decide ((a1 : Int).toNat ≤ 35184372088832) = true := decide_eq_true c17
                  clear c17
                  obtain ⟨y652, hy652⟩ : ∃ y_ : List Int, y_ = (List.replicate (a1 : Int).toNat 0) := ⟨_, rfl⟩
                  replace H : (spec_LeastInSum.l1 k2 l0 a1 y652 1) = some r := by first | (rw [hy652]; with_reducible exact H) | (have H2_ := (Option.bind_some _ _).symm.trans H; rw [hy652]; with_reducible exact H2_) | (have H2_ := (Option.bind_some _ _).symm.trans H; with_reducible exact H2_) | with_reducible exact H | (rw [hy652]; exact H) | exact H
                  have Ny652 := Aside0.mk hy652
                  clear hy652
                  have H' := Aside0.mk H
                  clear H
                  go_wp2_with (first | ((with_reducible refine gate_dst (N := 36) rfl ?_); (try (refine gate_guard (by rfl) ?_; dsimp only)); refine Kd.R_make (Kd.int .i64) _ 3 rfl (N := 36) rfl 22 _ _ rfl a1 rfl rfl Try.underlying22 (.int .i64 0) 8 info3 rfl (by decide) (by omega) 0 (ok := fun _ => True) (okp := fun _ => True) rfl (fun _ hk => hk) trivial (of_decide_eq_true (by first | (with_reducible assumption) | assumption)) (Nat.le_trans (Nat.mul_le_mul_right _ (of_decide_eq_true (by first | (with_reducible assumption) | assumption) : a1.toNat ≤ 35184372088832)) (by omega)) (Below.refl _ _) (Nat.le_refl _) ?_; intro v653 w18 ho19 hb hg_ hnew_; clear hg_ hnew_; (first | rw [← Ny652.out] at ho19 | (simp only [Int.reduceToNat] at ho19; rw [← Ny652.out] at ho19)); have n0_ := Aside0.mk (Kd.R_lower ho19 (below_size (by repeat (first | (with_reducible first | exact HB.out | apply below_alloc | apply pw_below_drewN | apply below_drew1) | exact HB.out)))); have n1_ := Aside0.mk (below_step (by repeat (first | (with_reducible first | exact HB.out | apply below_alloc | apply pw_below_drewN | apply below_drew1) | exact HB.out)) hb); clear HB; have HO654 := n0_; have HB := n1_; clear n0_ n1_; clear hb ho19))
                  repeat (go_quiet (first | ((with_reducible refine gate_dst (N := 36) rfl ?_); (try (refine gate_guard (by rfl) ?_; dsimp only)); refine Kd.R_make (Kd.int .i64) _ 3 rfl (N := 36) rfl 22 _ _ rfl a1 rfl rfl Try.underlying22 (.int .i64 0) 8 info3 rfl (by decide) (by omega) 0 (ok := fun _ => True) (okp := fun _ => True) rfl (fun _ hk => hk) trivial (of_decide_eq_true (by first | (with_reducible assumption) | assumption)) (Nat.le_trans (Nat.mul_le_mul_right _ (of_decide_eq_true (by first | (with_reducible assumption) | assumption) : a1.toNat ≤ 35184372088832)) (by omega)) (Below.refl _ _) (Nat.le_refl _) ?_; intro v653 w18 ho19 hb hg_ hnew_; clear hg_ hnew_; (first | rw [← Ny652.out] at ho19 | (simp only [Int.reduceToNat] at ho19; rw [← Ny652.out] at ho19)); have n0_ := Aside0.mk (Kd.R_lower ho19 (below_size (by repeat (first | (with_reducible first | exact HB.out | apply below_alloc | apply pw_below_drewN | apply below_drew1) | exact HB.out)))); have n1_ := Aside0.mk (below_step (by repeat (first | (with_reducible first | exact HB.out | apply below_alloc | apply pw_below_drewN | apply below_drew1) | exact HB.out)) hb); clear HB; have HO654 := n0_; have HB := n1_; clear n0_ n1_; clear hb ho19)); try go_wp2_with (first | ((with_reducible refine gate_dst (N := 36) rfl ?_); (try (refine gate_guard (by rfl) ?_; dsimp only)); refine Kd.R_make (Kd.int .i64) _ 3 rfl (N := 36) rfl 22 _ _ rfl a1 rfl rfl Try.underlying22 (.int .i64 0) 8 info3 rfl (by decide) (by omega) 0 (ok := fun _ => True) (okp := fun _ => True) rfl (fun _ hk => hk) trivial (of_decide_eq_true (by first | (with_reducible assumption) | assumption)) (Nat.le_trans (Nat.mul_le_mul_right _ (of_decide_eq_true (by first | (with_reducible assumption) | assumption) : a1.toNat ≤ 35184372088832)) (by omega)) (Below.refl _ _) (Nat.le_refl _) ?_; intro v653 w18 ho19 hb hg_ hnew_; clear hg_ hnew_; (first | rw [← Ny652.out] at ho19 | (simp only [Int.reduceToNat] at ho19; rw [← Ny652.out] at ho19)); have n0_ := Aside0.mk (Kd.R_lower ho19 (below_size (by repeat (first | (with_reducible first | exact HB.out | apply below_alloc | apply pw_below_drewN | apply below_drew1) | exact HB.out)))); have n1_ := Aside0.mk (below_step (by repeat (first | (with_reducible first | exact HB.out | apply below_alloc | apply pw_below_drewN | apply below_drew1) | exact HB.out)) hb); clear HB; have HO654 := n0_; have HB := n1_; clear n0_ n1_; clear hb ho19)))
                  go_loopg [7] k2 (fun kq v7 w' => ∃ (x6_3 : List Int) (x7_3 : Int), v7 = .int .i64 x7_3 ∧ Aside0 (spec_LeastInSum.l1 kq l0 a1 x6_3 x7_3 = some r) ∧ Aside0 (kq ≤ k2) ∧ Aside0 (Kd.R (Kd.int .i64) 3 w' w.heap.size (fun _ => True) v653 x6_3) ∧ Aside0 (Below w.heap.size w w'))
                  case atStart => exact ⟨(y652), (1), (by first | rfl | (simp; done) | (simp [*]; done)), H', ⟨Nat.le_refl _⟩, ⟨by (with_reducible repeat (first | apply Kd.R_alloc | apply Kd.R_drewN | apply Kd.R_drew)); exact HO654.out⟩, ⟨by repeat (first | (with_reducible first | exact HB.out | apply below_alloc | apply pw_below_drewN | apply below_drew1) | exact HB.out)⟩⟩
                  case round =>
                    clear H'
                    try clear c1
                    try clear p2
                    try clear c5
                    try clear p6
                    try clear q6
                    try clear hx6
                    try clear c7
                    try clear c10
                    try clear c10b0
                    try clear c11
                    try clear c11b0
                    try clear c13
                    try clear c16
                    try clear c16b0
                    try clear c16b1
                    try clear c17
                    try clear c17b0
                    try clear c17b1
                    try clear hx647_0
                    try clear p2
                    try clear p647
                    try clear q647
                    obtain ⟨x6_3, x7_3, rfl, HA, HK3, HO_6, HB⟩ := hrel
                    cases gk with
                    | zero => exact absurd HA.out (by simp [spec_LeastInSum.l1])
                    | succ k3 =>
                      have H := HA.out
                      clear HA
                      simp only [spec_LeastInSum.l1] at H
                      by_cases c20 : x7_3 < a1
                      · rw [if_pos c20] at H
                        have c20b0 : decide (x7_3 < a1) = true := decide_eq_true c20
                        clear c20
                        by_cases c21 : 0 ≤ x7_3
                        · rw [if_pos c21] at H
                          have c21b0 : decide (0 ≤ x7_3) = true := decide_eq_true c21
                          clear c21
                          by_cases c22 : x7_3 < (x6_3.length : Int)
                          · rw [if_pos c22] at H
                            have c22b0 : decide (x7_3 < (x6_3.length : Int)) = true := decide_eq_true c22
                            clear c22
                            obtain ⟨y655, hy655⟩ : ∃ y_ : List Int, y_ = (x6_3.set (x7_3 : Int).toNat (-1)) := ⟨_, rfl⟩
                            replace H : (spec_LeastInSum.l1 k3 l0 a1 y655 (wrap64 (x7_3 + 1))) = some r := by first | (rw [hy655]; with_reducible exact H) | (have H2_ := (Option.bind_some _ _).symm.trans H; rw [hy655]; with_reducible exact H2_) | (have H2_ := (Option.bind_some _ _).symm.trans H; with_reducible exact H2_) | with_reducible exact H | (rw [hy655]; exact H) | exact H
                            have Ny655 := Aside0.mk hy655
                            clear hy655
                            have H' := Aside0.mk H
                            clear H
                            have p23 : 0 ≤ (x7_3 : Int) := of_decide_eq_true (by first | (with_reducible assumption) | assumption)
                            have q23 : (x7_3 : Int) < ((x6_3.length : Int) : Int) := of_decide_eq_true (by first | (with_reducible assumption) | assumption)
                            obtain ⟨go23, co23, eo23, gb23, gl23, cl23, HG23⟩ := Kd.R_form HO_6.out (by omega)
                            (first | cases eo23 | (injection eo23 with ea_ en_ ec_; (first | subst ea_ | (injection ea_ with ea_; subst ea_)); subst ec_; clear en_))
                            have GB23 := Aside0.mk gb23
                            have GG23 := Aside0.mk HG23
                            clear gb23 gl23 HG23
                            obtain ⟨hx23_0, hf23_0⟩ := Kd.R_celln 0 HO_6.out (x7_3 : Int) p23 q23
                            replace p23 := eq_true p23
                            replace q23 := eq_true q23
                            have HP24 := Kd.R_putg HO_6.out (x7_3 : Int) (-1)
                            go_wp2_with (first | ((with_reducible refine gate_store (t := 3) (p := 44) rfl ?_); (try (rw [drewN_self wr]; generalize hq_ : World.drewN wr _ = wr; have n0_ := Aside0.mk (Kd.R_at hq_ HO_6.out); have n1_ := Aside0.mk (below_at hq_ HB.out); clear hq_ HO_6 HB; have HO_6 := n0_; have HB := n1_; clear n0_ n1_; (try (have HP24 := Kd.R_putg HO_6.out (x7_3 : Int) (-1))); (try (obtain ⟨hxr_, hfr_⟩ := Kd.R_celln 0 HO_6.out (x7_3 : Int) (of_eq_true (by first | (with_reducible assumption) | assumption)) (of_eq_true (by first | (with_reducible assumption) | assumption)))))); refine store_event (t := 3) (p := 44) (v := ?vo_w25) (w1 := (wr.setCell ⟨go23, (x7_3 : Int).toNat, none⟩ (.int .i64 (-1)))) ?hg ?ho ?hn ?hr ?_; (case ho => rfl); (case hg => rfl); (case hn => rfl); (case hr => first | (go_simp; done) | (go_simp; rfl)); intro w25 hw; have hg : wr.grownBy w25 (some go23) := (by rw [hw]; exact HP24.2); have hp_ : Kd.R (Kd.int .i64) 3 w25 w.heap.size (fun _ => True) (.slice (some ⟨go23, 0, none⟩) x6_3.length co23) y655 := (by rw [hw, Ny655.out]; exact HP24.1); clear HP24; have n0_ := Aside0.mk (hp_); have n1_ := Aside0.mk ((by rw [hw]; exact below_set (HB.out) GB23.out : Below w.heap.size w w25)); clear HO_6; clear HB; have HO_6 := n0_; have HB := n1_; clear n0_ n1_; clear hg hw hp_))
                            repeat (go_quiet (first | ((with_reducible refine gate_store (t := 3) (p := 44) rfl ?_); (try (rw [drewN_self wr]; generalize hq_ : World.drewN wr _ = wr; have n0_ := Aside0.mk (Kd.R_at hq_ HO_6.out); have n1_ := Aside0.mk (below_at hq_ HB.out); clear hq_ HO_6 HB; have HO_6 := n0_; have HB := n1_; clear n0_ n1_; (try (have HP24 := Kd.R_putg HO_6.out (x7_3 : Int) (-1))); (try (obtain ⟨hxr_, hfr_⟩ := Kd.R_celln 0 HO_6.out (x7_3 : Int) (of_eq_true (by first | (with_reducible assumption) | assumption)) (of_eq_true (by first | (with_reducible assumption) | assumption)))))); refine store_event (t := 3) (p := 44) (v := ?vo_w25) (w1 := (wr.setCell ⟨go23, (x7_3 : Int).toNat, none⟩ (.int .i64 (-1)))) ?hg ?ho ?hn ?hr ?_; (case ho => rfl); (case hg => rfl); (case hn => rfl); (case hr => first | (go_simp; done) | (go_simp; rfl)); intro w25 hw; have hg : wr.grownBy w25 (some go23) := (by rw [hw]; exact HP24.2); have hp_ : Kd.R (Kd.int .i64) 3 w25 w.heap.size (fun _ => True) (.slice (some ⟨go23, 0, none⟩) x6_3.length co23) y655 := (by rw [hw, Ny655.out]; exact HP24.1); clear HP24; have n0_ := Aside0.mk (hp_); have n1_ := Aside0.mk ((by rw [hw]; exact below_set (HB.out) GB23.out : Below w.heap.size w w25)); clear HO_6; clear HB; have HO_6 := n0_; have HB := n1_; clear n0_ n1_; clear hg hw hp_)); try go_wp2_with (first | ((with_reducible refine gate_store (t := 3) (p := 44) rfl ?_); (try (rw [drewN_self wr]; generalize hq_ : World.drewN wr _ = wr; have n0_ := Aside0.mk (Kd.R_at hq_ HO_6.out); have n1_ := Aside0.mk (below_at hq_ HB.out); clear hq_ HO_6 HB; have HO_6 := n0_; have HB := n1_; clear n0_ n1_; (try (have HP24 := Kd.R_putg HO_6.out (x7_3 : Int) (-1))); (try (obtain ⟨hxr_, hfr_⟩ := Kd.R_celln 0 HO_6.out (x7_3 : Int) (of_eq_true (by first | (with_reducible assumption) | assumption)) (of_eq_true (by first | (with_reducible assumption) | assumption)))))); refine store_event (t := 3) (p := 44) (v := ?vo_w25) (w1 := (wr.setCell ⟨go23, (x7_3 : Int).toNat, none⟩ (.int .i64 (-1)))) ?hg ?ho ?hn ?hr ?_; (case ho => rfl); (case hg => rfl); (case hn => rfl); (case hr => first | (go_simp; done) | (go_simp; rfl)); intro w25 hw; have hg : wr.grownBy w25 (some go23) := (by rw [hw]; exact HP24.2); have hp_ : Kd.R (Kd.int .i64) 3 w25 w.heap.size (fun _ => True) (.slice (some ⟨go23, 0, none⟩) x6_3.length co23) y655 := (by rw [hw, Ny655.out]; exact HP24.1); clear HP24; have n0_ := Aside0.mk (hp_); have n1_ := Aside0.mk ((by rw [hw]; exact below_set (HB.out) GB23.out : Below w.heap.size w w25)); clear HO_6; clear HB; have HO_6 := n0_; have HB := n1_; clear n0_ n1_; clear hg hw hp_)))
                            go_roundg k3
                            case measure => have := HJ2.out; have := HK2.out; have := HK3.out; omega
                            case rel => exact ⟨(y655), (wrap64 (x7_3 + 1)), (by first | rfl | (simp; done) | (simp [*]; done)), H', ⟨by have := HJ2.out; have := HK2.out; have := HK3.out; omega⟩, ⟨by (with_reducible repeat (first | apply Kd.R_alloc | apply Kd.R_drewN | apply Kd.R_drew)); exact HO_6.out⟩, ⟨by repeat (first | (with_reducible first | exact HB.out | apply below_alloc | apply pw_below_drewN | apply below_drew1) | exact HB.out)⟩⟩
                          · rw [if_neg c22] at H
                            exact absurd H (by simp)
                        · rw [if_neg c21] at H
                          exact absurd H (by simp)
                      · rw [if_neg c20] at H
                        have c20b0 : decide (x7_3 < a1) = false := decide_eq_false c20
                        clear c20
                        have H' := Aside0.mk H
                        clear H
                        go_wp2
                        repeat (go_quiet (fail); try go_wp2)
                        go_loopg [8] k3 (fun kq v8 w' => ∃ (x6_4 : List Int) (x8_4 : Bool), v8 = .bool x8_4 ∧ Aside0 (spec_LeastInSum.l2 kq l0 a1 x6_4 x8_4 = some r) ∧ Aside0 (kq ≤ k3) ∧ Aside0 (Kd.R (Kd.int .i64) 3 w' w.heap.size (fun _ => True) v653 x6_4) ∧ Aside0 (Below w.heap.size w w'))
                        case atStart => exact ⟨(x6_3), (true), (by first | rfl | (simp; done) | (simp [*]; done)), H', ⟨Nat.le_refl _⟩, ⟨by (with_reducible repeat (first | apply Kd.R_alloc | apply Kd.R_drewN | apply Kd.R_drew)); exact HO_6.out⟩, ⟨by repeat (first | (with_reducible first | exact HB.out | apply below_alloc | apply pw_below_drewN | apply below_drew1) | exact HB.out)⟩⟩
                        case round =>
                          clear H'
                          try clear c1
                          try clear c2
                          try clear p2
                          try clear q2
                          try clear hx2
                          try clear hf2
                          try clear c5
                          try clear p6
                          try clear q6
                          try clear hx6
                          try clear c7
                          try clear c10
                          try clear c10b0
                          try clear c11
                          try clear c11b0
                          try clear c13
                          try clear c16
                          try clear c16b0
                          try clear c16b1
                          try clear c17
                          try clear c17b0
                          try clear c17b1
                          try clear c20
                          try clear c20b0
                          try clear c21
                          try clear c21b0
                          try clear c22
                          try clear c22b0
                          try clear p23
                          try clear q23
                          try clear hx23
                          try clear hf23
                          try clear hx23_0
                          try clear hx647_0
                          try clear p2
                          try clear p23
                          try clear p6
                          try clear p647
                          try clear q23
                          try clear q6
                          try clear q647
                          obtain ⟨x6_4, x8_4, rfl, HA, HK4, HO_6, HB⟩ := hrel
                          cases gk with
                          | zero => exact absurd HA.out (by simp [spec_LeastInSum.l2])
                          | succ k4 =>
                            have H := HA.out
                            clear HA
                            simp only [spec_LeastInSum.l2] at H
                            by_cases c26 : x8_4 = true
                            · subst c26
                              have H1 : (spec_LeastInSum.l3 k4 l0 a1 x6_4 false 0) = some r := by rw [if_pos rfl] at H; exact H
                              clear H
                              have H := H1
                              clear H1
                              have H' := Aside0.mk H
                              clear H
                              go_wp2
                              repeat (go_quiet (fail); try go_wp2)
                              go_loopg [8, 9] k4 (fun kq v8 v9 w' => ∃ (x6_5 : List Int) (x8_5 : Bool) (x9_5 : Int), v8 = .bool x8_5 ∧ v9 = .int .i64 x9_5 ∧ Aside0 (spec_LeastInSum.l3 kq l0 a1 x6_5 x8_5 x9_5 = some r) ∧ Aside0 (kq ≤ k4) ∧ Aside0 (Kd.R (Kd.int .i64) 3 w' w.heap.size (fun _ => True) v653 x6_5) ∧ Aside0 (Below w.heap.size w w'))
                              case atStart => exact ⟨(x6_4), (false), (0), (by first | rfl | (simp; done) | (simp [*]; done)), (by first | rfl | (simp; done) | (simp [*]; done)), H', ⟨Nat.le_refl _⟩, ⟨by (with_reducible repeat (first | apply Kd.R_alloc | apply Kd.R_drewN | apply Kd.R_drew)); exact HO_6.out⟩, ⟨by repeat (first | (with_reducible first | exact HB.out | apply below_alloc | apply pw_below_drewN | apply below_drew1) | exact HB.out)⟩⟩
                              case round =>
                                clear H'
                                try clear c1
                                try clear c2
                                try clear p2
                                try clear q2
                                try clear hx2
                                try clear hf2
                                try clear c5
                                try clear p6
                                try clear q6
                                try clear hx6
                                try clear c7
                                try clear c10
                                try clear c10b0
                                try clear c11
                                try clear c11b0
                                try clear c13
                                try clear c16
                                try clear c16b0
                                try clear c16b1
                                try clear c17
                                try clear c17b0
                                try clear c17b1
                                try clear c20
                                try clear c20b0
                                try clear c21
                                try clear c21b0
                                try clear c22
                                try clear c22b0
                                try clear p23
                                try clear q23
                                try clear hx23
                                try clear hf23
                                try clear c26
                                try clear hx23_0
                                try clear hx647_0
                                try clear p2
                                try clear p23
                                try clear p6
                                try clear p647
                                try clear q2
                                try clear q23
                                try clear q6
                                try clear q647
                                obtain ⟨x6_5, x8_5, x9_5, rfl, rfl, HA, HK5, HO_6, HB⟩ := hrel
                                cases gk with
                                | zero => exact absurd HA.out (by simp [spec_LeastInSum.l3])
                                | succ k5 =>
                                  have H := HA.out
                                  clear HA
                                  simp only [spec_LeastInSum.l3] at H
                                  by_cases c27 : x9_5 < a1
                                  · rw [if_pos c27] at H
                                    have c27b0 : decide (x9_5 < a1) = true := decide_eq_true c27
                                    clear c27
                                    have H' := Aside0.mk H
                                    clear H
                                    go_wp2
                                    repeat (go_quiet (fail); try go_wp2)
                                    go_loopg [8, 10] k5 (fun kq v8 v10 w' => ∃ (x6_6 : List Int) (x8_6 : Bool) (x10_6 : Int), v8 = .bool x8_6 ∧ v10 = .int .i64 x10_6 ∧ Aside0 (spec_LeastInSum.l4 kq l0 a1 x6_6 x8_6 x9_5 x10_6 = some r) ∧ Aside0 (kq ≤ k5) ∧ Aside0 (Kd.R (Kd.int .i64) 3 w' w.heap.size (fun _ => True) v653 x6_6) ∧ Aside0 (Below w.heap.size w w'))
                                    case atStart => exact ⟨(x6_5), (x8_5), (0), (by first | rfl | (simp; done) | (simp [*]; done)), (by first | rfl | (simp; done) | (simp [*]; done)), H', ⟨Nat.le_refl _⟩, ⟨by (with_reducible repeat (first | apply Kd.R_alloc | apply Kd.R_drewN | apply Kd.R_drew)); exact HO_6.out⟩, ⟨by repeat (first | (with_reducible first | exact HB.out | apply below_alloc | apply pw_below_drewN | apply below_drew1) | exact HB.out)⟩⟩
                                    case round =>
                                      clear H'
                                      try clear c1
                                      try clear c2
                                      try clear p2
                                      try clear q2
                                      try clear hx2
                                      try clear hf2
                                      try clear c5
                                      try clear p6
                                      try clear q6
                                      try clear hx6
                                      try clear c7
                                      try clear c10
                                      try clear c10b0
                                      try clear c11
                                      try clear c11b0
                                      try clear c13
                                      try clear c16
                                      try clear c16b0
                                      try clear c16b1
                                      try clear c17
                                      try clear c17b0
                                      try clear c17b1
                                      try clear c20
                                      try clear c20b0
                                      try clear c21
                                      try clear c21b0
                                      try clear c22
                                      try clear c22b0
                                      try clear p23
                                      try clear q23
                                      try clear hx23
                                      try clear hf23
                                      try clear c26
                                      try clear c27
                                      try clear c27b0
                                      try clear hx23_0
                                      try clear hx647_0
                                      try clear p2
                                      try clear p23
                                      try clear p6
                                      try clear p647
                                      try clear q2
                                      try clear q23
                                      try clear q6
                                      try clear q647
                                      obtain ⟨x6_6, x8_6, x10_6, rfl, rfl, HA, HK6, HO_6, HB⟩ := hrel
                                      cases gk with
                                      | zero => exact absurd HA.out (by simp [spec_LeastInSum.l4])
                                      | succ k6 =>
                                        have H := HA.out
                                        clear HA
                                        simp only [spec_LeastInSum.l4] at H
                                        have HC28 := Aside0.mk H
                                        clear H
                                        go_upto_region 20 with (fail)
                                        repeat (go_quiet (fail); go_upto_region 20 with (fail))
                                        go_cut [61] (fun v61 wc => ∃ (kq : Nat) (x61_27 : Bool), v61 = .bool x61_27 ∧ Aside0 (spec_LeastInSum.j6 kq l0 a1 x6_6 x8_6 x9_5 x10_6 x61_27 = some r) ∧ Aside0 (kq ≤ k6) ∧ Aside0 (Kd.R (Kd.int .i64) 3 wc w.heap.size (fun _ => True) v653 x6_6) ∧ Aside0 (Below w.heap.size w wc))
                                        case first =>
                                          have H := HC28.out
                                          clear HC28
                                          by_cases c29 : x10_6 < (l0.length : Int)
                                          · rw [if_pos c29] at H
                                            have c29b0 : decide (x10_6 < (l0.length : Int)) = true := decide_eq_true c29
                                            clear c29
                                            (first | rw [c29b0] | (simp only [i64_w, i32_w]; rw [c29b0]) | skip)
                                            by_cases c30 : 0 ≤ x9_5
                                            · rw [if_pos c30] at H
                                              have c30b0 : decide (0 ≤ x9_5) = true := decide_eq_true c30
                                              clear c30
                                              by_cases c31 : x9_5 < (x6_6.length : Int)
                                              · rw [if_pos c31] at H
                                                have c31b0 : decide (x9_5 < (x6_6.length : Int)) = true := decide_eq_true c31
                                                clear c31
                                                have H' := Aside0.mk H
                                                clear H
                                                obtain ⟨Ao32, co32, eo32⟩ := Kd.R_slice HO_6.out
                                                subst eo32
                                                have p656 : 0 ≤ (x9_5 : Int) := of_decide_eq_true (by first | (with_reducible assumption) | assumption)
                                                have q656 : x9_5 < (x6_6.length : Int) := of_decide_eq_true (by first | (with_reducible assumption) | assumption)
                                                obtain ⟨ad656, e656, hx656_0⟩ := Kd.at_int (Kd.R_reads' HO_6.out).2.2 x9_5 p656 q656
                                                cases e656
                                                replace p656 := eq_true p656
                                                replace q656 := eq_true q656
                                                go_wp2
                                                repeat (go_quiet (fail); try go_wp2)
                                                go_meet
                                                case rel => exact ⟨_, (decide ((rd x6_6 x9_5) ≥ 0)), (by first | rfl | (simp; done) | (simp [*]; done)), H', ⟨by have := HJ2.out; have := HK2.out; have := HK3.out; have := HK4.out; have := HK5.out; have := HK6.out; first | omega | exact Nat.le_refl _⟩, ⟨by (with_reducible repeat (first | apply Kd.R_alloc | apply Kd.R_drewN | apply Kd.R_drew)); exact HO_6.out⟩, ⟨by repeat (first | (with_reducible first | exact HB.out | apply below_alloc | apply pw_below_drewN | apply below_drew1) | exact HB.out)⟩⟩
                                              · rw [if_neg c31] at H
                                                exact absurd H (by simp)
                                            · rw [if_neg c30] at H
                                              exact absurd H (by simp)
                                          · rw [if_neg c29] at H
                                            have c29b0 : decide (x10_6 < (l0.length : Int)) = false := decide_eq_false c29
                                            clear c29
                                            (first | rw [c29b0] | (simp only [i64_w, i32_w]; rw [c29b0]) | skip)
                                            have H' := Aside0.mk H
                                            clear H
                                            go_wp2
                                            repeat (go_quiet (fail); try go_wp2)
                                            go_meet
                                            case rel => exact ⟨_, (false), (by first | rfl | (simp; done) | (simp [*]; done)), H', ⟨by have := HJ2.out; have := HK2.out; have := HK3.out; have := HK4.out; have := HK5.out; have := HK6.out; first | omega | exact Nat.le_refl _⟩, ⟨by (with_reducible repeat (first | apply Kd.R_alloc | apply Kd.R_drewN | apply Kd.R_drew)); exact HO_6.out⟩, ⟨by repeat (first | (with_reducible first | exact HB.out | apply below_alloc | apply pw_below_drewN | apply below_drew1) | exact HB.out)⟩⟩
                                        case rest =>
                                          clear HC28
                                          try clear c1
                                          try clear c2
                                          try clear p2
                                          try clear q2
                                          try clear hx2
                                          try clear hf2
                                          try clear c3
                                          try clear c5
                                          try clear p6
                                          try clear q6
                                          try clear hx6
                                          try clear c7
                                          try clear c10
                                          try clear c10b0
                                          try clear c11
                                          try clear c11b0
                                          try clear c13
                                          try clear c16
                                          try clear c16b0
                                          try clear c16b1
                                          try clear c17
                                          try clear c17b0
                                          try clear c17b1
                                          try clear c20
                                          try clear c20b0
                                          try clear c21
                                          try clear c21b0
                                          try clear c22
                                          try clear c22b0
                                          try clear p23
                                          try clear q23
                                          try clear hx23
                                          try clear hf23
                                          try clear c26
                                          try clear c27
                                          try clear c27b0
                                          try clear c29
                                          try clear c29b0
                                          try clear c30
                                          try clear c30b0
                                          try clear c31
                                          try clear c31b0
                                          try clear hx23_0
                                          try clear hx647_0
                                          try clear hx656_0
                                          try clear p2
                                          try clear p23
                                          try clear p6
                                          try clear p647
                                          try clear p656
                                          try clear q2
                                          try clear q23
                                          try clear q6
                                          try clear q647
                                          try clear q656
                                          obtain ⟨kq, x61_27, rfl, HA, HJ27, HO_6, HB⟩ := hcut
                                          cases kq with
                                          | zero => exact absurd HA.out (by simp [spec_LeastInSum.j6])
                                          | succ kj27 =>
                                            have H := HA.out
                                            clear HA
                                            simp only [spec_LeastInSum.j6] at H
                                            by_cases c33 : x61_27 = true
                                            · subst c33
                                              have H1 : (if 0 ≤ x9_5 then (if x9_5 < (x6_6.length : Int) then (if 0 ≤ x10_6 then (if x10_6 < (l0.length : Int) then (if a1 = 0 then (none) else (if 0 ≤ (Int.tmod (wrap64 ((rd x6_6 x9_5) + (rd l0 x10_6))) a1) then (if (Int.tmod (wrap64 ((rd x6_6 x9_5) + (rd l0 x10_6))) a1) < (x6_6.length : Int) then (if (rd x6_6 (Int.tmod (wrap64 ((rd x6_6 x9_5) + (rd l0 x10_6))) a1)) < 0 then (spec_LeastInSum.l4 kj27 l0 a1 (x6_6.set ((Int.tmod (wrap64 ((rd x6_6 x9_5) + (rd l0 x10_6))) a1) : Int).toNat (wrap64 ((rd x6_6 x9_5) + (rd l0 x10_6)))) true x9_5 (wrap64 (x10_6 + 1))) else (if (wrap64 ((rd x6_6 x9_5) + (rd l0 x10_6))) < (rd x6_6 (Int.tmod (wrap64 ((rd x6_6 x9_5) + (rd l0 x10_6))) a1)) then (spec_LeastInSum.l4 kj27 l0 a1 (x6_6.set ((Int.tmod (wrap64 ((rd x6_6 x9_5) + (rd l0 x10_6))) a1) : Int).toNat (wrap64 ((rd x6_6 x9_5) + (rd l0 x10_6)))) true x9_5 (wrap64 (x10_6 + 1))) else (spec_LeastInSum.l4 kj27 l0 a1 x6_6 x8_6 x9_5 (wrap64 (x10_6 + 1))))) else (none)) else (none))) else (none)) else (none)) else (none)) else (none)) = some r := by rw [if_pos rfl] at H; exact H
                                              clear H
                                              have H := H1
                                              clear H1
                                              by_cases c34 : 0 ≤ x9_5
                                              · rw [if_pos c34] at H
                                                have c34b0 : decide (0 ≤ x9_5) = true := decide_eq_true c34
                                                clear c34
                                                by_cases c35 : x9_5 < (x6_6.length : Int)
                                                · rw [if_pos c35] at H
                                                  have c35b0 : decide (x9_5 < (x6_6.length : Int)) = true := decide_eq_true c35
                                                  clear c35
                                                  by_cases c36 : 0 ≤ x10_6
                                                  · rw [if_pos c36] at H
                                                    have c36b0 : decide (0 ≤ x10_6) = true := decide_eq_true c36
                                                    clear c36
                                                    by_cases c37 : x10_6 < (l0.length : Int)
                                                    · rw [if_pos c37] at H
                                                      have c37b0 : decide (x10_6 < (l0.length : Int)) = true := decide_eq_true c37
                                                      clear c37
                                                      by_cases c38 : a1 = 0
                                                      · rw [if_pos c38] at H
                                                        exact absurd H (by simp)
                                                      · rw [if_neg c38] at H
                                                        have c38b0 : (a1 == 0) = false := beq_eq_false_iff_ne.mpr c38
                                                        have c38b1 : (a1 != 0) = true := bne_iff_ne.mpr c38
                                                        obtain ⟨ji39, hji39⟩ : ∃ j_ : Int, (Int.tmod (wrap64 ((rd x6_6 x9_5) + (rd l0 x10_6))) a1) = j_ := ⟨_, rfl⟩
                                                        replace H : (if 0 ≤ (ji39) then (if (ji39) < (x6_6.length : Int) then (if (rd x6_6 (ji39)) < 0 then (spec_LeastInSum.l4 kj27 l0 a1 (x6_6.set ((ji39) : Int).toNat (wrap64 ((rd x6_6 x9_5) + (rd l0 x10_6)))) true x9_5 (wrap64 (x10_6 + 1))) else (if (wrap64 ((rd x6_6 x9_5) + (rd l0 x10_6))) < (rd x6_6 (ji39)) then (spec_LeastInSum.l4 kj27 l0 a1 (x6_6.set ((ji39) : Int).toNat (wrap64 ((rd x6_6 x9_5) + (rd l0 x10_6)))) true x9_5 (wrap64 (x10_6 + 1))) else (spec_LeastInSum.l4 kj27 l0 a1 x6_6 x8_6 x9_5 (wrap64 (x10_6 + 1))))) else (none)) else (none)) = some r := by first | (rw [hji39] at H; exact H) | (simp only [hji39] at H ⊢; exact H)
                                                        by_cases c40 : 0 ≤ (ji39)
                                                        · rw [if_pos c40] at H
                                                          have c40b0 : decide (0 ≤ (ji39)) = true := decide_eq_true c40
                                                          clear c40
                                                          by_cases c41 : (ji39) < (x6_6.length : Int)
                                                          · rw [if_pos c41] at H
                                                            have c41b0 : decide ((ji39) < (x6_6.length : Int)) = true := decide_eq_true c41
                                                            clear c41
                                                            by_cases c42 : (rd x6_6 (ji39)) < 0
                                                            · rw [if_pos c42] at H
                                                              have c42b0 : decide ((rd x6_6 (ji39)) < 0) = true := decide_eq_true c42
                                                              clear c42
                                                              obtain ⟨y660, hy660⟩ : ∃ y_ : List Int, y_ = (x6_6.set ((ji39) : Int).toNat (wrap64 ((rd x6_6 x9_5) + (rd l0 x10_6)))) := ⟨_, rfl⟩
                                                              replace H : (spec_LeastInSum.l4 kj27 l0 a1 y660 true x9_5 (wrap64 (x10_6 + 1))) = some r := by first | (rw [hy660]; with_reducible exact H) | (have H2_ := (Option.bind_some _ _).symm.trans H; rw [hy660]; with_reducible exact H2_) | (have H2_ := (Option.bind_some _ _).symm.trans H; with_reducible exact H2_) | with_reducible exact H | (rw [hy660]; exact H) | exact H
                                                              have Ny660 := Aside0.mk hy660
                                                              clear hy660
                                                              have H' := Aside0.mk H
                                                              clear H
                                                              obtain ⟨Ao44, co44, eo44⟩ := Kd.R_slice HO_6.out
                                                              subst eo44
                                                              have p657 : 0 ≤ (x9_5 : Int) := of_decide_eq_true (by first | (with_reducible assumption) | assumption)
                                                              have q657 : x9_5 < (x6_6.length : Int) := of_decide_eq_true (by first | (with_reducible assumption) | assumption)
                                                              obtain ⟨ad657, e657, hx657_0⟩ := Kd.at_int (Kd.R_reads' HO_6.out).2.2 x9_5 p657 q657
                                                              cases e657
                                                              replace p657 := eq_true p657
                                                              replace q657 := eq_true q657
                                                              have p658 : 0 ≤ (x10_6 : Int) := of_decide_eq_true (by first | (with_reducible assumption) | assumption)
                                                              have q658 : x10_6 < (l0.length : Int) := of_decide_eq_true (by first | (with_reducible assumption) | assumption)
                                                              obtain ⟨ad658, e658, hx658_0⟩ := Kd.at_int HR0.out x10_6 p658 q658
                                                              cases e658
                                                              (try replace hx658_0 := (HB.out.cell (World.block_lt_of_cell? w _ hx658_0)).trans hx658_0)
                                                              replace p658 := eq_true p658
                                                              replace q658 := eq_true q658
                                                              have p659 : 0 ≤ ((ji39) : Int) := of_decide_eq_true (by first | (with_reducible assumption) | assumption)
                                                              have q659 : (ji39) < (x6_6.length : Int) := of_decide_eq_true (by first | (with_reducible assumption) | assumption)
                                                              obtain ⟨ad659, e659, hx659_0⟩ := Kd.at_int (Kd.R_reads' HO_6.out).2.2 (ji39) p659 q659
                                                              obtain rfl : ad657 = ad659 := (by injection e659)
                                                              replace p659 := eq_true p659
                                                              replace q659 := eq_true q659
                                                              have p43 : 0 ≤ ((ji39) : Int) := of_decide_eq_true (by first | (with_reducible assumption) | assumption)
                                                              have q43 : ((ji39) : Int) < ((x6_6.length : Int) : Int) := of_decide_eq_true (by first | (with_reducible assumption) | assumption)
                                                              obtain ⟨go43, co43, eo43, gb43, gl43, cl43, HG43⟩ := Kd.R_form HO_6.out (by omega)
                                                              (first | cases eo43 | (injection eo43 with ea_ en_ ec_; (first | subst ea_ | (injection ea_ with ea_; subst ea_)); subst ec_; clear en_))
                                                              have GB43 := Aside0.mk gb43
                                                              have GG43 := Aside0.mk HG43
                                                              clear gb43 gl43 HG43
                                                              (first | simp only [add_plain] at hx657_0 | skip)
                                                              (first | simp only [add_plain] at hx659_0 | skip)
                                                              obtain ⟨hx43_0, hf43_0⟩ := Kd.R_celln 0 HO_6.out ((ji39) : Int) p43 q43
                                                              replace p43 := eq_true p43
                                                              replace q43 := eq_true q43
                                                              have HP45 := Kd.R_putg HO_6.out ((ji39) : Int) (wrap64 ((rd x6_6 x9_5) + (rd l0 x10_6)))
                                                              go_wp2_with (first | ((with_reducible refine gate_store (t := 3) (p := 95) rfl ?_); (try (rw [drewN_self wc]; generalize hq_ : World.drewN wc _ = wc; have n0_ := Aside0.mk (Kd.R_at hq_ HO_6.out); have n1_ := Aside0.mk (below_at hq_ HB.out); clear hq_ HO_6 HB; have HO_6 := n0_; have HB := n1_; clear n0_ n1_; (try (have HP45 := Kd.R_putg HO_6.out ((ji39) : Int) (wrap64 ((rd x6_6 x9_5) + (rd l0 x10_6))))); (try (obtain ⟨hxr_, hfr_⟩ := Kd.R_celln 0 HO_6.out ((ji39) : Int) (of_eq_true (by first | (with_reducible assumption) | assumption)) (of_eq_true (by first | (with_reducible assumption) | assumption)))))); refine store_event (t := 3) (p := 95) (v := ?vo_w46) (w1 := (wc.setCell ⟨go43, ((ji39) : Int).toNat, none⟩ (.int .i64 (wrap64 ((rd x6_6 x9_5) + (rd l0 x10_6)))))) ?hg ?ho ?hn ?hr ?_; (case ho => rfl); (case hg => rfl); (case hn => rfl); (case hr => first | (go_simp; done) | (go_simp; rfl)); intro w46 hw; have hg : wc.grownBy w46 (some go43) := (by rw [hw]; exact HP45.2); have hp_ : Kd.R (Kd.int .i64) 3 w46 w.heap.size (fun _ => True) (.slice (some ⟨go43, 0, none⟩) x6_6.length co44) y660 := (by rw [hw, Ny660.out]; exact HP45.1); clear HP45; have n0_ := Aside0.mk (hp_); have n1_ := Aside0.mk ((by rw [hw]; exact below_set (HB.out) GB43.out : Below w.heap.size w w46)); clear HO_6; clear HB; have HO_6 := n0_; have HB := n1_; clear n0_ n1_; clear hg hw hp_))
                                                              repeat (go_quiet (first | ((with_reducible refine gate_store (t := 3) (p := 95) rfl ?_); (try (rw [drewN_self wc]; generalize hq_ : World.drewN wc _ = wc; have n0_ := Aside0.mk (Kd.R_at hq_ HO_6.out); have n1_ := Aside0.mk (below_at hq_ HB.out); clear hq_ HO_6 HB; have HO_6 := n0_; have HB := n1_; clear n0_ n1_; (try (have HP45 := Kd.R_putg HO_6.out ((ji39) : Int) (wrap64 ((rd x6_6 x9_5) + (rd l0 x10_6))))); (try (obtain ⟨hxr_, hfr_⟩ := Kd.R_celln 0 HO_6.out ((ji39) : Int) (of_eq_true (by first | (with_reducible assumption) | assumption)) (of_eq_true (by first | (with_reducible assumption) | assumption)))))); refine store_event (t := 3) (p := 95) (v := ?vo_w46) (w1 := (wc.setCell ⟨go43, ((ji39) : Int).toNat, none⟩ (.int .i64 (wrap64 ((rd x6_6 x9_5) + (rd l0 x10_6)))))) ?hg ?ho ?hn ?hr ?_; (case ho => rfl); (case hg => rfl); (case hn => rfl); (case hr => first | (go_simp; done) | (go_simp; rfl)); intro w46 hw; have hg : wc.grownBy w46 (some go43) := (by rw [hw]; exact HP45.2); have hp_ : Kd.R (Kd.int .i64) 3 w46 w.heap.size (fun _ => True) (.slice (some ⟨go43, 0, none⟩) x6_6.length co44) y660 := (by rw [hw, Ny660.out]; exact HP45.1); clear HP45; have n0_ := Aside0.mk (hp_); have n1_ := Aside0.mk ((by rw [hw]; exact below_set (HB.out) GB43.out : Below w.heap.size w w46)); clear HO_6; clear HB; have HO_6 := n0_; have HB := n1_; clear n0_ n1_; clear hg hw hp_)); try go_wp2_with (first | ((with_reducible refine gate_store (t := 3) (p := 95) rfl ?_); (try (rw [drewN_self wc]; generalize hq_ : World.drewN wc _ = wc; have n0_ := Aside0.mk (Kd.R_at hq_ HO_6.out); have n1_ := Aside0.mk (below_at hq_ HB.out); clear hq_ HO_6 HB; have HO_6 := n0_; have HB := n1_; clear n0_ n1_; (try (have HP45 := Kd.R_putg HO_6.out ((ji39) : Int) (wrap64 ((rd x6_6 x9_5) + (rd l0 x10_6))))); (try (obtain ⟨hxr_, hfr_⟩ := Kd.R_celln 0 HO_6.out ((ji39) : Int) (of_eq_true (by first | (with_reducible assumption) | assumption)) (of_eq_true (by first | (with_reducible assumption) | assumption)))))); refine store_event (t := 3) (p := 95) (v := ?vo_w46) (w1 := (wc.setCell ⟨go43, ((ji39) : Int).toNat, none⟩ (.int .i64 (wrap64 ((rd x6_6 x9_5) + (rd l0 x10_6)))))) ?hg ?ho ?hn ?hr ?_; (case ho => rfl); (case hg => rfl); (case hn => rfl); (case hr => first | (go_simp; done) | (go_simp; rfl)); intro w46 hw; have hg : wc.grownBy w46 (some go43) := (by rw [hw]; exact HP45.2); have hp_ : Kd.R (Kd.int .i64) 3 w46 w.heap.size (fun _ => True) (.slice (some ⟨go43, 0, none⟩) x6_6.length co44) y660 := (by rw [hw, Ny660.out]; exact HP45.1); clear HP45; have n0_ := Aside0.mk (hp_); have n1_ := Aside0.mk ((by rw [hw]; exact below_set (HB.out) GB43.out : Below w.heap.size w w46)); clear HO_6; clear HB; have HO_6 := n0_; have HB := n1_; clear n0_ n1_; clear hg hw hp_)))
                                                              go_roundg kj27
                                                              case measure => have := HJ2.out; have := HK2.out; have := HK3.out; have := HK4.out; have := HK5.out; have := HK6.out; have := HJ27.out; omega
                                                              case rel => exact ⟨(y660), (true), (wrap64 (x10_6 + 1)), (by first | rfl | (simp; done) | (simp [*]; done)), (by first | rfl | (simp; done) | (simp [*]; done)), H', ⟨by have := HJ2.out; have := HK2.out; have := HK3.out; have := HK4.out; have := HK5.out; have := HK6.out; have := HJ27.out; omega⟩, ⟨by (with_reducible repeat (first | apply Kd.R_alloc | apply Kd.R_drewN | apply Kd.R_drew)); exact HO_6.out⟩, ⟨by repeat (first | (with_reducible first | exact HB.out | apply below_alloc | apply pw_below_drewN | apply below_drew1) | exact HB.out)⟩⟩
                                                            · rw [if_neg c42] at H
                                                              have c42b0 : decide ((rd x6_6 (ji39)) < 0) = false := decide_eq_false c42
                                                              clear c42
                                                              by_cases c47 : (wrap64 ((rd x6_6 x9_5) + (rd l0 x10_6))) < (rd x6_6 (ji39))
                                                              · rw [if_pos c47] at H
                                                                have c47b0 : decide ((wrap64 ((rd x6_6 x9_5) + (rd l0 x10_6))) < (rd x6_6 (ji39))) = true := decide_eq_true c47
                                                                clear c47
                                                                obtain ⟨y662, hy662⟩ : ∃ y_ : List Int, y_ = (x6_6.set ((ji39) : Int).toNat (wrap64 ((rd x6_6 x9_5) + (rd l0 x10_6)))) := ⟨_, rfl⟩
                                                                replace H : (spec_LeastInSum.l4 kj27 l0 a1 y662 true x9_5 (wrap64 (x10_6 + 1))) = some r := by first | (rw [hy662]; with_reducible exact H) | (have H2_ := (Option.bind_some _ _).symm.trans H; rw [hy662]; with_reducible exact H2_) | (have H2_ := (Option.bind_some _ _).symm.trans H; with_reducible exact H2_) | with_reducible exact H | (rw [hy662]; exact H) | exact H
                                                                have Ny662 := Aside0.mk hy662
                                                                clear hy662
                                                                have H' := Aside0.mk H
                                                                clear H
                                                                obtain ⟨Ao49, co49, eo49⟩ := Kd.R_slice HO_6.out
                                                                subst eo49
                                                                have p657 : 0 ≤ (x9_5 : Int) := of_decide_eq_true (by first | (with_reducible assumption) | assumption)
                                                                have q657 : x9_5 < (x6_6.length : Int) := of_decide_eq_true (by first | (with_reducible assumption) | assumption)
                                                                obtain ⟨ad657, e657, hx657_0⟩ := Kd.at_int (Kd.R_reads' HO_6.out).2.2 x9_5 p657 q657
                                                                cases e657
                                                                replace p657 := eq_true p657
                                                                replace q657 := eq_true q657
                                                                have p658 : 0 ≤ (x10_6 : Int) := of_decide_eq_true (by first | (with_reducible assumption) | assumption)
                                                                have q658 : x10_6 < (l0.length : Int) := of_decide_eq_true (by first | (with_reducible assumption) | assumption)
                                                                obtain ⟨ad658, e658, hx658_0⟩ := Kd.at_int HR0.out x10_6 p658 q658
                                                                cases e658
                                                                (try replace hx658_0 := (HB.out.cell (World.block_lt_of_cell? w _ hx658_0)).trans hx658_0)
                                                                replace p658 := eq_true p658
                                                                replace q658 := eq_true q658
                                                                have p659 : 0 ≤ ((ji39) : Int) := of_decide_eq_true (by first | (with_reducible assumption) | assumption)
                                                                have q659 : (ji39) < (x6_6.length : Int) := of_decide_eq_true (by first | (with_reducible assumption) | assumption)
                                                                obtain ⟨ad659, e659, hx659_0⟩ := Kd.at_int (Kd.R_reads' HO_6.out).2.2 (ji39) p659 q659
                                                                obtain rfl : ad657 = ad659 := (by injection e659)
                                                                replace p659 := eq_true p659
                                                                replace q659 := eq_true q659
                                                                have p661 : 0 ≤ ((ji39) : Int) := of_decide_eq_true (by first | (with_reducible assumption) | assumption)
                                                                have q661 : (ji39) < (x6_6.length : Int) := of_decide_eq_true (by first | (with_reducible assumption) | assumption)
                                                                obtain ⟨ad661, e661, hx661_0⟩ := Kd.at_int (Kd.R_reads' HO_6.out).2.2 (ji39) p661 q661
                                                                obtain rfl : ad657 = ad661 := (by injection e661)
                                                                replace p661 := eq_true p661
                                                                replace q661 := eq_true q661
                                                                have p48 : 0 ≤ ((ji39) : Int) := of_decide_eq_true (by first | (with_reducible assumption) | assumption)
                                                                have q48 : ((ji39) : Int) < ((x6_6.length : Int) : Int) := of_decide_eq_true (by first | (with_reducible assumption) | assumption)
                                                                obtain ⟨go48, co48, eo48, gb48, gl48, cl48, HG48⟩ := Kd.R_form HO_6.out (by omega)
                                                                (first | cases eo48 | (injection eo48 with ea_ en_ ec_; (first | subst ea_ | (injection ea_ with ea_; subst ea_)); subst ec_; clear en_))
                                                                have GB48 := Aside0.mk gb48
                                                                have GG48 := Aside0.mk HG48
                                                                clear gb48 gl48 HG48
                                                                (first | simp only [add_plain] at hx657_0 | skip)
                                                                (first | simp only [add_plain] at hx659_0 | skip)
                                                                (first | simp only [add_plain] at hx661_0 | skip)
                                                                obtain ⟨hx48_0, hf48_0⟩ := Kd.R_celln 0 HO_6.out ((ji39) : Int) p48 q48
                                                                replace p48 := eq_true p48
                                                                replace q48 := eq_true q48
                                                                have HP50 := Kd.R_putg HO_6.out ((ji39) : Int) (wrap64 ((rd x6_6 x9_5) + (rd l0 x10_6)))
                                                                go_wp2_with (first | ((with_reducible refine gate_store (t := 3) (p := 95) rfl ?_); (try (rw [drewN_self wc]; generalize hq_ : World.drewN wc _ = wc; have n0_ := Aside0.mk (Kd.R_at hq_ HO_6.out); have n1_ := Aside0.mk (below_at hq_ HB.out); clear hq_ HO_6 HB; have HO_6 := n0_; have HB := n1_; clear n0_ n1_; (try (have HP50 := Kd.R_putg HO_6.out ((ji39) : Int) (wrap64 ((rd x6_6 x9_5) + (rd l0 x10_6))))); (try (obtain ⟨hxr_, hfr_⟩ := Kd.R_celln 0 HO_6.out ((ji39) : Int) (of_eq_true (by first | (with_reducible assumption) | assumption)) (of_eq_true (by first | (with_reducible assumption) | assumption)))))); refine store_event (t := 3) (p := 95) (v := ?vo_w51) (w1 := (wc.setCell ⟨go48, ((ji39) : Int).toNat, none⟩ (.int .i64 (wrap64 ((rd x6_6 x9_5) + (rd l0 x10_6)))))) ?hg ?ho ?hn ?hr ?_; (case ho => rfl); (case hg => rfl); (case hn => rfl); (case hr => first | (go_simp; done) | (go_simp; rfl)); intro w51 hw; have hg : wc.grownBy w51 (some go48) := (by rw [hw]; exact HP50.2); have hp_ : Kd.R (Kd.int .i64) 3 w51 w.heap.size (fun _ => True) (.slice (some ⟨go48, 0, none⟩) x6_6.length co49) y662 := (by rw [hw, Ny662.out]; exact HP50.1); clear HP50; have n0_ := Aside0.mk (hp_); have n1_ := Aside0.mk ((by rw [hw]; exact below_set (HB.out) GB48.out : Below w.heap.size w w51)); clear HO_6; clear HB; have HO_6 := n0_; have HB := n1_; clear n0_ n1_; clear hg hw hp_))
                                                                repeat (go_quiet (first | ((with_reducible refine gate_store (t := 3) (p := 95) rfl ?_); (try (rw [drewN_self wc]; generalize hq_ : World.drewN wc _ = wc; have n0_ := Aside0.mk (Kd.R_at hq_ HO_6.out); have n1_ := Aside0.mk (below_at hq_ HB.out); clear hq_ HO_6 HB; have HO_6 := n0_; have HB := n1_; clear n0_ n1_; (try (have HP50 := Kd.R_putg HO_6.out ((ji39) : Int) (wrap64 ((rd x6_6 x9_5) + (rd l0 x10_6))))); (try (obtain ⟨hxr_, hfr_⟩ := Kd.R_celln 0 HO_6.out ((ji39) : Int) (of_eq_true (by first | (with_reducible assumption) | assumption)) (of_eq_true (by first | (with_reducible assumption) | assumption)))))); refine store_event (t := 3) (p := 95) (v := ?vo_w51) (w1 := (wc.setCell ⟨go48, ((ji39) : Int).toNat, none⟩ (.int .i64 (wrap64 ((rd x6_6 x9_5) + (rd l0 x10_6)))))) ?hg ?ho ?hn ?hr ?_; (case ho => rfl); (case hg => rfl); (case hn => rfl); (case hr => first | (go_simp; done) | (go_simp; rfl)); intro w51 hw; have hg : wc.grownBy w51 (some go48) := (by rw [hw]; exact HP50.2); have hp_ : Kd.R (Kd.int .i64) 3 w51 w.heap.size (fun _ => True) (.slice (some ⟨go48, 0, none⟩) x6_6.length co49) y662 := (by rw [hw, Ny662.out]; exact HP50.1); clear HP50; have n0_ := Aside0.mk (hp_); have n1_ := Aside0.mk ((by rw [hw]; exact below_set (HB.out) GB48.out : Below w.heap.size w w51)); clear HO_6; clear HB; have HO_6 := n0_; have HB := n1_; clear n0_ n1_; clear hg hw hp_)); try go_wp2_with (first | ((with_reducible refine gate_store (t := 3) (p := 95) rfl ?_); (try (rw [drewN_self wc]; generalize hq_ : World.drewN wc _ = wc; have n0_ := Aside0.mk (Kd.R_at hq_ HO_6.out); have n1_ := Aside0.mk (below_at hq_ HB.out); clear hq_ HO_6 HB; have HO_6 := n0_; have HB := n1_; clear n0_ n1_; (try (have HP50 := Kd.R_putg HO_6.out ((ji39) : Int) (wrap64 ((rd x6_6 x9_5) + (rd l0 x10_6))))); (try (obtain ⟨hxr_, hfr_⟩ := Kd.R_celln 0 HO_6.out ((ji39) : Int) (of_eq_true (by first | (with_reducible assumption) | assumption)) (of_eq_true (by first | (with_reducible assumption) | assumption)))))); refine store_event (t := 3) (p := 95) (v := ?vo_w51) (w1 := (wc.setCell ⟨go48, ((ji39) : Int).toNat, none⟩ (.int .i64 (wrap64 ((rd x6_6 x9_5) + (rd l0 x10_6)))))) ?hg ?ho ?hn ?hr ?_; (case ho => rfl); (case hg => rfl); (case hn => rfl); (case hr => first | (go_simp; done) | (go_simp; rfl)); intro w51 hw; have hg : wc.grownBy w51 (some go48) := (by rw [hw]; exact HP50.2); have hp_ : Kd.R (Kd.int .i64) 3 w51 w.heap.size (fun _ => True) (.slice (some ⟨go48, 0, none⟩) x6_6.length co49) y662 := (by rw [hw, Ny662.out]; exact HP50.1); clear HP50; have n0_ := Aside0.mk (hp_); have n1_ := Aside0.mk ((by rw [hw]; exact below_set (HB.out) GB48.out : Below w.heap.size w w51)); clear HO_6; clear HB; have HO_6 := n0_; have HB := n1_; clear n0_ n1_; clear hg hw hp_)))
                                                                go_roundg kj27
                                                                case measure => have := HJ2.out; have := HK2.out; have := HK3.out; have := HK4.out; have := HK5.out; have := HK6.out; have := HJ27.out; omega
                                                                case rel => exact ⟨(y662), (true), (wrap64 (x10_6 + 1)), (by first | rfl | (simp; done) | (simp [*]; done)), (by first | rfl | (simp; done) | (simp [*]; done)), H', ⟨by have := HJ2.out; have := HK2.out; have := HK3.out; have := HK4.out; have := HK5.out; have := HK6.out; have := HJ27.out; omega⟩, ⟨by (with_reducible repeat (first | apply Kd.R_alloc | apply Kd.R_drewN | apply Kd.R_drew)); exact HO_6.out⟩, ⟨by repeat (first | (with_reducible first | exact HB.out | apply below_alloc | apply pw_below_drewN | apply below_drew1) | exact HB.out)⟩⟩
                                                              · rw [if_neg c47] at H
                                                                have c47b0 : decide ((wrap64 ((rd x6_6 x9_5) + (rd l0 x10_6))) < (rd x6_6 (ji39))) = false := decide_eq_false c47
                                                                clear c47
                                                                have H' := Aside0.mk H
                                                                clear H
                                                                obtain ⟨Ao52, co52, eo52⟩ := Kd.R_slice HO_6.out
                                                                subst eo52
                                                                have p657 : 0 ≤ (x9_5 : Int) := of_decide_eq_true (by first | (with_reducible assumption) | assumption)
                                                                have q657 : x9_5 < (x6_6.length : Int) := of_decide_eq_true (by first | (with_reducible assumption) | assumption)
                                                                obtain ⟨ad657, e657, hx657_0⟩ := Kd.at_int (Kd.R_reads' HO_6.out).2.2 x9_5 p657 q657
                                                                cases e657
                                                                replace p657 := eq_true p657
                                                                replace q657 := eq_true q657
                                                                have p658 : 0 ≤ (x10_6 : Int) := of_decide_eq_true (by first | (with_reducible assumption) | assumption)
                                                                have q658 : x10_6 < (l0.length : Int) := of_decide_eq_true (by first | (with_reducible assumption) | assumption)
                                                                obtain ⟨ad658, e658, hx658_0⟩ := Kd.at_int HR0.out x10_6 p658 q658
                                                                cases e658
                                                                (try replace hx658_0 := (HB.out.cell (World.block_lt_of_cell? w _ hx658_0)).trans hx658_0)
                                                                replace p658 := eq_true p658
                                                                replace q658 := eq_true q658
                                                                have p659 : 0 ≤ ((ji39) : Int) := of_decide_eq_true (by first | (with_reducible assumption) | assumption)
                                                                have q659 : (ji39) < (x6_6.length : Int) := of_decide_eq_true (by first | (with_reducible assumption) | assumption)
                                                                obtain ⟨ad659, e659, hx659_0⟩ := Kd.at_int (Kd.R_reads' HO_6.out).2.2 (ji39) p659 q659
                                                                obtain rfl : ad657 = ad659 := (by injection e659)
                                                                replace p659 := eq_true p659
                                                                replace q659 := eq_true q659
                                                                have p661 : 0 ≤ ((ji39) : Int) := of_decide_eq_true (by first | (with_reducible assumption) | assumption)
                                                                have q661 : (ji39) < (x6_6.length : Int) := of_decide_eq_true (by first | (with_reducible assumption) | assumption)
                                                                obtain ⟨ad661, e661, hx661_0⟩ := Kd.at_int (Kd.R_reads' HO_6.out).2.2 (ji39) p661 q661
                                                                obtain rfl : ad657 = ad661 := (by injection e661)
                                                                replace p661 := eq_true p661
                                                                replace q661 := eq_true q661
                                                                go_wp2
                                                                repeat (go_quiet (fail); try go_wp2)
                                                                go_roundg kj27
                                                                case measure => have := HJ2.out; have := HK2.out; have := HK3.out; have := HK4.out; have := HK5.out; have := HK6.out; have := HJ27.out; omega
                                                                case rel => exact ⟨(x6_6), (x8_6), (wrap64 (x10_6 + 1)), (by first | rfl | (simp; done) | (simp [*]; done)), (by first | rfl | (simp; done) | (simp [*]; done)), H', ⟨by have := HJ2.out; have := HK2.out; have := HK3.out; have := HK4.out; have := HK5.out; have := HK6.out; have := HJ27.out; omega⟩, ⟨by (with_reducible repeat (first | apply Kd.R_alloc | apply Kd.R_drewN | apply Kd.R_drew)); exact HO_6.out⟩, ⟨by repeat (first | (with_reducible first | exact HB.out | apply below_alloc | apply pw_below_drewN | apply below_drew1) | exact HB.out)⟩⟩
                                                          · rw [if_neg c41] at H
                                                            exact absurd H (by simp)
                                                        · rw [if_neg c40] at H
                                                          exact absurd H (by simp)
                                                    · rw [if_neg c37] at H
                                                      exact absurd H (by simp)
                                                  · rw [if_neg c36] at H
                                                    exact absurd H (by simp)
                                                · rw [if_neg c35] at H
                                                  exact absurd H (by simp)
                                              · rw [if_neg c34] at H
                                                exact absurd H (by simp)
                                            · replace c33 := Bool.eq_false_iff.mpr c33
                                              subst c33
                                              have H1 : (spec_LeastInSum.l3 kj27 l0 a1 x6_6 x8_6 (wrap64 (x9_5 + 1))) = some r := by rw [if_neg (show ¬ (false = true) by decide)] at H; exact H
                                              clear H
                                              have H := H1
                                              clear H1
                                              have H' := Aside0.mk H
                                              clear H
                                              go_wp2
                                              repeat (go_quiet (fail); try go_wp2)
                                              go_roundg kj27
                                              case measure => have := HJ2.out; have := HK2.out; have := HK3.out; have := HK4.out; have := HK5.out; have := HK6.out; have := HJ27.out; omega
                                              case rel => exact ⟨(x6_6), (x8_6), (wrap64 (x9_5 + 1)), (by first | rfl | (simp; done) | (simp [*]; done)), (by first | rfl | (simp; done) | (simp [*]; done)), H', ⟨by have := HJ2.out; have := HK2.out; have := HK3.out; have := HK4.out; have := HK5.out; have := HK6.out; have := HJ27.out; omega⟩, ⟨by (with_reducible repeat (first | apply Kd.R_alloc | apply Kd.R_drewN | apply Kd.R_drew)); exact HO_6.out⟩, ⟨by repeat (first | (with_reducible first | exact HB.out | apply below_alloc | apply pw_below_drewN | apply below_drew1) | exact HB.out)⟩⟩
                                  · rw [if_neg c27] at H
                                    have c27b0 : decide (x9_5 < a1) = false := decide_eq_false c27
                                    clear c27
                                    have H' := Aside0.mk H
                                    clear H
                                    go_wp2
                                    repeat (go_quiet (fail); try go_wp2)
                                    go_roundg k5
                                    case measure => have := HJ2.out; have := HK2.out; have := HK3.out; have := HK4.out; have := HK5.out; omega
                                    case rel => exact ⟨(x6_5), (x8_5), (by first | rfl | (simp; done) | (simp [*]; done)), H', ⟨by have := HJ2.out; have := HK2.out; have := HK3.out; have := HK4.out; have := HK5.out; omega⟩, ⟨by (with_reducible repeat (first | apply Kd.R_alloc | apply Kd.R_drewN | apply Kd.R_drew)); exact HO_6.out⟩, ⟨by repeat (first | (with_reducible first | exact HB.out | apply below_alloc | apply pw_below_drewN | apply below_drew1) | exact HB.out)⟩⟩
                            · replace c26 := Bool.eq_false_iff.mpr c26
                              subst c26
                              have H1 : (some x6_4) = some r := by rw [if_neg (show ¬ (false = true) by decide)] at H; exact H
                              clear H
                              have H := H1
                              clear H1
                              obtain rfl := Option.some.inj H
                              go_wp2
                              repeat (go_quiet (fail); try go_wp2)
                              go_ret
                              exact ⟨_, by first | rfl | (simp [errW_none, errW_some] <;> rfl) | (simp [*, errW_none, errW_some] <;> rfl), by (with_reducible repeat (first | apply Kd.R_alloc | apply Kd.R_drewN | apply Kd.R_drew)); exact HO_6.out, by repeat (first | (with_reducible first | exact HB.out | apply below_alloc | apply pw_below_drewN | apply below_drew1) | exact HB.out)⟩
                · rw [if_neg c17] at H
                  exact absurd H (by simp)
              · rw [if_neg c16] at H
                exact absurd H (by simp)
end Go.Proofs.Ytkifakepmomgfaa.PA
end
