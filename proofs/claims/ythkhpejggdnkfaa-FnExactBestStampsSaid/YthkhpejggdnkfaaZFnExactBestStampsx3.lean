-- Bundled by shake.py from this session's printed and written texts; Lean checks it.
import Derived.Test.YthkhpejggdnkfaaZFnExactBestStampsx0
import Derived.Test.YthkhpejggdnkfaaZFnExactBestStampsx1
import Derived.Test.YthkhpejggdnkfaaZFnExactBestStampsx2
section
namespace Go.Proofs.Ythkhpejggdnkfaa.PB
open Go.RowKit Go.Proofs.YthkhpejggdnkfaaW.PrintWords Go.Proofs.YthkhpejggdnkfaaW.PrintLast Go.Proofs.YthkhpejggdnkfaaW.PrintMore
set_option linter.unusedVariables false
set_option linter.unusedSimpArgs false
mutual
def impl_ReachOf.j0 : Nat → List Int → Int → Bool → Option (Int)
 | 0, _, _, _ => none
 | k + 1, x0, x1, x14 => if x14 = true then (some (-1)) else ((impl_fewest.f k x0 361).bind fun t295 => (if 0 ≤ (x0.length : Int) then (if (x0.length : Int) < (t295.length : Int) then (impl_ReachOf.l0 k x1 (rd_L2 t295 (x0.length : Int)) 0) else (none)) else (none)))
def impl_ReachOf.l0 : Nat → Int → List Int → Int → Option (Int)
 | 0, _, _, _ => none
 | k + 1, x1, x5, x6 => if 0 ≤ (wrap64 (x6 + 1)) then (if (wrap64 (x6 + 1)) < (x5.length : Int) then (if (rd x5 (wrap64 (x6 + 1))) ≥ 0 then (if (rd x5 (wrap64 (x6 + 1))) ≤ x1 then (impl_ReachOf.l0 k x1 x5 (wrap64 (x6 + 1))) else (some x6)) else (some x6)) else (none)) else (none)
end
def impl_ReachOf.f (k : Nat) (l0 : List Int) (a1 : Int) : Option (Int) := (impl_AreStamps.f k l0).bind fun t293 => (if t293 = true then ((impl_within.f a1 1 6).bind fun t294 => (impl_ReachOf.j0 k l0 a1 (!t294))) else (impl_ReachOf.j0 k l0 a1 true))
set_option maxHeartbeats 8000000 in
set_option maxRecDepth 100000 in
theorem impl_ReachOf.calls (k : Nat) (A0 : Option Addr) (c0 : Nat) (l0 : List Int) (a1 : Int) (r : Int) (w : World) (hr0 : Kd.C (Kd.int .i64) w A0 l0.length l0) (hc0 : l0.length ≤ c0) (h : impl_ReachOf.f k l0 a1 = some r) :
 Calls Try.prog 15 #[.slice A0 l0.length c0, .int .i64 a1] w fun e w' => e = .returned (.int .i64 r) ∧ Below w.heap.size w w' := by
 have HR0 := Aside0.mk hr0
 have HC0 := Aside0.mk hc0
 clear hr0 hc0
 have HB := Aside0.mk (Below.refl w.heap.size w)
 have H : ((impl_AreStamps.f k l0).bind fun t293 => (if t293 = true then ((impl_within.f a1 1 6).bind fun t294 => (impl_ReachOf.j0 k l0 a1 (!t294))) else (impl_ReachOf.j0 k l0 a1 true))) = some r := h
 clear h
 have HC3 := Aside0.mk H
 clear H
 go_enter Try.func15, Try.ntmps15
 go_upto_region 1 with (fail)
 go_cut [14] (fun v14 wc => ∃ (kq : Nat) (x14_2 : Bool), v14 = .bool x14_2 ∧ Aside0 (impl_ReachOf.j0 kq l0 a1 x14_2 = some r) ∧ Aside0 (kq ≤ k) ∧ Aside0 (Below w.heap.size w wc))
 case first =>
  have H := HC3.out
  clear HC3
  replace H := Option.bind_eq_some_iff.mp H
  obtain ⟨t293, A40, H⟩ := H
  replace H : (if t293 = true then ((impl_within.f a1 1 6).bind fun t294 => (impl_ReachOf.j0 k l0 a1 (!t294))) else (impl_ReachOf.j0 k l0 a1 true)) = some r := H
  have A4 := Aside0.mk A40
  clear A40
  by_cases c5 : t293 = true
  · subst c5
    have H1 : ((impl_within.f a1 1 6).bind fun t294 => (impl_ReachOf.j0 k l0 a1 (!t294))) = some r := by rw [if_pos rfl] at H; exact H
    clear H
    have H := H1
    clear H1
    replace H := Option.bind_eq_some_iff.mp H
    obtain ⟨t294, A60, H⟩ := H
    replace H : (impl_ReachOf.j0 k l0 a1 (!t294)) = some r := H
    have A6 := Aside0.mk A60
    clear A60
    have H' := Aside0.mk H
    clear H
    go_wp2_with (first | ((with_reducible refine gate_callee (f := 22) rfl ?_); refine goesL_ (some 8) rfl rfl Try.func22 (by kernel_rfl) rfl #[.slice A0 l0.length c0] rfl (by (try simp only [List.map_toArray, List.map_cons, List.map_nil]); first | done | rfl | (simp only [List.length_drop, List.length_take]; rfl)) ?_; (with_reducible refine (impl_AreStamps.calls k _ _ l0 true _ ?side1 ?side2 A4.out).mono ?_); (case side1 => exact ce_ ((Kd.C_below HR0.out HB.out))); (case side2 => exact HC0.out); rintro e w' ⟨rfl, ⟨nd, rfl⟩⟩; refine ⟨_, rfl, ?_⟩) | (go_at_call 39; (with_reducible refine (impl_within.calls a1 1 6 t294 _ A6.out).mono ?_); rintro e w' ⟨rfl, ⟨nd, rfl⟩⟩))
    go_meet
    case rel => exact ⟨_, (!t294), (by first | rfl | (simp; done) | (simp [*]; done)), H', ⟨by first | omega | exact Nat.le_refl _⟩, ⟨bl_ HB.out⟩⟩
  · replace c5 := Bool.eq_false_iff.mpr c5
    subst c5
    have H1 : (impl_ReachOf.j0 k l0 a1 true) = some r := by rw [if_neg (show ¬ (false = true) by decide)] at H; exact H
    clear H
    have H := H1
    clear H1
    have H' := Aside0.mk H
    clear H
    go_wp2_with (first | ((with_reducible refine gate_callee (f := 22) rfl ?_); refine goesL_ (some 8) rfl rfl Try.func22 (by kernel_rfl) rfl #[.slice A0 l0.length c0] rfl (by (try simp only [List.map_toArray, List.map_cons, List.map_nil]); first | done | rfl | (simp only [List.length_drop, List.length_take]; rfl)) ?_; (with_reducible refine (impl_AreStamps.calls k _ _ l0 false _ ?side1 ?side2 A4.out).mono ?_); (case side1 => exact ce_ ((Kd.C_below HR0.out HB.out))); (case side2 => exact HC0.out); rintro e w' ⟨rfl, ⟨nd, rfl⟩⟩; refine ⟨_, rfl, ?_⟩))
    go_meet
    case rel => exact ⟨_, (true), (by first | rfl | (simp; done) | (simp [*]; done)), H', ⟨by first | omega | exact Nat.le_refl _⟩, ⟨bl_ HB.out⟩⟩
 case rest =>
  clear HC3
  try clear c1
  try clear c2
  try clear p2
  try clear c5
  obtain ⟨kq, x14_2, rfl, HA, HJ2, HB⟩ := hcut
  cases kq with
  | zero => exact absurd HA.out (by simp [impl_ReachOf.j0])
  | succ kj2 =>
   have H := HA.out
   clear HA
   simp only [impl_ReachOf.j0] at H
   by_cases c7 : x14_2 = true
   · subst c7
     have H1 : (some (-1)) = some r := by rw [if_pos rfl] at H; exact H
     clear H
     have H := H1
     clear H1
     obtain rfl := Option.some.inj H
     go_wp2
     go_ret
     exact ⟨by first | rfl | (simp [errW_none, errW_some] <;> rfl) | (simp [*, errW_none, errW_some] <;> rfl), bl_ HB.out⟩
   · replace c7 := Bool.eq_false_iff.mpr c7
     subst c7
     have H1 : ((impl_fewest.f kj2 l0 361).bind fun t295 => (if 0 ≤ (l0.length : Int) then (if (l0.length : Int) < (t295.length : Int) then (impl_ReachOf.l0 kj2 a1 (rd_L2 t295 (l0.length : Int)) 0) else (none)) else (none))) = some r := by rw [if_neg (show ¬ (false = true) by decide)] at H; exact H
     clear H
     have H := H1
     clear H1
     replace H := Option.bind_eq_some_iff.mp H
     obtain ⟨t295, A80, H⟩ := H
     replace H : (if 0 ≤ (l0.length : Int) then (if (l0.length : Int) < (t295.length : Int) then (impl_ReachOf.l0 kj2 a1 (rd_L2 t295 (l0.length : Int)) 0) else (none)) else (none)) = some r := H
     have A8 := Aside0.mk A80
     clear A80
     by_cases c9 : 0 ≤ (l0.length : Int)
     · rw [if_pos c9] at H
       have c9b0 : decide (0 ≤ (l0.length : Int)) = true := decide_eq_true c9
       have c9b1 : decide (0 ≤ l0.length) = true := decide_eq_true (by omega)
       clear c9
       by_cases c10 : (l0.length : Int) < (t295.length : Int)
       · rw [if_pos c10] at H
         have c10b0 : decide ((l0.length : Int) < (t295.length : Int)) = true := decide_eq_true c10
         have c10b1 : decide (l0.length < t295.length) = true := decide_eq_true (Int.ofNat_lt.mp c10)
         clear c10
         have H' := Aside0.mk H
         clear H
         go_wp2_with (first | ((with_reducible refine gate_callee (f := 45) rfl ?_); refine goesL_ (some 16) rfl rfl Try.func45 (by kernel_rfl) rfl #[.slice A0 l0.length c0, .int .i64 361] rfl (by (try simp only [List.map_toArray, List.map_cons, List.map_nil]); first | done | rfl | (simp only [List.length_drop, List.length_take]; rfl)) ?_; (with_reducible refine (impl_fewest.calls kj2 _ _ l0 361 t295 _ ?side1 ?side2 A8.out).mono ?_); (case side1 => exact ce_ ((Kd.C_below HR0.out HB.out))); (case side2 => exact HC0.out); rintro e w11 ⟨v296, rfl, ho0, hb⟩; refine ⟨_, rfl, ?_⟩; have n0_ := Aside0.mk (Kd.N_lower (Kd.N_mono (ok' := fun k_ => True) ho0 (fun k_ hk_ => trivial)) (below_size (bl_ HB.out))); have n1_ := Aside0.mk (below_step (bl_ HB.out) hb); clear HB; have HO297 := n0_; have HB := n1_; clear n0_ n1_; (try clear hb); (try clear hb2); (try clear hk); (try clear hi); (try clear ho0); obtain ⟨Ao12, co12, eo12⟩ := Kd.N_slice HO297.out; subst eo12; have p298 : 0 ≤ ((l0.length : Int) : Int) := of_decide_eq_true (by first | (with_reducible assumption) | assumption); have q298 : (l0.length : Int) < (t295.length : Int) := of_decide_eq_true (by first | (with_reducible assumption) | assumption); obtain ⟨ad298, A298_0, c298_0, e298, hx298_0, hl298_0, hi298_0⟩ := at_L2 (Kd.N_reads' HO297.out).2.2 (l0.length : Int) p298 q298; cases e298; obtain ⟨ce298, hce298, hMe298, hcc298⟩ := Kd.N_get HO297.out [] (l0.length : Int) p298 (by first | exact q298 | exact of_decide_eq_true (by first | (with_reducible assumption) | assumption) | (have e_ := (Kd.N_reads' HO297.out).1; omega)); obtain ⟨ua298_0, uc298_0, rfl, ul298_0, ge298_0⟩ := Kd.FK_slice_open hMe298; have hv298_0 := hcc298 0 _ rfl; rw [Nat.add_zero, show ((Kd.slice 3 (Kd.int .i64))).sz = 1 from rfl, Nat.mul_one] at hv298_0; replace hv298_0 := Option.some.inj (hv298_0.symm.trans hx298_0); injection hv298_0 with hva_ hvn_ hvc_; rw [hva_] at ge298_0; rw [hvc_] at ul298_0; have HL298_0 := Aside0.mk (show Kd.V (Kd.int .i64) 3 _ w.heap.size _ _ (rd_L2 t295 (l0.length : Int)) from Kd.V_mk ul298_0 ge298_0); clear hva_ hvn_ hvc_ ge298_0 ul298_0; clear hcc298 hce298; have HR298_0 := Aside0.mk hi298_0; have HC298_0 := Aside0.mk hl298_0; clear hi298_0 hl298_0; (try simp only [Go.IntWalk.toNatUp] at hx298_0); replace p298 := eq_true p298; replace q298 := eq_true q298))
         go_loopg [6] kj2 (fun kq v6 w' => ∃ (x6_2 : Int), v6 = .int .i64 x6_2 ∧ Aside0 (impl_ReachOf.l0 kq a1 (rd_L2 t295 (l0.length : Int)) x6_2 = some r) ∧ Aside0 (kq ≤ kj2) ∧ Aside0 (Kd.C (Kd.int .i64) w' A298_0 (rd_L2 t295 (l0.length : Int)).length (rd_L2 t295 (l0.length : Int))) ∧ Aside0 (Below w.heap.size w w'))
         case atStart => exact ⟨(0), (by first | rfl | (simp; done) | (simp [*]; done)), H', ⟨Nat.le_refl _⟩, ⟨by repeat (first | (with_reducible exact HR298_0.out) | (with_reducible refine Kd.C_alloc ?_ _) | (with_reducible refine Kd.C_drewN ?_ _) | (with_reducible refine Kd.C_drew ?_) | exact HR298_0.out)⟩, ⟨bl_ HB.out⟩⟩
         case round =>
          clear H'
          try clear c1
          try clear c2
          try clear p2
          try clear q2
          try clear hx2
          try clear c4
          try clear c5
          try clear c7
          try clear c9
          try clear c9b0
          try clear c9b1
          try clear c10
          try clear c10b0
          try clear c10b1
          try clear hx298_0
          try clear p2
          try clear p298
          try clear q298
          obtain ⟨x6_2, rfl, HA, HK2, HR298_0, HB⟩ := hrel
          cases gk with
          | zero => exact absurd HA.out (by simp [impl_ReachOf.l0])
          | succ k2 =>
           have H := HA.out
           clear HA
           simp only [impl_ReachOf.l0] at H
           obtain ⟨ji13, hji13⟩ : ∃ j_ : Int, (wrap64 (x6_2 + 1)) = j_ := ⟨_, rfl⟩
           replace H : (if 0 ≤ (ji13) then (if (ji13) < ((rd_L2 t295 (l0.length : Int)).length : Int) then (if (rd (rd_L2 t295 (l0.length : Int)) (ji13)) ≥ 0 then (if (rd (rd_L2 t295 (l0.length : Int)) (ji13)) ≤ a1 then (impl_ReachOf.l0 k2 a1 (rd_L2 t295 (l0.length : Int)) ji13) else (some x6_2)) else (some x6_2)) else (none)) else (none)) = some r := by first | (rw [hji13] at H; exact H) | (simp only [hji13] at H ⊢; exact H)
           have hji13w : (IntKind.i64.wrap (x6_2 + 1)) = ji13 := (i64_w _).trans hji13
           by_cases c14 : 0 ≤ (ji13)
           · rw [if_pos c14] at H
             have c14b0 : decide (0 ≤ (ji13)) = true := decide_eq_true c14
             clear c14
             by_cases c15 : (ji13) < ((rd_L2 t295 (l0.length : Int)).length : Int)
             · rw [if_pos c15] at H
               have c15b0 : decide ((ji13) < ((rd_L2 t295 (l0.length : Int)).length : Int)) = true := decide_eq_true c15
               clear c15
               by_cases c16 : (rd (rd_L2 t295 (l0.length : Int)) (ji13)) ≥ 0
               · rw [if_pos c16] at H
                 have c16b0 : decide (0 ≤ (rd (rd_L2 t295 (l0.length : Int)) (ji13))) = true := decide_eq_true c16
                 clear c16
                 by_cases c17 : (rd (rd_L2 t295 (l0.length : Int)) (ji13)) ≤ a1
                 · rw [if_pos c17] at H
                   have c17b0 : decide ((rd (rd_L2 t295 (l0.length : Int)) (ji13)) ≤ a1) = true := decide_eq_true c17
                   clear c17
                   have H' := Aside0.mk H
                   clear H
                   have p299 : 0 ≤ ((ji13) : Int) := of_decide_eq_true (by first | (with_reducible assumption) | assumption)
                   have q299 : (ji13) < ((rd_L2 t295 (l0.length : Int)).length : Int) := of_decide_eq_true (by first | (with_reducible assumption) | assumption)
                   obtain ⟨ad299, e299, hx299_0⟩ := Kd.at_int HR298_0.out (ji13) p299 q299
                   cases e299
                   (try replace hx299_0 := (HB.out.cell (World.block_lt_of_cell? w _ hx299_0)).trans hx299_0)
                   replace p299 := eq_true p299
                   replace q299 := eq_true q299
                   have p300 : 0 ≤ ((ji13) : Int) := of_decide_eq_true (by first | (with_reducible assumption) | assumption)
                   have q300 : (ji13) < ((rd_L2 t295 (l0.length : Int)).length : Int) := of_decide_eq_true (by first | (with_reducible assumption) | assumption)
                   obtain ⟨ad300, e300, hx300_0⟩ := Kd.at_int HR298_0.out (ji13) p300 q300
                   obtain rfl : ad299 = ad300 := (by injection e300)
                   (try replace hx300_0 := (HB.out.cell (World.block_lt_of_cell? w _ hx300_0)).trans hx300_0)
                   replace p300 := eq_true p300
                   replace q300 := eq_true q300
                   go_wp2
                   go_roundg k2
                   case measure => have := HJ2.out; have := HK2.out; omega
                   case rel => exact ⟨(ji13), (by first | rfl | (simp; done) | (simp only [← hji13] <;> (first | rfl | simp)) | (simp [*]; done)), H', ⟨by have := HJ2.out; have := HK2.out; omega⟩, ⟨by repeat (first | (with_reducible exact HR298_0.out) | (with_reducible refine Kd.C_alloc ?_ _) | (with_reducible refine Kd.C_drewN ?_ _) | (with_reducible refine Kd.C_drew ?_) | exact HR298_0.out)⟩, ⟨bl_ HB.out⟩⟩
                 · rw [if_neg c17] at H
                   have c17b0 : decide ((rd (rd_L2 t295 (l0.length : Int)) (ji13)) ≤ a1) = false := decide_eq_false c17
                   clear c17
                   obtain rfl := Option.some.inj H
                   have p299 : 0 ≤ ((ji13) : Int) := of_decide_eq_true (by first | (with_reducible assumption) | assumption)
                   have q299 : (ji13) < ((rd_L2 t295 (l0.length : Int)).length : Int) := of_decide_eq_true (by first | (with_reducible assumption) | assumption)
                   obtain ⟨ad299, e299, hx299_0⟩ := Kd.at_int HR298_0.out (ji13) p299 q299
                   cases e299
                   (try replace hx299_0 := (HB.out.cell (World.block_lt_of_cell? w _ hx299_0)).trans hx299_0)
                   replace p299 := eq_true p299
                   replace q299 := eq_true q299
                   have p300 : 0 ≤ ((ji13) : Int) := of_decide_eq_true (by first | (with_reducible assumption) | assumption)
                   have q300 : (ji13) < ((rd_L2 t295 (l0.length : Int)).length : Int) := of_decide_eq_true (by first | (with_reducible assumption) | assumption)
                   obtain ⟨ad300, e300, hx300_0⟩ := Kd.at_int HR298_0.out (ji13) p300 q300
                   obtain rfl : ad299 = ad300 := (by injection e300)
                   (try replace hx300_0 := (HB.out.cell (World.block_lt_of_cell? w _ hx300_0)).trans hx300_0)
                   replace p300 := eq_true p300
                   replace q300 := eq_true q300
                   go_wp2
                   go_ret
                   exact ⟨by first | rfl | (simp [errW_none, errW_some] <;> rfl) | (simp only [← hji13]; first | rfl | (simp [errW_none, errW_some] <;> rfl)) | (simp [*, errW_none, errW_some] <;> rfl), bl_ HB.out⟩
               · rw [if_neg c16] at H
                 have c16b0 : decide (0 ≤ (rd (rd_L2 t295 (l0.length : Int)) (ji13))) = false := decide_eq_false c16
                 clear c16
                 obtain rfl := Option.some.inj H
                 have p299 : 0 ≤ ((ji13) : Int) := of_decide_eq_true (by first | (with_reducible assumption) | assumption)
                 have q299 : (ji13) < ((rd_L2 t295 (l0.length : Int)).length : Int) := of_decide_eq_true (by first | (with_reducible assumption) | assumption)
                 obtain ⟨ad299, e299, hx299_0⟩ := Kd.at_int HR298_0.out (ji13) p299 q299
                 cases e299
                 (try replace hx299_0 := (HB.out.cell (World.block_lt_of_cell? w _ hx299_0)).trans hx299_0)
                 replace p299 := eq_true p299
                 replace q299 := eq_true q299
                 go_wp2
                 go_ret
                 exact ⟨by first | rfl | (simp [errW_none, errW_some] <;> rfl) | (simp only [← hji13]; first | rfl | (simp [errW_none, errW_some] <;> rfl)) | (simp [*, errW_none, errW_some] <;> rfl), bl_ HB.out⟩
             · rw [if_neg c15] at H
               exact absurd H (by simp)
           · rw [if_neg c14] at H
             exact absurd H (by simp)
       · rw [if_neg c10] at H
         exact absurd H (by simp)
     · rw [if_neg c9] at H
       exact absurd H (by simp)
def rng (a : Int) : Nat → List Int
 | 0 => []
 | n + 1 => a :: rng (a + 1) n
def lst (p : List Int) : Int := rd p ((p.length : Int) - 1)
def nexts (l : List Int) : List Int := if l = [] then [1] else rng (lst l + 1) (60 - lst l).toNat
def impl_see.f (k : Nat) (h : Int) (st : List Int × Int) (l : List Int) : Option (List Int × Int) := (impl_ReachOf.f k l h).bind fun n => some (if n > st.2 then (l, n) else st)
def impl_raised.f (k : Nat) (h : Int) : Nat → List Int → List Int × Int → Option (List Int × Int)
 | 0, l, st => impl_see.f k h st l
 | j + 1, l, st => (nexts l).foldlM (fun st n => impl_raised.f k h j (l ++ [n]) st) st
def impl_BestStamps.f (k : Nat) (a0 : Int) (a1 : Int) : Option (List Int × Int) := if (1 ≤ a0 ∧ a0 ≤ 3) ∧ 1 ≤ a1 ∧ a1 ≤ 4 then impl_raised.f k a1 a0.toNat [] ([], -1) else some ([], 0)
def Two (O M k : Nat) : Prop := k = O ∨ k = M
structure BSt (B O M H : Nat) (h : Int) (w : World) (st : List Int × Int) : Prop where
 out : ∃ v, w.heap[O]? = some (.cells #[v] 22 (0, 0)) ∧ Kd.R (Kd.int .i64) 3 w B (fun k => ¬ Two O M k) v st.1
 most : w.heap[M]? = some (.cells #[.int .i64 st.2] 3 (0, 0))
 hh : w.heap[H]? = some (.cells #[.int .i64 h] 3 (0, 0))
theorem BSt.below {B O M H : Nat} {h : Int} {w w' : World} {st : List Int × Int} (s : BSt B O M H h w st) (hb : Below w.heap.size w w') : BSt B O M H h w' st := by
 obtain ⟨⟨v, h1, h2⟩, h3, h4⟩ := s
 exact ⟨⟨v, blk_below h1 hb, Kd.R_below h2 hb⟩, blk_below h3 hb, blk_below h4 hb⟩
structure BAp (B O M H : Nat) : Prop where
 om : O ≠ M
 ho : H ≠ O
 hm : H ≠ M
 bo : B ≤ O
 bm : B ≤ M
theorem bs_see {k B O M H : Nat} (ap : BAp B O M H) (h : Int) (W : World) (v : Value) (l : List Int) (st st' : List Int × Int) (hS : BSt B O M H h W st) (hl : Kd.R (Kd.int .i64) 3 W B (fun k => ¬ Two O M k) v l) (hf : impl_see.f k h st l = some st') :
 Calls Try.prog 41 #[v, .pointer (some ⟨H, 0, none⟩), .pointer (some ⟨M, 0, none⟩), .pointer (some ⟨O, 0, none⟩)] W fun e w' => e = .returned (.tuple #[]) ∧ BSt B O M H h w' st' ∧ Kept W w' (Two O M) ∧ Below B W w' := by
 obtain ⟨A, c, rfl⟩ := Kd.R_slice hl
 obtain ⟨⟨vo, hO, hR⟩, hM, hH⟩ := hS
 have hcH : W.cell? ⟨H, 0, none⟩ = some (.int .i64 h) := (blk_cell hH 0).trans rfl
 have hBW : B ≤ W.heap.size := Nat.le_trans ap.bo (Nat.le_of_lt (blk_lt hO))
 unfold impl_see.f at hf
 obtain ⟨n, A3, E⟩ := Option.bind_eq_some_iff.mp hf
 clear hf
 have E := Option.some.inj E
 have HL := Aside0.mk hl
 have HR := Aside0.mk hR
 have HO := Aside0.mk hO
 have HM := Aside0.mk hM
 have HH := Aside0.mk hH
 have A3 := Aside0.mk A3
 clear hl hR hO hM hH
 by_cases c1 : n > st.2
 · rw [if_pos c1] at E
   subst E
   have b1 : decide (st.2 < n) = true := decide_eq_true c1
   clear c1
   go_enter Try.func41, Try.ntmps41
   go_wp2_with (first | (go_at_call 15; (with_reducible refine (impl_ReachOf.calls k _ _ l h n _ ?side1 ?side2 A3.out).mono ?_); (case side1 => exact (Kd.R_reads' HL.out).2.2); (case side2 => exact (Kd.R_reads' HL.out).2.1); rintro e w1 ⟨rfl, hb⟩; have hcM : w1.cell? ⟨M, 0, none⟩ = some (.int .i64 st.2) := (blk_cell (blk_below HM.out hb) 0).trans rfl; have hcO : w1.cell? ⟨O, 0, none⟩ = some vo := (blk_cell (blk_below HO.out hb) 0).trans rfl; have hfO : w1.frozen? ⟨O, 0, none⟩ = false := blk_frozen (blk_below HO.out hb) 0; have hfM : (w1.setCell ⟨O, 0, none⟩ (.slice A l.length c)).frozen? ⟨M, 0, none⟩ = false := blk_frozen (blk_far (blk_below HM.out hb) (Ne.symm ap.om) _) 0; have hcM2 : (w1.setCell ⟨O, 0, none⟩ (.slice A l.length c)).cell? ⟨M, 0, none⟩ = some (.int .i64 st.2) := (blk_cell (blk_far (blk_below HM.out hb) (Ne.symm ap.om) _) 0).trans rfl; have HB1 := Aside0.mk hb; clear hb))
   go_end0
   have hb := HB1.out
   have kp : Kept W ((w1.setCell ⟨O, 0, none⟩ (.slice A l.length c)).setCell ⟨M, 0, none⟩ (.int .i64 n)) (Two O M) := ((Kept.of_below hb _).setCell (.inl (.inl rfl)) _).setCell (.inl (.inr rfl)) _
   exact ⟨rfl, ⟨⟨_, blk_far (blk_put (blk_below HO.out hb) 0 _ rfl) ap.om _, Kd.R_kept HL.out kp (fun k hk hs => hk hs)⟩, blk_put (blk_far (blk_below HM.out hb) (Ne.symm ap.om) _) 0 _ rfl, blk_far (blk_far (blk_below HH.out hb) ap.ho _) ap.hm _⟩, kp, ((hb.mono hBW).setCell ap.bo _).setCell ap.bm _⟩
 · rw [if_neg c1] at E
   subst E
   have b1 : decide (st.2 < n) = false := decide_eq_false c1
   clear c1
   go_enter Try.func41, Try.ntmps41
   go_wp2_with (first | (go_at_call 15; (with_reducible refine (impl_ReachOf.calls k _ _ l h n _ ?side1 ?side2 A3.out).mono ?_); (case side1 => exact (Kd.R_reads' HL.out).2.2); (case side2 => exact (Kd.R_reads' HL.out).2.1); rintro e w1 ⟨rfl, hb⟩; have hcM : w1.cell? ⟨M, 0, none⟩ = some (.int .i64 st.2) := (blk_cell (blk_below HM.out hb) 0).trans rfl; have HB1 := Aside0.mk hb; clear hb))
   go_end0
   have hb := HB1.out
   exact ⟨rfl, (BSt.mk ⟨vo, HO.out, HR.out⟩ HM.out HH.out).below hb, Kept.of_below hb _, hb.mono hBW⟩
theorem BSt.olt {B O M H : Nat} {h : Int} {w : World} {st : List Int × Int} (s : BSt B O M H h w st) : O < w.heap.size := by
 obtain ⟨⟨v, h1, h2⟩, h3, h4⟩ := s
 exact blk_lt h1
theorem rowup {B O M : Nat} {w w' : World} {v : Value} {xs ys : List Int} (h : Kd.R (Kd.int .i64) 3 w' w.heap.size (fun _ => True) v xs) (e : xs = ys) (hO : O < w.heap.size) (hM : M < w.heap.size) (hB : B ≤ w.heap.size) (hs : w.heap.size ≤ w'.heap.size) : Kd.R (Kd.int .i64) 3 w' B (fun k => ¬ Two O M k) v ys := by
 subst e
 refine Kd.R_lower (Kd.R_mono (Kd.R_bound h) (fun k hk => ?_)) hB
 have := hk.2.1
 rintro (rfl | rfl) <;> omega
set_option maxHeartbeats 4000000 in
set_option maxRecDepth 100000 in
theorem bs_raised {k B O M H : Nat} (ap : BAp B O M H) (h : Int) (j : Nat) : ∀ (W : World) (v : Value) (l : List Int) (st st' : List Int × Int), BSt B O M H h W st → Kd.R (Kd.int .i64) 3 W B (fun k => ¬ Two O M k) v l → (∀ x ∈ l, 1 ≤ x ∧ x ≤ 60) → l.length + j ≤ 10 → impl_raised.f k h j l st = some st' →
 Calls Try.prog 40 #[v, .int .i64 (j : Int), .func (.func 41) #[] #[.pointer (some ⟨H, 0, none⟩), .pointer (some ⟨M, 0, none⟩), .pointer (some ⟨O, 0, none⟩)]] W fun e w' => e = .returned (.tuple #[]) ∧ BSt B O M H h w' st' ∧ Kept W w' (Two O M) ∧ Below B W w' := by
 have eg : ∀ args w, (callFunc 41 args).run Try.prog w = .ok (.enter 41 args) w := enters_of Try.func41 (by kernel_rfl) rfl
 have hu22 := Try.underlying22
 induction j with
 | zero =>
  intro W v l st st' hS hl hx hn hf
  obtain ⟨A, c, rfl⟩ := Kd.R_slice hl
  have HS := Aside0.mk hS
  have HL := Aside0.mk hl
  have HF := Aside0.mk hf
  clear hS hl hf hx hn
  go_enter Try.func40, Try.ntmps40
  go_wp2_with (first | (go_at_fn 41; refine (bs_see (k := k) ap h _ _ l st st' HS.out HL.out HF.out).mono ?_; rintro e w1 ⟨rfl, hs, hk, hb⟩; have HS1 := Aside0.mk hs; have HK1 := Aside0.mk hk; have HB1 := Aside0.mk hb; clear hs hk hb))
  (try simp only [Exit.inBlock, Exit.then])
  refine bodyPost_ret (results_none rfl _ _ _) rfl ?_
  exact ⟨rfl, HS1.out, HK1.out, HB1.out⟩
 | succ j ih =>
  intro W v l st st' hS hl hx hn hf
  obtain ⟨A, c, rfl⟩ := Kd.R_slice hl
  have hBW : B ≤ W.heap.size := Nat.le_trans ap.bm (Nat.le_of_lt (blk_lt hS.most))
  have IH := Aside0.mk ih
  have HS := Aside0.mk hS
  have HL := Aside0.mk hl
  have HX := Aside0.mk hx
  have HN := Aside0.mk hn
  clear ih hS hl hx hn
  obtain ⟨jj, hjj⟩ : ∃ jj : Int, jj = ((j + 1 : Nat) : Int) := ⟨_, rfl⟩
  rw [← hjj]
  have b0 : (jj == 0) = false := beq_eq_false_iff_ne.mpr (by omega)
  have wj2 : wrap64 (jj - 1) = (j : Int) := by
   have := HN.out
   unfold wrap64; omega
  have wj : IntKind.i64.wrap (jj - 1) = (j : Int) := (i64_w _).trans wj2
  clear hjj
  rw [impl_raised.f] at hf
  by_cases e : l = []
  · subst e
    have HF : Aside0 (impl_raised.f k h j [1] st = some st') := ⟨by
     unfold nexts at hf
     rw [if_pos rfl, List.foldlM_cons] at hf
     obtain ⟨a, a1, a2⟩ := Option.bind_eq_some_iff.mp hf
     rw [List.foldlM_nil] at a2
     rw [← Option.some.inj a2]
     exact a1⟩
    clear hf
    go_enter Try.func40, Try.ntmps40
    go_wp2
    go_loopw [7] (fun n w' => ∃ (nn : Int) (s1 : List Int × Int), n = .int .i64 nn ∧ ((nn = 1 ∧ Aside0 (impl_raised.f k h j [1] s1 = some st')) ∨ (nn = 2 ∧ Aside0 (s1 = st'))) ∧ Aside0 (BSt B O M H h w' s1) ∧ Aside0 (Kd.R (Kd.int .i64) 3 w' B (fun k => ¬ Two O M k) (.slice A 0 c) []) ∧ Aside0 (Kept W w' (Two O M)) ∧ Aside0 (Below B W w')) (fun n _ => (61 - intOf n).toNat)
    case atStart => exact ⟨1, st, rfl, .inl ⟨rfl, HF⟩, HS, HL, ⟨Kept.refl _ _⟩, ⟨Below.refl _ _⟩⟩
    case round =>
     obtain ⟨nn, s1, rfl, hc, HSr, HLr, HKr, HBr⟩ := hrel
     rcases hc with ⟨rfl, HF2⟩ | ⟨rfl, HE⟩
     · have HX2 : Aside0 (∀ x ∈ ([] : List Int) ++ [1], 1 ≤ x ∧ x ≤ 60) := ⟨fun x hx => by rw [List.nil_append, List.mem_singleton] at hx; omega⟩
       have HN2 : Aside0 ((([] : List Int) ++ [1]).length + j ≤ 10) := ⟨by have := HN.out; simp only [List.length_append, List.length_singleton, List.length_nil] at this ⊢; omega⟩
       go_wp2_with (first | ((with_reducible refine gate_dst (N := 35) rfl ?_); refine Kd.R_lit (Kd.int .i64) _ 3 ?hg (N := 35) ?hd (xs := ([] : List Int)) (inner := []) (ok := fun _ => True) (okp := fun _ => True) ?hr ?hp (fun _ hk => hk) trivial (Below.refl _ _) (Nat.le_refl _) (by simp) ?_; (case hd => rfl); (case hg => rfl); (case hr => first | (go_simp; done) | (go_simp; rfl)); (case hp => exact (Reps.none _ _)); intro v1 w1 ho hb hg_ hnew_; clear hg_ hnew_; have HO1 := Aside0.mk ho; have HB1 := Aside0.mk hb; clear ho hb) | ((with_reducible refine gate_builtin (b := .append) (xs := #[.tmp 35, .tmp 36]) rfl ?_); at_builtin; refine Kd.R_append_rows (Kd.int .i64) (w0 := wr) wr.heap.size rfl (.tmp 35) (.tmp 36) 22 3 (.int .i64 0) 8 rfl Try.underlying22 info3 rfl (by decide) (by omega) v1 [] ([] : List Int) _ _ _ (fun _ => True) (fun _ => False) rfl rfl ?aO ?aR (fun _ _ h => h) (fun _ h => h.elim) (fun _ _ => trivial) ?aB ?aS ?aL ?_; (case aO => exact HO1.out); (case aR => exact Kd.C_below (Kd.R_reads' HLr.out).2.2 HB1.out); (case aB => exact HB1.out); (case aS => exact below_size HB1.out); (case aL => have := HN.out; simp only [List.length_nil]; omega); intro v2 w2 ho hb hg hat; clear hg hat; have HO2 := Aside0.mk ho; have HB2 := Aside0.mk hb; clear ho hb) | ((with_reducible refine gate_builtin (b := .append) (xs := #[.tmp 37, .tmp 39]) rfl ?_); at_builtin; refine Kd.R_append (Kd.int .i64) (w0 := wr) wr.heap.size rfl (.tmp 37) (.tmp 39) 22 3 (.int .i64 0) 8 rfl Try.underlying22 info3 rfl (by decide) (by omega) v2 ([] ++ ([] : List Int)) (1 : Int) [.int .i64 (1 : Int)] (fun _ => True) (fun _ => False) rfl rfl ?aP (fun _ hk => hk.elim) ?aF ?aO ?aB ?aS ?aL ?_; (case aP => exact rfl); (case aF => exact (fun _ _ => trivial)); (case aO => exact HO2.out); (case aB => exact HB2.out); (case aS => exact below_size HB2.out); (case aL => have := HN.out; simp only [List.nil_append, List.length_nil]; omega); intro v3 w3 ho hb hg hat; clear hg hat; have HO3 := Aside0.mk (rowup ho (ys := ([] : List Int) ++ [(1 : Int)]) (by simp) HSr.out.olt (blk_lt HSr.out.most) (Nat.le_trans ap.bm (Nat.le_of_lt (blk_lt HSr.out.most))) (below_size hb)); have HB3 := Aside0.mk hb; clear ho hb) | (go_at_call 40; (try rw [wj2]); refine (IH.out _ _ (([] : List Int) ++ [(1 : Int)]) s1 st' (HSr.out.below HB3.out) HO3.out HX2.out HN2.out HF2.out).mono ?_; rintro e w4 ⟨rfl, hs, hk, hb⟩; have HS4 := Aside0.mk hs; have HK4 := Aside0.mk hk; have HB4 := Aside0.mk hb; clear hs hk hb))
       have hbb : B ≤ wr.heap.size := Nat.le_trans ap.bm (Nat.le_of_lt (blk_lt HSr.out.most))
       go_roundw
       case rel => exact ⟨2, st', by go_num, .inr ⟨rfl, ⟨rfl⟩⟩, ⟨HS4.out⟩, ⟨Kd.R_kept (Kd.R_below HLr.out HB3.out) HK4.out (fun k hk hs => hk hs)⟩, ⟨(HKr.out.below HB3.out).then_ HK4.out (fun _ hk => .inl hk)⟩, ⟨HBr.out.trans ((HB3.out.mono hbb).trans HB4.out)⟩⟩
       case measure => simp [intOf]
     · have HE := HE.out
       subst HE
       go_wp2
       (try simp only [Exit.inBlock, Exit.then])
       refine bodyPost_ret (results_none rfl _ _ _) rfl ?_
       exact ⟨rfl, HSr.out, HKr.out, HBr.out⟩
  · have ll : 0 < l.length := List.length_pos_iff.2 e
    have pz := HX.out
    obtain ⟨ji, hji⟩ : ∃ ji : Int, ji = (l.length : Int) - 1 := ⟨_, rfl⟩
    obtain ⟨ad, e1, hx1⟩ := Kd.at_int (Kd.R_reads' HL.out).2.2 ji (by omega) (by omega)
    cases e1
    have hlast : 1 ≤ lst l ∧ lst l ≤ 60 := by
     unfold lst
     refine pz _ ?_
     unfold rd
     rw [List.getD_eq_getElem?_getD, List.getElem?_eq_getElem (by omega)]
     exact List.getElem_mem _
    clear pz
    have HF : Aside0 ((rng (lst l + 1) (61 - (lst l + 1)).toNat).foldlM (fun st n => impl_raised.f k h j (l ++ [n]) st) st = some st') := ⟨by
     unfold nexts at hf
     rw [if_neg e] at hf
     rw [show (61 - (lst l + 1)).toNat = (60 - lst l).toNat from by omega]
     exact hf⟩
    clear hf
    have hw1 : IntKind.i64.wrap ((l.length : Int) - 1) = ji := by
     have := HN.out
     rw [i64_w]; unfold wrap64; omega
    have hw2 : IntKind.i64.wrap (rd l ji + 1) = lst l + 1 := by
     rw [hji]
     show IntKind.i64.wrap (lst l + 1) = lst l + 1
     rw [i64_w]; unfold wrap64; omega
    have p1 : (0 ≤ ji) = True := eq_true (by omega)
    have q1 : (ji < (l.length : Int)) = True := eq_true (by omega)
    have HJ := Aside0.mk hji
    clear hji
    have b1 : decide (0 < (l.length : Int)) = true := decide_eq_true (by omega)
    have b1' : decide (0 < l.length) = true := decide_eq_true ll
    have b2 : ((l.length : Int) == 0) = false := beq_eq_false_iff_ne.mpr (by omega)
    go_enter Try.func40, Try.ntmps40
    go_wp2
    go_loopw [7] (fun n w' => ∃ (nn : Int) (s1 : List Int × Int), n = .int .i64 nn ∧ lst l + 1 ≤ nn ∧ nn ≤ 61 ∧ Aside0 ((rng nn (61 - nn).toNat).foldlM (fun st n => impl_raised.f k h j (l ++ [n]) st) s1 = some st') ∧ Aside0 (BSt B O M H h w' s1) ∧ Aside0 (Kd.R (Kd.int .i64) 3 w' B (fun k => ¬ Two O M k) (.slice (some ad) l.length c) l) ∧ Aside0 (Kept W w' (Two O M)) ∧ Aside0 (Below B W w')) (fun n _ => (61 - intOf n).toNat)
    case atStart => exact ⟨lst l + 1, st, (by first | rfl | (simp only [hw2]) | (rw [hw2])), Int.le_refl _, by omega, HF, HS, HL, ⟨Kept.refl _ _⟩, ⟨Below.refl _ _⟩⟩
    case round =>
     clear hx1 hw2 hw1 p1 q1 HF
     obtain ⟨nn, s1, rfl, h0, h1, HFr, HSr, HLr, HKr, HBr⟩ := hrel
     by_cases hx : nn ≤ 60
     · have hx0 : decide (nn ≤ 60) = true := decide_eq_true hx
       obtain ⟨s2, HF2, HF3⟩ : ∃ s2, Aside0 (impl_raised.f k h j (l ++ [nn]) s1 = some s2) ∧ Aside0 ((rng (nn + 1) (61 - (nn + 1)).toNat).foldlM (fun st n => impl_raised.f k h j (l ++ [n]) st) s2 = some st') := by
        have hf := HFr.out
        rw [show (61 - nn).toNat = (61 - (nn + 1)).toNat + 1 from by omega, rng, List.foldlM_cons] at hf
        obtain ⟨a, a1, a2⟩ := Option.bind_eq_some_iff.mp hf
        exact ⟨a, ⟨a1⟩, ⟨a2⟩⟩
       clear HFr
       have HX2 : Aside0 (∀ x ∈ l ++ [nn], 1 ≤ x ∧ x ≤ 60) := ⟨fun x hx => by
        rcases List.mem_append.1 hx with q | q
        · exact HX.out x q
        · rw [List.mem_singleton] at q; omega⟩
       have HN2 : Aside0 ((l ++ [nn]).length + j ≤ 10) := ⟨by have := HN.out; simp only [List.length_append, List.length_singleton]; omega⟩
       go_wp2_with (first | ((with_reducible refine gate_dst (N := 35) rfl ?_); refine Kd.R_lit (Kd.int .i64) _ 3 ?hg (N := 35) ?hd (xs := ([] : List Int)) (inner := []) (ok := fun _ => True) (okp := fun _ => True) ?hr ?hp (fun _ hk => hk) trivial (Below.refl _ _) (Nat.le_refl _) (by simp) ?_; (case hd => rfl); (case hg => rfl); (case hr => first | (go_simp; done) | (go_simp; rfl)); (case hp => exact (Reps.none _ _)); intro v1 w1 ho hb hg_ hnew_; clear hg_ hnew_; have HO1 := Aside0.mk ho; have HB1 := Aside0.mk hb; clear ho hb) | ((with_reducible refine gate_builtin (b := .append) (xs := #[.tmp 35, .tmp 36]) rfl ?_); at_builtin; refine Kd.R_append_rows (Kd.int .i64) (w0 := wr) wr.heap.size rfl (.tmp 35) (.tmp 36) 22 3 (.int .i64 0) 8 rfl Try.underlying22 info3 rfl (by decide) (by omega) v1 [] l _ _ _ (fun _ => True) (fun _ => False) rfl rfl ?aO ?aR (fun _ _ h => h) (fun _ h => h.elim) (fun _ _ => trivial) ?aB ?aS ?aL ?_; (case aO => exact HO1.out); (case aR => exact Kd.C_below (Kd.R_reads' HLr.out).2.2 HB1.out); (case aB => exact HB1.out); (case aS => exact below_size HB1.out); (case aL => have := HN.out; simp only [List.length_nil]; omega); intro v2 w2 ho hb hg hat; clear hg hat; have HO2 := Aside0.mk ho; have HB2 := Aside0.mk hb; clear ho hb) | ((with_reducible refine gate_builtin (b := .append) (xs := #[.tmp 37, .tmp 39]) rfl ?_); at_builtin; refine Kd.R_append (Kd.int .i64) (w0 := wr) wr.heap.size rfl (.tmp 37) (.tmp 39) 22 3 (.int .i64 0) 8 rfl Try.underlying22 info3 rfl (by decide) (by omega) v2 ([] ++ l) nn [.int .i64 nn] (fun _ => True) (fun _ => False) rfl rfl ?aP (fun _ hk => hk.elim) ?aF ?aO ?aB ?aS ?aL ?_; (case aP => exact rfl); (case aF => exact (fun _ _ => trivial)); (case aO => exact HO2.out); (case aB => exact HB2.out); (case aS => exact below_size HB2.out); (case aL => have := HN.out; simp only [List.nil_append, List.length_nil]; omega); intro v3 w3 ho hb hg hat; clear hg hat; have HO3 := Aside0.mk (rowup ho (ys := l ++ [nn]) (by simp) HSr.out.olt (blk_lt HSr.out.most) (Nat.le_trans ap.bm (Nat.le_of_lt (blk_lt HSr.out.most))) (below_size hb)); have HB3 := Aside0.mk hb; clear ho hb) | (go_at_call 40; (try rw [wj2]); refine (IH.out _ _ (l ++ [nn]) s1 s2 (HSr.out.below HB3.out) HO3.out HX2.out HN2.out HF2.out).mono ?_; rintro e w4 ⟨rfl, hs, hk, hb⟩; have HS4 := Aside0.mk hs; have HK4 := Aside0.mk hk; have HB4 := Aside0.mk hb; clear hs hk hb))
       have hbb : B ≤ wr.heap.size := Nat.le_trans ap.bm (Nat.le_of_lt (blk_lt HSr.out.most))
       go_roundw
       case rel => exact ⟨nn + 1, s2, by go_num, by omega, by omega, HF3, ⟨HS4.out⟩, ⟨Kd.R_kept (Kd.R_below HLr.out HB3.out) HK4.out (fun k hk hs => hk hs)⟩, ⟨(HKr.out.below HB3.out).then_ HK4.out (fun _ hk => .inl hk)⟩, ⟨HBr.out.trans ((HB3.out.mono hbb).trans HB4.out)⟩⟩
       case measure => simp [intOf]; omega
     · have hx0 : decide (nn ≤ 60) = false := decide_eq_false hx
       obtain rfl : nn = 61 := by omega
       have HE : Aside0 (s1 = st') := ⟨by
        have hf := HFr.out
        rw [show (61 - 61 : Int).toNat = 0 from rfl, rng, List.foldlM_nil] at hf
        exact Option.some.inj hf⟩
       clear HFr
       have HE := HE.out
       subst HE
       go_wp2
       go_end0
       exact ⟨rfl, HSr.out, HKr.out, HBr.out⟩
theorem within_one (x hi : Int) : impl_within.f x 1 hi = some (decide (1 ≤ x ∧ x ≤ hi)) := by
 unfold impl_within.f
 by_cases c : x ≥ 1
 · rw [if_pos c]; simp [c]
 · rw [if_neg c]; simp [c]
set_option maxHeartbeats 4000000 in
set_option maxRecDepth 100000 in
theorem impl_BestStamps.calls (k : Nat) (a0 : Int) (a1 : Int) (r1 : List Int) (r2 : Int) (w : World) (h : impl_BestStamps.f k a0 a1 = some (r1, r2)) :
 Calls Try.prog 9 #[.int .i64 a0, .int .i64 a1] w fun e w' => ∃ v0_ : Value, e = .returned (.tuple #[v0_, .int .i64 r2]) ∧ Kd.R (Kd.int .i64) 3 w' w.heap.size (fun _ => True) v0_ r1 ∧ Below w.heap.size w w' := by
 have hmf : ∀ (fn : Fn) (first cap : Array Value) (w : World), (Instr.makeFunc fn first cap).run Try.prog w = .ok (.func fn first cap) w := fun _ _ _ _ => rfl
 have hu22 := Try.underlying22
 unfold impl_BestStamps.f at h
 by_cases c1 : 1 ≤ a0 ∧ a0 ≤ 3
 · have W1 : Aside0 (impl_within.f a0 1 3 = some true) := ⟨by rw [within_one, decide_eq_true c1]⟩
   by_cases c2 : 1 ≤ a1 ∧ a1 ≤ 4
   · have W2 : Aside0 (impl_within.f a1 1 4 = some true) := ⟨by rw [within_one, decide_eq_true c2]⟩
     rw [if_pos ⟨c1, c2⟩] at h
     obtain ⟨j, rfl⟩ : ∃ j : Nat, a0 = (j : Int) := ⟨a0.toNat, by omega⟩
     rw [Int.toNat_natCast] at h
     have HJ : Aside0 (j ≤ 3) := ⟨by omega⟩
     have H := Aside0.mk h
     clear h c1 c2
     go_enter Try.func9, Try.ntmps9
     go_wp2_with (first | ((with_reducible refine gate_dst (N := 3) rfl ?_); refine box_event ?hg (N := 3) ?hd (cs := #[.int .i64 a1]) (t := 3) ?hr ?_; (case hd => rfl); (case hg => rfl); (case hr => first | (go_simp; done) | (go_simp; rfl)); intro gH hg wH hbox hb; have BH := Aside0.mk hbox; have HB := Aside0.mk hb; have GH := Aside0.mk (show w.heap.size ≤ gH by omega); clear hg hbox hb) | (go_at_call 39; (with_reducible refine (impl_within.calls (j : Int) 1 3 true _ W1.out).mono ?_); rintro e w' ⟨rfl, ⟨nd, rfl⟩⟩; have hcH : (wH.drewN nd).cell? ⟨gH, 0, none⟩ = some (.int .i64 a1) := (blk_cell (blk_drewN BH.out nd) 0).trans rfl; have BH2 := Aside0.mk (blk_drewN BH.out nd); have HB2 := Aside0.mk (pw_below_drewN HB.out nd)) | (go_at_call 39; (with_reducible refine (impl_within.calls a1 1 4 true _ W2.out).mono ?_); rintro e w' ⟨rfl, ⟨nd, rfl⟩⟩; skip) | ((with_reducible refine gate_dst (N := 16) rfl ?_); refine Kd.R_lit (Kd.int .i64) _ 3 ?hg (N := 16) ?hd (xs := ([] : List Int)) (inner := []) (ok := fun _ => True) (okp := fun _ => True) ?hr ?hp (fun _ hk => hk) trivial (Below.refl _ _) (Nat.le_refl _) (by simp) ?_; (case hd => rfl); (case hg => rfl); (case hr => first | (go_simp; done) | (go_simp; rfl)); (case hp => exact (Reps.none _ _)); intro v1 w4 ho hb hg_ hnew_; clear hg_ hnew_; have HO4 := Aside0.mk (Kd.R_lower ho (below_size (pw_below_drewN HB.out _))); have HB4 := Aside0.mk (below_step (pw_below_drewN HB.out _) hb); have BH4 := Aside0.mk (blk_below (blk_drewN BH.out _) hb); clear ho hb; obtain ⟨A1, k1, e1⟩ := Kd.R_slice HO4.out; subst e1; have HO4 : Aside0 (Kd.R (Kd.int .i64) 3 w4 w.heap.size (fun _ => True) (.slice A1 0 k1) []) := HO4) | ((with_reducible refine gate_dst (N := 6) rfl ?_); refine box_event ?hg (N := 6) ?hd (cs := #[.slice none 0 0]) (t := 22) ?hr ?_; (case hd => rfl); (case hg => rfl); (case hr => first | (go_simp; done) | (go_simp; rfl)); intro gO hg w5 hbox hb; have HO5 := Aside0.mk (Kd.R_below (Kd.R_mono (Kd.R_bound HO4.out) (ok' := fun k => k < gO) (fun k hk => by have := hk.2.2.1; omega)) hb); have BH5 := Aside0.mk (blk_below BH4.out hb); have NE1 := Aside0.mk (show gH ≠ gO by have := blk_lt BH4.out; omega); have GO := Aside0.mk (show w.heap.size ≤ gO by have := below_size HB4.out; omega); have HB5 := Aside0.mk (below_step HB4.out hb); have BO5 := Aside0.mk hbox; have hcO5 := (blk_cell BO5.out 0).trans rfl; have hfO5 := blk_frozen BO5.out 0; clear hg hbox hb))
     have sz : (w5.setCell ⟨gO, 0, none⟩ (.slice A1 0 k1)).heap.size = w5.heap.size := by simp [World.setCell]
     have LT6 : gO < w5.heap.size := blk_lt BO5.out
     have LT7 : gH < w5.heap.size := blk_lt BH5.out
     have gm : w.heap.size ≤ w5.heap.size := below_size HB5.out
     have ap : BAp w.heap.size gO w5.heap.size gH := ⟨by omega, NE1.out, by omega, GO.out, gm⟩
     have kp6 : Kept w5 (w5.setCell ⟨gO, 0, none⟩ (.slice A1 0 k1)) (fun k => k = gO) := Kept.setCell (S := fun k => k = gO) (Kept.refl w5 _) (p := ⟨gO, 0, none⟩) (.inl rfl) _
     have hr7 := Kd.R_alloc (Kd.R_kept HO5.out kp6 (fun k hk hs => by omega)) (.cells #[.int .i64 (-1)] 3)
     have bm : ((w5.setCell ⟨gO, 0, none⟩ (.slice A1 0 k1)).alloc (.cells #[.int .i64 (-1)] 3)).heap[w5.heap.size]? = some (.cells #[.int .i64 (-1)] 3 (0, 0)) := (by have q := blk_new (w5.setCell ⟨gO, 0, none⟩ (.slice A1 0 k1)) (.cells #[.int .i64 (-1)] 3); rw [sz] at q; exact q)
     have hs7 : BSt w.heap.size gO w5.heap.size gH a1 ((w5.setCell ⟨gO, 0, none⟩ (.slice A1 0 k1)).alloc (.cells #[.int .i64 (-1)] 3)) ([], -1) := ⟨⟨(.slice A1 0 k1), blk_alloc (blk_put BO5.out 0 _ rfl) _, Kd.R_mono hr7 (fun k hk => by rintro (rfl | rfl) <;> omega)⟩, bm, blk_alloc (blk_far BH5.out NE1.out _) _⟩
     refine (bs_raised (k := k) ap a1 j _ (.slice none 0 0) [] ([], -1) (r1, r2) hs7 (Kd.R_nil _ _ _ _ _) (by simp) (by have := HJ.out; simp only [List.length_nil]; omega) H.out).mono ?_
     rintro e w8 ⟨rfl, hs, hk, hb⟩
     obtain ⟨⟨vo, ho1, ho2⟩, hm, _⟩ := hs
     have hcO8 : w8.cell? ⟨gO, 0, none⟩ = some vo := (blk_cell ho1 0).trans rfl
     have hcM8 : w8.cell? ⟨w5.heap.size, 0, none⟩ = some (.int .i64 r2) := (blk_cell hm 0).trans rfl
     have HR8 := Aside0.mk ho2
     have HB8 := Aside0.mk ((below_alloc (HB5.out.setCell GO.out (.slice A1 0 k1)) _).trans hb)
     clear ho1 ho2 hm hs7 hr7 kp6 hk hb bm sz ap LT6 LT7 gm
     go_wp2
     go_region
     all_goals (try go_wp2)
     all_goals go_ret2
     all_goals exact ⟨_, rfl, Kd.R_drew (Kd.R_mono HR8.out (fun _ _ => trivial)), below_drew HB8.out⟩
   · have W2 : Aside0 (impl_within.f a1 1 4 = some false) := ⟨by rw [within_one, decide_eq_false c2]⟩
     rw [if_neg (fun q => c2 q.2)] at h
     have h := Option.some.inj h
     injection h with h1 h2
     subst h1 h2
     clear c1 c2
     go_enter Try.func9, Try.ntmps9
     go_wp2_with (first | ((with_reducible refine gate_dst (N := 3) rfl ?_); refine box_event ?hg (N := 3) ?hd (cs := #[.int .i64 a1]) (t := 3) ?hr ?_; (case hd => rfl); (case hg => rfl); (case hr => first | (go_simp; done) | (go_simp; rfl)); intro gH hg wH hbox hb; have BH := Aside0.mk hbox; have HB := Aside0.mk hb; have GH := Aside0.mk (show w.heap.size ≤ gH by omega); clear hg hbox hb) | (go_at_call 39; (with_reducible refine (impl_within.calls a0 1 3 true _ W1.out).mono ?_); rintro e w' ⟨rfl, ⟨nd, rfl⟩⟩; have hcH : (wH.drewN nd).cell? ⟨gH, 0, none⟩ = some (.int .i64 a1) := (blk_cell (blk_drewN BH.out nd) 0).trans rfl; have BH2 := Aside0.mk (blk_drewN BH.out nd); have HB2 := Aside0.mk (pw_below_drewN HB.out nd)) | (go_at_call 39; (with_reducible refine (impl_within.calls a1 1 4 false _ W2.out).mono ?_); rintro e w' ⟨rfl, ⟨nd, rfl⟩⟩; skip))
     go_ret2
     exact ⟨_, rfl, Kd.R_nil _ _ _ _ _, pw_below_drewN HB.out _⟩
 · have W1 : Aside0 (impl_within.f a0 1 3 = some false) := ⟨by rw [within_one, decide_eq_false c1]⟩
   rw [if_neg (fun q => c1 q.1)] at h
   have h := Option.some.inj h
   injection h with h1 h2
   subst h1 h2
   clear c1
   go_enter Try.func9, Try.ntmps9
   go_wp2_with (first | ((with_reducible refine gate_dst (N := 3) rfl ?_); refine box_event ?hg (N := 3) ?hd (cs := #[.int .i64 a1]) (t := 3) ?hr ?_; (case hd => rfl); (case hg => rfl); (case hr => first | (go_simp; done) | (go_simp; rfl)); intro gH hg wH hbox hb; have BH := Aside0.mk hbox; have HB := Aside0.mk hb; have GH := Aside0.mk (show w.heap.size ≤ gH by omega); clear hg hbox hb) | (go_at_call 39; (with_reducible refine (impl_within.calls a0 1 3 false _ W1.out).mono ?_); rintro e w' ⟨rfl, ⟨nd, rfl⟩⟩; have hcH : (wH.drewN nd).cell? ⟨gH, 0, none⟩ = some (.int .i64 a1) := (blk_cell (blk_drewN BH.out nd) 0).trans rfl; have BH2 := Aside0.mk (blk_drewN BH.out nd); have HB2 := Aside0.mk (pw_below_drewN HB.out nd)))
   go_ret2
   exact ⟨_, rfl, Kd.R_nil _ _ _ _ _, HB2.out⟩
end Go.Proofs.Ythkhpejggdnkfaa.PB
end
section
namespace Go.Proofs.Ythkhpejggdnkfaa.PB
open Go.RowKit Go.Proofs.YthkhpejggdnkfaaW.PrintWords Go.Proofs.YthkhpejggdnkfaaW.PrintLast Go.Proofs.YthkhpejggdnkfaaW.PrintMore
set_option linter.unusedVariables false
set_option linter.unusedSimpArgs false
def laws_eqIntS.l0 : Nat → List Int → List Int → Int → Option (Bool)
 | 0, _, _, _ => none
 | k + 1, x0, x1, x5 => if x5 < (x0.length : Int) then (if 0 ≤ x5 then (if x5 < (x1.length : Int) then (if (rd x0 x5) = (rd x1 x5) then (laws_eqIntS.l0 k x0 x1 (wrap64 (x5 + 1))) else (some false)) else (none)) else (none)) else (some true)
def laws_eqIntS.f (k : Nat) (l0 : List Int) (l1 : List Int) : Option (Bool) := if (l0.length : Int) = (l1.length : Int) then (laws_eqIntS.l0 k l0 l1 0) else (some false)
set_option maxHeartbeats 8000000 in
set_option maxRecDepth 100000 in
theorem laws_eqIntS.calls (k : Nat) (A0 : Option Addr) (c0 : Nat) (l0 : List Int) (A1 : Option Addr) (c1 : Nat) (l1 : List Int) (r : Bool) (w : World) (hr0 : Kd.C (Kd.int .i64) w A0 l0.length l0) (hc0 : l0.length ≤ c0) (hr1 : Kd.C (Kd.int .i64) w A1 l1.length l1) (hc1 : l1.length ≤ c1) (h : laws_eqIntS.f k l0 l1 = some r) :
 Calls Try.prog 10 #[.slice A0 l0.length c0, .slice A1 l1.length c1] w fun e w' => e = .returned (.bool r) ∧ Drawn0 w w' := by
 have HR0 := Aside0.mk hr0
 have HC0 := Aside0.mk hc0
 clear hr0 hc0
 have HR1 := Aside0.mk hr1
 have HC1 := Aside0.mk hc1
 clear hr1 hc1
 have H : (if (l0.length : Int) = (l1.length : Int) then (laws_eqIntS.l0 k l0 l1 0) else (some false)) = some r := h
 clear h
 by_cases c3 : (l0.length : Int) = (l1.length : Int)
 · rw [if_pos c3] at H
   have c3b0 : ((l0.length : Int) == (l1.length : Int)) = true := beq_iff_eq.mpr c3
   have c3b1 : ((l0.length : Int) != (l1.length : Int)) = false := bne_eq_false_iff_eq.mpr c3
   have c3b2 : (l0.length == l1.length) = true := by first | simpa using c3 | (simp at c3 ⊢; omega)
   clear c3
   have H' := Aside0.mk H
   clear H
   go_enter Try.func10, Try.ntmps10
   go_wp2
   repeat (go_quiet (fail); try go_wp2)
   go_loopg [5] k (fun kq v5 w' => ∃ (x5_1 : Int), v5 = .int .i64 x5_1 ∧ Aside0 (laws_eqIntS.l0 kq l0 l1 x5_1 = some r) ∧ Aside0 (kq ≤ k) ∧ Drawn0 w w')
   case atStart => exact ⟨(0), (by first | rfl | (simp; done) | (simp [*]; done)), H', ⟨Nat.le_refl _⟩, by repeat (first | exact Drawn0.refl _ | apply Drawn0.step)⟩
   case round =>
    clear H'
    try clear c1
    try clear p2
    try clear c3
    try clear c3b0
    try clear c3b1
    try clear c3b2
    obtain ⟨x5_1, rfl, HA, HK1, ⟨m1, rfl⟩⟩ := hrel
    cases gk with
    | zero => exact absurd HA.out (by simp [laws_eqIntS.l0])
    | succ k1 =>
     have H := HA.out
     clear HA
     simp only [laws_eqIntS.l0] at H
     by_cases c4 : x5_1 < (l0.length : Int)
     · rw [if_pos c4] at H
       have c4b0 : decide (x5_1 < (l0.length : Int)) = true := decide_eq_true c4
       clear c4
       by_cases c5 : 0 ≤ x5_1
       · rw [if_pos c5] at H
         have c5b0 : decide (0 ≤ x5_1) = true := decide_eq_true c5
         clear c5
         by_cases c6 : x5_1 < (l1.length : Int)
         · rw [if_pos c6] at H
           have c6b0 : decide (x5_1 < (l1.length : Int)) = true := decide_eq_true c6
           clear c6
           by_cases c7 : (rd l0 x5_1) = (rd l1 x5_1)
           · rw [if_pos c7] at H
             have c7b0 : ((rd l0 x5_1) == (rd l1 x5_1)) = true := beq_iff_eq.mpr c7
             have c7b1 : ((rd l0 x5_1) != (rd l1 x5_1)) = false := bne_eq_false_iff_eq.mpr c7
             clear c7
             have H' := Aside0.mk H
             clear H
             have p433 : 0 ≤ (x5_1 : Int) := of_decide_eq_true (by first | (with_reducible assumption) | assumption)
             have q433 : x5_1 < (l0.length : Int) := of_decide_eq_true (by first | (with_reducible assumption) | assumption)
             obtain ⟨ad433, e433, hx433_0⟩ := Kd.at_int HR0.out x5_1 p433 q433
             cases e433
             replace p433 := eq_true p433
             replace q433 := eq_true q433
             have p434 : 0 ≤ (x5_1 : Int) := of_decide_eq_true (by first | (with_reducible assumption) | assumption)
             have q434 : x5_1 < (l1.length : Int) := of_decide_eq_true (by first | (with_reducible assumption) | assumption)
             obtain ⟨ad434, e434, hx434_0⟩ := Kd.at_int HR1.out x5_1 p434 q434
             cases e434
             replace p434 := eq_true p434
             replace q434 := eq_true q434
             go_wp2
             repeat (go_quiet (fail); try go_wp2)
             go_roundg k1
             case measure => have := HK1.out; omega
             case rel => exact ⟨(wrap64 (x5_1 + 1)), (by first | rfl | (simp; done) | (simp [*]; done)), H', ⟨by have := HK1.out; omega⟩, by repeat (first | exact Drawn0.refl _ | apply Drawn0.step)⟩
           · rw [if_neg c7] at H
             have c7b0 : ((rd l0 x5_1) == (rd l1 x5_1)) = false := beq_eq_false_iff_ne.mpr c7
             have c7b1 : ((rd l0 x5_1) != (rd l1 x5_1)) = true := bne_iff_ne.mpr c7
             obtain rfl := Option.some.inj H
             have p433 : 0 ≤ (x5_1 : Int) := of_decide_eq_true (by first | (with_reducible assumption) | assumption)
             have q433 : x5_1 < (l0.length : Int) := of_decide_eq_true (by first | (with_reducible assumption) | assumption)
             obtain ⟨ad433, e433, hx433_0⟩ := Kd.at_int HR0.out x5_1 p433 q433
             cases e433
             replace p433 := eq_true p433
             replace q433 := eq_true q433
             have p434 : 0 ≤ (x5_1 : Int) := of_decide_eq_true (by first | (with_reducible assumption) | assumption)
             have q434 : x5_1 < (l1.length : Int) := of_decide_eq_true (by first | (with_reducible assumption) | assumption)
             obtain ⟨ad434, e434, hx434_0⟩ := Kd.at_int HR1.out x5_1 p434 q434
             cases e434
             replace p434 := eq_true p434
             replace q434 := eq_true q434
             go_wp2
             repeat (go_quiet (fail); try go_wp2)
             go_ret
             exact ⟨by first | rfl | (simp; done) | (simp [*]; done), by repeat (first | exact Drawn0.refl _ | apply Drawn0.step)⟩
         · rw [if_neg c6] at H
           exact absurd H (by simp)
       · rw [if_neg c5] at H
         exact absurd H (by simp)
     · rw [if_neg c4] at H
       have c4b0 : decide (x5_1 < (l0.length : Int)) = false := decide_eq_false c4
       clear c4
       obtain rfl := Option.some.inj H
       go_wp2
       repeat (go_quiet (fail); try go_wp2)
       go_ret
       exact ⟨by first | rfl | (simp; done) | (simp [*]; done), by repeat (first | exact Drawn0.refl _ | apply Drawn0.step)⟩
 · rw [if_neg c3] at H
   have c3b0 : ((l0.length : Int) == (l1.length : Int)) = false := beq_eq_false_iff_ne.mpr c3
   have c3b1 : ((l0.length : Int) != (l1.length : Int)) = true := bne_iff_ne.mpr c3
   have c3b2 : (l0.length == l1.length) = false := by first | simpa using c3 | (simp at c3 ⊢; omega)
   obtain rfl := Option.some.inj H
   go_enter Try.func10, Try.ntmps10
   go_wp2
   repeat (go_quiet (fail); try go_wp2)
   go_ret
   exact ⟨by first | rfl | (simp; done) | (simp [*]; done), by repeat (first | exact Drawn0.refl _ | apply Drawn0.step)⟩
def laws_markIntS.l0 : Nat → List Int → Int → Int → Option (Int × List Int)
 | 0, _, _, _ => none
 | k + 1, x0, x1, x5 => if x5 < (x0.length : Int) then (if 0 ≤ x5 then (laws_markIntS.l0 k (x0.set (x5 : Int).toNat x1) (wrap64 (x1 + 1)) (wrap64 (x5 + 1))) else (none)) else (some (x1, x0))
def laws_markIntS.f (k : Nat) (l0 : List Int) (a1 : Int) : Option (Int × List Int) := laws_markIntS.l0 k l0 a1 0
set_option maxHeartbeats 8000000 in
set_option maxRecDepth 100000 in
theorem laws_markIntS.calls (k : Nat) (P0_ : Nat → Prop) (u9000_ : Value) (l0 : List Int) (a1 : Int) (r1 : Int) (r2 : List Int) (w0 w : World) (hB : Below w0.heap.size w0 w) (ho0 : Kd.R (Kd.int .i64) 3 w w0.heap.size P0_ u9000_ l0) (h : laws_markIntS.f k l0 a1 = some (r1, r2)) :
 Calls Try.prog 11 #[u9000_, .int .i64 a1] w fun e w' => e = .returned (.int .i64 r1) ∧ Kd.R (Kd.int .i64) 3 w' w0.heap.size (fun k_ => (P0_ k_ ∨ w.heap.size ≤ k_)) u9000_ r2 ∧ Below w0.heap.size w0 w' ∧ Kept w w' (fun k_ => P0_ k_) := by
 have HO0 := Aside0.mk (show Kd.R (Kd.int .i64) 3 w w0.heap.size (fun k_ => (P0_ k_ ∨ w.heap.size ≤ k_)) u9000_ l0 from Kd.R_mono ho0 (fun k_ hk => (.inl hk)))
 have HK := Aside0.mk (Kept.refl w (fun k_ => P0_ k_))
 have HW0 := Aside0.mk hB.size
 have HB := Aside0.mk hB
 clear hB
 have H : (laws_markIntS.l0 k l0 a1 0) = some (r1, r2) := h
 clear h
 have H' := Aside0.mk H
 clear H
 go_enter Try.func11, Try.ntmps11
 go_wp2
 go_loopg [1, 5] k (fun kq v1 v5 w' => ∃ (x0_1 : List Int) (x1_1 : Int) (x5_1 : Int), v1 = .int .i64 x1_1 ∧ v5 = .int .i64 x5_1 ∧ Aside0 (laws_markIntS.l0 kq x0_1 x1_1 x5_1 = some (r1, r2)) ∧ Aside0 (kq ≤ k) ∧ Aside0 (Kd.R (Kd.int .i64) 3 w' w0.heap.size (fun k_ => (P0_ k_ ∨ w.heap.size ≤ k_)) u9000_ x0_1) ∧ Aside0 (Kept w w' (fun k_ => P0_ k_)) ∧ Aside0 (Below w0.heap.size w0 w'))
 case atStart => exact ⟨(l0), (a1), (0), (by first | rfl | (simp; done) | (simp [*]; done)), (by first | rfl | (simp; done) | (simp [*]; done)), H', ⟨Nat.le_refl _⟩, ⟨re_ HO0.out⟩, ⟨by repeat (first | (with_reducible first | exact HK.out | apply Kept.alloc | apply Kept.drewN | apply Kept.drew) | exact HK.out)⟩, ⟨bl_ HB.out⟩⟩
 case round =>
  clear H'
  try clear c1
  try clear p2
  obtain ⟨x0_1, x1_1, x5_1, rfl, rfl, HA, HK1, HO_0, HK, HB⟩ := hrel
  cases gk with
  | zero => exact absurd HA.out (by simp [laws_markIntS.l0])
  | succ k1 =>
   have H := HA.out
   clear HA
   simp only [laws_markIntS.l0] at H
   by_cases c3 : x5_1 < (x0_1.length : Int)
   · rw [if_pos c3] at H
     have c3b0 : decide (x5_1 < (x0_1.length : Int)) = true := decide_eq_true c3
     clear c3
     by_cases c4 : 0 ≤ x5_1
     · rw [if_pos c4] at H
       have c4b0 : decide (0 ≤ x5_1) = true := decide_eq_true c4
       clear c4
       obtain ⟨y435, hy435⟩ : ∃ y_ : List Int, y_ = (x0_1.set (x5_1 : Int).toNat x1_1) := ⟨_, rfl⟩
       replace H : (laws_markIntS.l0 k1 y435 (wrap64 (x1_1 + 1)) (wrap64 (x5_1 + 1))) = some (r1, r2) := by first | (rw [hy435]; with_reducible exact H) | (have H2_ := (Option.bind_some _ _).symm.trans H; rw [hy435]; with_reducible exact H2_) | (have H2_ := (Option.bind_some _ _).symm.trans H; with_reducible exact H2_) | with_reducible exact H | (rw [hy435]; exact H) | exact H
       have Ny435 := Aside0.mk hy435
       clear hy435
       have H' := Aside0.mk H
       clear H
       obtain ⟨Ao6, co6, eo6⟩ := Kd.R_slice HO_0.out
       subst eo6
       have p5 : 0 ≤ (x5_1 : Int) := of_decide_eq_true (by first | (with_reducible assumption) | assumption)
       have q5 : (x5_1 : Int) < ((x0_1.length : Int) : Int) := of_decide_eq_true (by first | (with_reducible assumption) | assumption)
       obtain ⟨go5, co5, eo5, gb5, gl5, cl5, HG5⟩ := Kd.R_form HO_0.out (by omega)
       (first | cases eo5 | (injection eo5 with ea_ en_ ec_; (first | subst ea_ | (injection ea_ with ea_; subst ea_)); subst ec_; clear en_))
       have GB5 := Aside0.mk gb5
       have GG5 := Aside0.mk HG5
       clear gb5 gl5 HG5
       have HMgo5 := Aside0.mk (show (P0_ go5 ∨ w.heap.size ≤ go5) from (HO_0.out.1 _ rfl))
       obtain ⟨hx5_0, hf5_0⟩ := Kd.R_celln 0 HO_0.out (x5_1 : Int) p5 q5
       replace p5 := eq_true p5
       replace q5 := eq_true q5
       have HP7 := Kd.R_putg HO_0.out (x5_1 : Int) x1_1
       go_wp2_with (first | ((with_reducible refine gate_store (t := 3) (p := 15) rfl ?_); refine store_event (t := 3) (p := 15) (v := ?vo_w8) (w1 := (wr.setCell ⟨go5, (x5_1 : Int).toNat, none⟩ (.int .i64 x1_1))) ?hg ?ho ?hn ?hr ?_; (case ho => rfl); (case hg => rfl); (case hn => rfl); (case hr => first | (go_simp; done) | (go_simp; rfl)); intro w8 hw; have hg : wr.grownBy w8 (some go5) := (by rw [hw]; exact HP7.2); have hp_ : Kd.R (Kd.int .i64) 3 w8 w0.heap.size (fun k_ => (P0_ k_ ∨ w.heap.size ≤ k_)) (.slice (some ⟨go5, 0, none⟩) x0_1.length co6) y435 := (by rw [hw, Ny435.out]; exact HP7.1); clear HP7; have n0_ := Aside0.mk (hp_); have n1_ := Aside0.mk ((by rw [hw]; exact below_set (HB.out) GB5.out : Below w0.heap.size w0 w8)); have n2_ := Aside0.mk (Kept.of_grown (S := (fun k_ => P0_ k_)) hg (by repeat (first | (with_reducible first | exact HK.out | apply Kept.alloc | apply Kept.drewN | apply Kept.drew) | exact HK.out)) (fun k_ e_ => (HO_0.out.1 k_ e_))); clear HO_0; clear HB; clear HK; have HO_0 := n0_; have HB := n1_; have HK := n2_; clear n0_ n1_ n2_; clear hg hw hp_))
       go_roundg k1
       case measure => have := HK1.out; omega
       case rel => exact ⟨(y435), (wrap64 (x1_1 + 1)), (wrap64 (x5_1 + 1)), (by first | rfl | (simp; done) | (simp [*]; done)), (by first | rfl | (simp; done) | (simp [*]; done)), H', ⟨by have := HK1.out; omega⟩, ⟨re_ HO_0.out⟩, ⟨by repeat (first | (with_reducible first | exact HK.out | apply Kept.alloc | apply Kept.drewN | apply Kept.drew) | exact HK.out)⟩, ⟨bl_ HB.out⟩⟩
     · rw [if_neg c4] at H
       exact absurd H (by simp)
   · rw [if_neg c3] at H
     have c3b0 : decide (x5_1 < (x0_1.length : Int)) = false := decide_eq_false c3
     clear c3
     simp only [Option.some.injEq, Prod.mk.injEq] at H
     obtain ⟨rfl, rfl⟩ := H
     obtain ⟨Ao9, co9, eo9⟩ := Kd.R_slice HO_0.out
     subst eo9
     go_wp2
     go_ret
     exact ⟨by first | rfl | (simp [errW_none, errW_some] <;> rfl) | (simp [*, errW_none, errW_some] <;> rfl), re_ HO_0.out, bl_ HB.out, by repeat (first | (with_reducible first | exact HK.out | apply Kept.alloc | apply Kept.drewN | apply Kept.drew) | exact HK.out)⟩
def laws_heldIntS.l0 : Nat → List Int → Int → Int → Option (Int)
 | 0, _, _, _ => none
 | k + 1, x0, x1, x5 => if x5 < (x0.length : Int) then (if 0 ≤ x5 then (if (rd x0 x5) = x1 then (laws_heldIntS.l0 k x0 (wrap64 (x1 + 1)) (wrap64 (x5 + 1))) else (some (-1))) else (none)) else (some x1)
def laws_heldIntS.f (k : Nat) (l0 : List Int) (a1 : Int) : Option (Int) := laws_heldIntS.l0 k l0 a1 0
set_option maxHeartbeats 8000000 in
set_option maxRecDepth 100000 in
theorem laws_heldIntS.calls (k : Nat) (A0 : Option Addr) (c0 : Nat) (l0 : List Int) (a1 : Int) (r : Int) (w : World) (hr0 : Kd.C (Kd.int .i64) w A0 l0.length l0) (hc0 : l0.length ≤ c0) (h : laws_heldIntS.f k l0 a1 = some r) :
 Calls Try.prog 12 #[.slice A0 l0.length c0, .int .i64 a1] w fun e w' => e = .returned (.int .i64 r) ∧ Drawn0 w w' := by
 have HR0 := Aside0.mk hr0
 have HC0 := Aside0.mk hc0
 clear hr0 hc0
 have H : (laws_heldIntS.l0 k l0 a1 0) = some r := h
 clear h
 have H' := Aside0.mk H
 clear H
 go_enter Try.func12, Try.ntmps12
 go_wp2
 go_loopg [1, 5] k (fun kq v1 v5 w' => ∃ (x1_1 : Int) (x5_1 : Int), v1 = .int .i64 x1_1 ∧ v5 = .int .i64 x5_1 ∧ Aside0 (laws_heldIntS.l0 kq l0 x1_1 x5_1 = some r) ∧ Aside0 (kq ≤ k) ∧ Drawn0 w w')
 case atStart => exact ⟨(a1), (0), (by first | rfl | (simp; done) | (simp [*]; done)), (by first | rfl | (simp; done) | (simp [*]; done)), H', ⟨Nat.le_refl _⟩, by repeat (first | exact Drawn0.refl _ | apply Drawn0.step)⟩
 case round =>
  clear H'
  try clear c1
  try clear p2
  obtain ⟨x1_1, x5_1, rfl, rfl, HA, HK1, ⟨m1, rfl⟩⟩ := hrel
  cases gk with
  | zero => exact absurd HA.out (by simp [laws_heldIntS.l0])
  | succ k1 =>
   have H := HA.out
   clear HA
   simp only [laws_heldIntS.l0] at H
   by_cases c3 : x5_1 < (l0.length : Int)
   · rw [if_pos c3] at H
     have c3b0 : decide (x5_1 < (l0.length : Int)) = true := decide_eq_true c3
     clear c3
     by_cases c4 : 0 ≤ x5_1
     · rw [if_pos c4] at H
       have c4b0 : decide (0 ≤ x5_1) = true := decide_eq_true c4
       clear c4
       by_cases c5 : (rd l0 x5_1) = x1_1
       · rw [if_pos c5] at H
         have c5b0 : ((rd l0 x5_1) == x1_1) = true := beq_iff_eq.mpr c5
         have c5b1 : ((rd l0 x5_1) != x1_1) = false := bne_eq_false_iff_eq.mpr c5
         clear c5
         have H' := Aside0.mk H
         clear H
         have p436 : 0 ≤ (x5_1 : Int) := of_decide_eq_true (by first | (with_reducible assumption) | assumption)
         have q436 : x5_1 < (l0.length : Int) := of_decide_eq_true (by first | (with_reducible assumption) | assumption)
         obtain ⟨ad436, e436, hx436_0⟩ := Kd.at_int HR0.out x5_1 p436 q436
         cases e436
         replace p436 := eq_true p436
         replace q436 := eq_true q436
         go_wp2
         go_roundg k1
         case measure => have := HK1.out; omega
         case rel => exact ⟨(wrap64 (x1_1 + 1)), (wrap64 (x5_1 + 1)), (by first | rfl | (simp; done) | (simp [*]; done)), (by first | rfl | (simp; done) | (simp [*]; done)), H', ⟨by have := HK1.out; omega⟩, by repeat (first | exact Drawn0.refl _ | apply Drawn0.step)⟩
       · rw [if_neg c5] at H
         have c5b0 : ((rd l0 x5_1) == x1_1) = false := beq_eq_false_iff_ne.mpr c5
         have c5b1 : ((rd l0 x5_1) != x1_1) = true := bne_iff_ne.mpr c5
         obtain rfl := Option.some.inj H
         have p436 : 0 ≤ (x5_1 : Int) := of_decide_eq_true (by first | (with_reducible assumption) | assumption)
         have q436 : x5_1 < (l0.length : Int) := of_decide_eq_true (by first | (with_reducible assumption) | assumption)
         obtain ⟨ad436, e436, hx436_0⟩ := Kd.at_int HR0.out x5_1 p436 q436
         cases e436
         replace p436 := eq_true p436
         replace q436 := eq_true q436
         go_wp2
         go_ret
         exact ⟨by first | rfl | (simp; done) | (simp [*]; done), by repeat (first | exact Drawn0.refl _ | apply Drawn0.step)⟩
     · rw [if_neg c4] at H
       exact absurd H (by simp)
   · rw [if_neg c3] at H
     have c3b0 : decide (x5_1 < (l0.length : Int)) = false := decide_eq_false c3
     clear c3
     obtain rfl := Option.some.inj H
     go_wp2
     go_ret
     exact ⟨by first | rfl | (simp; done) | (simp [*]; done), by repeat (first | exact Drawn0.refl _ | apply Drawn0.step)⟩
mutual
def laws_FnExactBestStamps.j0 : Nat → Int → Int → List Int → Int → List Int → Bool → Option (Bool)
 | 0, _, _, _, _, _, _ => none
 | k + 1, x0, x1, x5, x6, x7, x33 => if x33 = true then (some false) else ((laws_markIntS.f k x7 1).bind fun bt446 => ((laws_heldIntS.f k bt446.2 1).bind fun t448 => (if t448 < 0 then (some false) else (if t448 = bt446.1 then ((impl_BestStamps.f k x0 x1).bind fun bt449 => ((laws_eqIntS.f k bt449.1 x5).bind fun t453 => (if t453 = true then (laws_FnExactBestStamps.j1 k bt446.2 bt446.1 (bt449.2 != x6)) else (laws_FnExactBestStamps.j1 k bt446.2 bt446.1 true)))) else (some false)))))
def laws_FnExactBestStamps.j1 : Nat → List Int → Int → Bool → Option (Bool)
 | 0, _, _, _ => none
 | k + 1, x7, x9, x59 => if x59 = true then (some false) else ((laws_heldIntS.f k x7 1).bind fun t454 => (if t454 < 0 then (some false) else (if t454 = x9 then (some true) else (some false))))
end
def laws_FnExactBestStamps.f (k : Nat) (a0 : Int) (a1 : Int) : Option (Bool) := (spec_BestStamps.f k a0 a1).bind fun bt437 => ((impl_BestStamps.f k a0 a1).bind fun bt441 => ((laws_eqIntS.f k bt441.1 bt437.1).bind fun t445 => (if t445 = true then (laws_FnExactBestStamps.j0 k a0 a1 bt437.1 bt437.2 bt441.1 (bt441.2 != bt437.2)) else (laws_FnExactBestStamps.j0 k a0 a1 bt437.1 bt437.2 bt441.1 true))))
set_option maxHeartbeats 8000000 in
set_option maxRecDepth 100000 in
theorem laws_FnExactBestStamps.calls (k : Nat) (a0 : Int) (a1 : Int) (r : Bool) (w : World) (h : laws_FnExactBestStamps.f k a0 a1 = some r) (hr_ : r = true := by rfl) :
 Calls Try.prog 3 #[.int .i64 a0, .int .i64 a1] w fun e w' => e = .returned (.bool r) ∧ Below w.heap.size w w' := by
 have hr_ := Aside0.mk hr_
 have HB := Aside0.mk (Below.refl w.heap.size w)
 have H : ((spec_BestStamps.f k a0 a1).bind fun bt437 => ((impl_BestStamps.f k a0 a1).bind fun bt441 => ((laws_eqIntS.f k bt441.1 bt437.1).bind fun t445 => (if t445 = true then (laws_FnExactBestStamps.j0 k a0 a1 bt437.1 bt437.2 bt441.1 (bt441.2 != bt437.2)) else (laws_FnExactBestStamps.j0 k a0 a1 bt437.1 bt437.2 bt441.1 true))))) = some r := h
 clear h
 replace H := Option.bind_eq_some_iff.mp H
 obtain ⟨⟨t437, t438⟩, A30, H⟩ := H
 replace H : ((impl_BestStamps.f k a0 a1).bind fun bt441 => ((laws_eqIntS.f k bt441.1 t437).bind fun t445 => (if t445 = true then (laws_FnExactBestStamps.j0 k a0 a1 t437 t438 bt441.1 (bt441.2 != t438)) else (laws_FnExactBestStamps.j0 k a0 a1 t437 t438 bt441.1 true)))) = some r := H
 have A3 := Aside0.mk A30
 clear A30
 replace H := Option.bind_eq_some_iff.mp H
 obtain ⟨⟨t441, t442⟩, A40, H⟩ := H
 replace H : ((laws_eqIntS.f k t441 t437).bind fun t445 => (if t445 = true then (laws_FnExactBestStamps.j0 k a0 a1 t437 t438 t441 (t442 != t438)) else (laws_FnExactBestStamps.j0 k a0 a1 t437 t438 t441 true))) = some r := H
 have A4 := Aside0.mk A40
 clear A40
 have HC5 := Aside0.mk H
 clear H
 go_enter Try.func3, Try.ntmps3
 go_upto_region 3 with (first | ((with_reducible refine gate_callee (f := 8) rfl ?_); refine goesL_ (some 16) rfl rfl Try.func8 (by kernel_rfl) rfl #[.int .i64 a0, .int .i64 a1] rfl (by (try simp only [List.map_toArray, List.map_cons, List.map_nil]); first | done | rfl | (simp only [List.length_drop, List.length_take]; rfl)) ?_; (with_reducible refine (spec_BestStamps.calls k a0 a1 t437 t438 _ A3.out).mono ?_); rintro e w6 ⟨v439, rfl, ho0, hb⟩; refine ⟨_, rfl, ?_⟩; have n0_ := Aside0.mk (Kd.R_lower ho0 (below_size (bl_ HB.out))); have n1_ := Aside0.mk (below_step (bl_ HB.out) hb); clear HB; have HO440 := n0_; have HB := n1_; clear n0_ n1_; (try clear hb); (try clear hb2); (try clear hk); (try clear hi); (try clear ho0)) | ((with_reducible refine gate_callee (f := 9) rfl ?_); refine goesL_ (some 22) rfl rfl Try.func9 (by kernel_rfl) rfl #[.int .i64 a0, .int .i64 a1] rfl (by (try simp only [List.map_toArray, List.map_cons, List.map_nil]); first | done | rfl | (simp only [List.length_drop, List.length_take]; rfl)) ?_; (with_reducible refine (impl_BestStamps.calls k a0 a1 t441 t442 _ A4.out).mono ?_); rintro e w7 ⟨v443, rfl, ho0, hb⟩; refine ⟨_, rfl, ?_⟩; have n0_ := Aside0.mk (Kd.R_elder' (re_ HO440.out) (Kd.R_base ho0) hb); have n1_ := Aside0.mk (Kd.R_lower (Kd.R_new' ho0 (Kd.R_lt (re_ HO440.out))) (below_size (bl_ HB.out))); have n2_ := Aside0.mk (below_step (bl_ HB.out) hb); clear HO440; clear HB; have HO440 := n0_; have HO444 := n1_; have HB := n2_; clear n0_ n1_ n2_; (try clear hb); (try clear hb2); (try clear hk); (try clear hi); (try clear ho0)))
 (try simp only [Act.put, z1_, z2_, z3_])
 go_cut [33] (fun v33 wc => ∃ (kq : Nat) (x33_4 : Bool), v33 = .bool x33_4 ∧ Aside0 (laws_FnExactBestStamps.j0 kq a0 a1 t437 t438 t441 x33_4 = some r) ∧ Aside0 (kq ≤ k) ∧ Aside0 (Kd.R (Kd.int .i64) 3 wc w.heap.size (fun k_ => some k_ ≠ (v443 : Value).ownBlock) v439 t437) ∧ Aside0 (Kd.R (Kd.int .i64) 3 wc w.heap.size (fun k_ => some k_ ≠ (v439 : Value).ownBlock) v443 t441) ∧ Aside0 (Below w.heap.size w wc))
 case first =>
  have H := HC5.out
  clear HC5
  replace H := Option.bind_eq_some_iff.mp H
  obtain ⟨t445, A80, H⟩ := H
  replace H : (if t445 = true then (laws_FnExactBestStamps.j0 k a0 a1 t437 t438 t441 (t442 != t438)) else (laws_FnExactBestStamps.j0 k a0 a1 t437 t438 t441 true)) = some r := H
  have A8 := Aside0.mk A80
  clear A80
  by_cases c9 : t445 = true
  · subst c9
    have H1 : (laws_FnExactBestStamps.j0 k a0 a1 t437 t438 t441 (t442 != t438)) = some r := by rw [if_pos rfl] at H; exact H
    clear H
    have H := H1
    clear H1
    have H' := Aside0.mk H
    clear H
    obtain ⟨Ao10, co10, eo10⟩ := Kd.R_slice HO444.out
    subst eo10
    obtain ⟨Ao11, co11, eo11⟩ := Kd.R_slice HO440.out
    subst eo11
    go_wp2_with (first | ((with_reducible refine gate_callee (f := 10) rfl ?_); refine goesL_ (some 27) rfl rfl Try.func10 (by kernel_rfl) rfl #[.slice Ao10 t441.length co10, .slice Ao11 t437.length co11] rfl (by (try simp only [List.map_toArray, List.map_cons, List.map_nil]); first | done | rfl | (simp only [List.length_drop, List.length_take]; rfl)) ?_; (with_reducible refine (laws_eqIntS.calls k _ _ t441 _ _ t437 true _ ?side1 ?side2 ?side3 ?side4 A8.out).mono ?_); (case side1 => exact ce_ ((Kd.R_reads' HO444.out).2.2)); (case side2 => exact (Kd.R_reads' HO444.out).2.1); (case side3 => exact ce_ ((Kd.R_reads' HO440.out).2.2)); (case side4 => exact (Kd.R_reads' HO440.out).2.1); rintro e w' ⟨rfl, ⟨nd, rfl⟩⟩; refine ⟨_, rfl, ?_⟩))
    go_meet
    case rel => exact ⟨_, ((t442 != t438)), (by first | rfl | (simp; done) | (simp [*]; done)), H', ⟨by first | omega | exact Nat.le_refl _⟩, ⟨by (with_reducible repeat (first | apply Kd.R_alloc | apply Kd.R_drewN | apply Kd.R_drew)); exact Kd.R_mono HO440.out (fun _ hk => hk.2)⟩, ⟨by (with_reducible repeat (first | apply Kd.R_alloc | apply Kd.R_drewN | apply Kd.R_drew)); exact Kd.R_mono HO444.out (fun _ hk => hk.2)⟩, ⟨bl_ HB.out⟩⟩
  · replace c9 := Bool.eq_false_iff.mpr c9
    subst c9
    have H1 : (laws_FnExactBestStamps.j0 k a0 a1 t437 t438 t441 true) = some r := by rw [if_neg (show ¬ (false = true) by decide)] at H; exact H
    exact absurd (H1.trans (congrArg some hr_.out)) (by cases k <;> simp [laws_FnExactBestStamps.j0])
 case rest =>
  clear HC5
  try clear c1
  try clear p2
  try clear c3
  try clear c8
  try clear c9
  try clear c10
  obtain ⟨kq, x33_4, rfl, HA, HJ4, HO_5, HO_7, HB⟩ := hcut
  cases kq with
  | zero => exact absurd HA.out (by simp [laws_FnExactBestStamps.j0])
  | succ kj4 =>
   have H := HA.out
   clear HA
   simp only [laws_FnExactBestStamps.j0] at H
   by_cases c14 : x33_4 = true
   · subst c14
     have H1 : (some false) = some r := by rw [if_pos rfl] at H; exact H
     exact absurd (H1.trans (congrArg some hr_.out)) (by simp)
   · replace c14 := Bool.eq_false_iff.mpr c14
     subst c14
     have H1 : ((laws_markIntS.f kj4 t441 1).bind fun bt446 => ((laws_heldIntS.f kj4 bt446.2 1).bind fun t448 => (if t448 < 0 then (some false) else (if t448 = bt446.1 then ((impl_BestStamps.f kj4 a0 a1).bind fun bt449 => ((laws_eqIntS.f kj4 bt449.1 t437).bind fun t453 => (if t453 = true then (laws_FnExactBestStamps.j1 kj4 bt446.2 bt446.1 (bt449.2 != t438)) else (laws_FnExactBestStamps.j1 kj4 bt446.2 bt446.1 true)))) else (some false))))) = some r := by rw [if_neg (show ¬ (false = true) by decide)] at H; exact H
     clear H
     have H := H1
     clear H1
     replace H := Option.bind_eq_some_iff.mp H
     obtain ⟨⟨t446, t447⟩, A150, H⟩ := H
     replace H : ((laws_heldIntS.f kj4 t447 1).bind fun t448 => (if t448 < 0 then (some false) else (if t448 = t446 then ((impl_BestStamps.f kj4 a0 a1).bind fun bt449 => ((laws_eqIntS.f kj4 bt449.1 t437).bind fun t453 => (if t453 = true then (laws_FnExactBestStamps.j1 kj4 t447 t446 (bt449.2 != t438)) else (laws_FnExactBestStamps.j1 kj4 t447 t446 true)))) else (some false)))) = some r := H
     have A15 := Aside0.mk A150
     clear A150
     replace H := Option.bind_eq_some_iff.mp H
     obtain ⟨t448, A160, H⟩ := H
     replace H : (if t448 < 0 then (some false) else (if t448 = t446 then ((impl_BestStamps.f kj4 a0 a1).bind fun bt449 => ((laws_eqIntS.f kj4 bt449.1 t437).bind fun t453 => (if t453 = true then (laws_FnExactBestStamps.j1 kj4 t447 t446 (bt449.2 != t438)) else (laws_FnExactBestStamps.j1 kj4 t447 t446 true)))) else (some false))) = some r := H
     have A16 := Aside0.mk A160
     clear A160
     by_cases c17 : t448 < 0
     · rw [if_pos c17] at H
       exact absurd (H.trans (congrArg some hr_.out)) (by simp)
     · rw [if_neg c17] at H
       have c17b0 : decide (t448 < 0) = false := decide_eq_false c17
       clear c17
       by_cases c20 : t448 = t446
       · rw [if_pos c20] at H
         have c20b0 : (t448 == t446) = true := beq_iff_eq.mpr c20
         have c20b1 : (t448 != t446) = false := bne_eq_false_iff_eq.mpr c20
         clear c20
         replace H := Option.bind_eq_some_iff.mp H
         obtain ⟨⟨t449, t450⟩, A210, H⟩ := H
         replace H : ((laws_eqIntS.f kj4 t449 t437).bind fun t453 => (if t453 = true then (laws_FnExactBestStamps.j1 kj4 t447 t446 (t450 != t438)) else (laws_FnExactBestStamps.j1 kj4 t447 t446 true))) = some r := H
         have A21 := Aside0.mk A210
         clear A210
         have HC22 := Aside0.mk H
         clear H
         obtain ⟨Ao23, co23, eo23⟩ := Kd.R_slice HO_7.out
         subst eo23
         go_upto_region 14 with (first | ((with_reducible refine gate_callee (f := 11) rfl ?_); refine goesL_ (some 36) rfl rfl Try.func11 (by kernel_rfl) rfl #[.slice Ao23 t441.length co23, .int .i64 1] rfl (by (try simp only [List.map_toArray, List.map_cons, List.map_nil]); first | done | rfl | (simp only [List.length_drop, List.length_take]; rfl)) ?_; (with_reducible refine (laws_markIntS.calls kj4 (fun k_ => some k_ = (.slice Ao23 t441.length co23 : Value).ownBlock) (.slice Ao23 t441.length co23) t441 1 t446 t447 w _ ?side1 ?side2 A15.out).mono ?_); (case side1 => repeat (first | (with_reducible first | exact HB.out | apply below_alloc | apply pw_below_drewN | apply below_drew1) | exact HB.out)); (case side2 => exact Kd.R_tight rfl HO_7.out); rintro e w24 ⟨rfl, hy0, hb, hkp⟩; refine ⟨_, rfl, ?_⟩; have n0_ := Aside0.mk (Kd.R_mono (ok' := fun k_ => some k_ ≠ (.slice Ao23 t441.length co23 : Value).ownBlock) (Kd.R_keptB (HO_5.out) hkp (fun k_ hk_ hs_ => (hk_) hs_)) (fun k_ hk_ => hk_.1)); have n1_ := Aside0.mk (Kd.R_reok rfl hy0 (fun k_ e_ => HO_7.out.1 k_ e_)); have n2_ := Aside0.mk (hb); clear HO_5; clear HO_7; clear HB; have HO_5 := n0_; have HO_7 := n1_; have HB := n2_; clear n0_ n1_ n2_; (try clear hb); (try clear hkp); (try clear hy0)) | ((with_reducible refine gate_callee (f := 12) rfl ?_); refine goesL_ (some 39) rfl rfl Try.func12 (by kernel_rfl) rfl #[.slice Ao23 t447.length co23, .int .i64 1] rfl (by (try simp only [List.map_toArray, List.map_cons, List.map_nil]); first | done | (rw [show t447.length = t441.length from (Kd.R_reads' HO_7.out).1.symm] <;> rfl) | rfl | (simp only [List.length_drop, List.length_take]; rfl)) ?_; (with_reducible refine (laws_heldIntS.calls kj4 _ _ t447 1 t448 _ ?side1 ?side2 A16.out).mono ?_); (case side1 => exact ce_ ((Kd.R_reads' HO_7.out).2.2)); (case side2 => rw [show t447.length = t441.length from (Kd.R_reads' HO_7.out).1.symm]; exact (Kd.R_reads' HO_7.out).2.1); rintro e w' ⟨rfl, ⟨nd, rfl⟩⟩; refine ⟨_, rfl, ?_⟩) | ((with_reducible refine gate_callee (f := 9) rfl ?_); refine goesL_ (some 48) rfl rfl Try.func9 (by kernel_rfl) rfl #[.int .i64 a0, .int .i64 a1] rfl (by (try simp only [List.map_toArray, List.map_cons, List.map_nil]); first | done | rfl | (simp only [List.length_drop, List.length_take]; rfl)) ?_; (with_reducible refine (impl_BestStamps.calls kj4 a0 a1 t449 t450 _ A21.out).mono ?_); rintro e w25 ⟨v451, rfl, ho0, hb⟩; refine ⟨_, rfl, ?_⟩; have n0_ := Aside0.mk (Kd.R_elder' (re_ HO_5.out) (Kd.R_base ho0) hb); have n1_ := Aside0.mk (Kd.R_elder' (re_ HO_7.out) (Kd.R_base ho0) hb); have n2_ := Aside0.mk (Kd.R_lower (Kd.R_new' (Kd.R_new' ho0 (Kd.R_lt (re_ HO_5.out))) (Kd.R_lt (re_ HO_7.out))) (below_size (bl_ HB.out))); have n3_ := Aside0.mk (below_step (bl_ HB.out) hb); clear HO_5; clear HO_7; clear HB; have HO_5 := n0_; have HO_7 := n1_; have HO452 := n2_; have HB := n3_; clear n0_ n1_ n2_ n3_; (try clear hb); (try clear hb2); (try clear hk); (try clear hi); (try clear ho0)))
         (try simp only [Act.put, z1_, z2_, z3_])
         go_cut [59] (fun v59 wc => ∃ (kq : Nat) (x59_21 : Bool), v59 = .bool x59_21 ∧ Aside0 (laws_FnExactBestStamps.j1 kq t447 t446 x59_21 = some r) ∧ Aside0 (kq ≤ kj4) ∧ Aside0 (Kd.R (Kd.int .i64) 3 wc w.heap.size (fun _ => True) (.slice Ao23 t441.length co23) t447) ∧ Aside0 (Below w.heap.size w wc))
         case first =>
          have H := HC22.out
          clear HC22
          replace H := Option.bind_eq_some_iff.mp H
          obtain ⟨t453, A260, H⟩ := H
          replace H : (if t453 = true then (laws_FnExactBestStamps.j1 kj4 t447 t446 (t450 != t438)) else (laws_FnExactBestStamps.j1 kj4 t447 t446 true)) = some r := H
          have A26 := Aside0.mk A260
          clear A260
          by_cases c27 : t453 = true
          · subst c27
            have H1 : (laws_FnExactBestStamps.j1 kj4 t447 t446 (t450 != t438)) = some r := by rw [if_pos rfl] at H; exact H
            clear H
            have H := H1
            clear H1
            have H' := Aside0.mk H
            clear H
            obtain ⟨Ao28, co28, eo28⟩ := Kd.R_slice HO452.out
            subst eo28
            obtain ⟨Ao29, co29, eo29⟩ := Kd.R_slice HO_5.out
            subst eo29
            go_wp2_with (first | ((with_reducible refine gate_callee (f := 10) rfl ?_); refine goesL_ (some 53) rfl rfl Try.func10 (by kernel_rfl) rfl #[.slice Ao28 t449.length co28, .slice Ao29 t437.length co29] rfl (by (try simp only [List.map_toArray, List.map_cons, List.map_nil]); first | done | rfl | (simp only [List.length_drop, List.length_take]; rfl)) ?_; (with_reducible refine (laws_eqIntS.calls kj4 _ _ t449 _ _ t437 true _ ?side1 ?side2 ?side3 ?side4 A26.out).mono ?_); (case side1 => exact ce_ ((Kd.R_reads' HO452.out).2.2)); (case side2 => exact (Kd.R_reads' HO452.out).2.1); (case side3 => exact ce_ ((Kd.R_reads' HO_5.out).2.2)); (case side4 => exact (Kd.R_reads' HO_5.out).2.1); rintro e w' ⟨rfl, ⟨nd, rfl⟩⟩; refine ⟨_, rfl, ?_⟩))
            go_meet
            case rel => exact ⟨_, ((t450 != t438)), (by first | rfl | (simp; done) | (simp [*]; done)), H', ⟨by have := HJ4.out; first | omega | exact Nat.le_refl _⟩, ⟨by (with_reducible repeat (first | apply Kd.R_alloc | apply Kd.R_drewN | apply Kd.R_drew)); exact Kd.R_mono HO_7.out (fun _ hk => trivial)⟩, ⟨bl_ HB.out⟩⟩
          · replace c27 := Bool.eq_false_iff.mpr c27
            subst c27
            have H1 : (laws_FnExactBestStamps.j1 kj4 t447 t446 true) = some r := by rw [if_neg (show ¬ (false = true) by decide)] at H; exact H
            exact absurd (H1.trans (congrArg some hr_.out)) (by cases kj4 <;> simp [laws_FnExactBestStamps.j1])
         case rest =>
          clear HC22
          try clear c1
          try clear c2
          try clear p2
          try clear c3
          try clear c8
          try clear c9
          try clear c10
          try clear c11
          try clear c12
          try clear c14
          try clear c17
          try clear c17b0
          try clear c20
          try clear c20b0
          try clear c20b1
          try clear c27
          try clear p2
          obtain ⟨kq, x59_21, rfl, HA, HJ21, HO_7, HB⟩ := hcut
          have hl7_21 := (Kd.R_reads' HO_7.out).1
          rw [hl7_21] at HO_7
          (try simp only [hl7_21])
          cases kq with
          | zero => exact absurd HA.out (by simp [laws_FnExactBestStamps.j1])
          | succ kj21 =>
           have H := HA.out
           clear HA
           simp only [laws_FnExactBestStamps.j1] at H
           by_cases c32 : x59_21 = true
           · subst c32
             have H1 : (some false) = some r := by rw [if_pos rfl] at H; exact H
             exact absurd (H1.trans (congrArg some hr_.out)) (by simp)
           · replace c32 := Bool.eq_false_iff.mpr c32
             subst c32
             have H1 : ((laws_heldIntS.f kj21 t447 1).bind fun t454 => (if t454 < 0 then (some false) else (if t454 = t446 then (some true) else (some false)))) = some r := by rw [if_neg (show ¬ (false = true) by decide)] at H; exact H
             clear H
             have H := H1
             clear H1
             replace H := Option.bind_eq_some_iff.mp H
             obtain ⟨t454, A330, H⟩ := H
             replace H : (if t454 < 0 then (some false) else (if t454 = t446 then (some true) else (some false))) = some r := H
             have A33 := Aside0.mk A330
             clear A330
             by_cases c34 : t454 < 0
             · rw [if_pos c34] at H
               exact absurd (H.trans (congrArg some hr_.out)) (by simp)
             · rw [if_neg c34] at H
               have c34b0 : decide (t454 < 0) = false := decide_eq_false c34
               clear c34
               by_cases c35 : t454 = t446
               · rw [if_pos c35] at H
                 have c35b0 : (t454 == t446) = true := beq_iff_eq.mpr c35
                 have c35b1 : (t454 != t446) = false := bne_eq_false_iff_eq.mpr c35
                 clear c35
                 obtain rfl := Option.some.inj H
                 go_wp2_with (first | ((with_reducible refine gate_callee (f := 12) rfl ?_); refine goesL_ (some 62) rfl rfl Try.func12 (by kernel_rfl) rfl #[.slice Ao23 t447.length co23, .int .i64 1] rfl (by (try simp only [List.map_toArray, List.map_cons, List.map_nil]); first | done | rfl | (simp only [List.length_drop, List.length_take]; rfl)) ?_; (with_reducible refine (laws_heldIntS.calls kj21 _ _ t447 1 t454 _ ?side1 ?side2 A33.out).mono ?_); (case side1 => exact ce_ ((Kd.R_reads' HO_7.out).2.2)); (case side2 => exact (Kd.R_reads' HO_7.out).2.1); rintro e w' ⟨rfl, ⟨nd, rfl⟩⟩; refine ⟨_, rfl, ?_⟩))
                 go_ret
                 exact ⟨by first | rfl | (simp [errW_none, errW_some] <;> rfl) | (simp [*, errW_none, errW_some] <;> rfl), bl_ HB.out⟩
               · rw [if_neg c35] at H
                 exact absurd (H.trans (congrArg some hr_.out)) (by simp)
       · rw [if_neg c20] at H
         exact absurd (H.trans (congrArg some hr_.out)) (by simp)
def laws_FnExactBestStamps.Pure : Prop := ∀ (a0 : Int) (a1 : Int), (Lit.int .i64 a0).wf = true → (Lit.int .i64 a1).wf = true → ∃ k, laws_FnExactBestStamps.f k a0 a1 = some true
theorem laws_FnExactBestStamps.walk (P : laws_FnExactBestStamps.Pure) (a0 : Int) (a1 : Int) (w : World) (w0 : (Lit.int .i64 a0).wf = true) (w1 : (Lit.int .i64 a1).wf = true) :
 Calls Try.prog 3 #[.int .i64 a0, .int .i64 a1] w fun e w' => e = .returned (.bool true) ∧ Below w.heap.size w w' := by
 obtain ⟨k, h⟩ := P a0 a1 w0 w1
 refine (laws_FnExactBestStamps.calls k a0 a1 true w h).mono ?_
 rintro e w' ⟨rfl, hd⟩
 exact ⟨rfl, hd⟩
end Go.Proofs.Ythkhpejggdnkfaa.PB
end
section
namespace Go.Proofs.Ythkhpejggdnkfaa.E
open Go.RowKit Go.Proofs.YthkhpejggdnkfaaW.PrintWords Go.Proofs.YthkhpejggdnkfaaW.PrintLast Go.Proofs.YthkhpejggdnkfaaW.PrintMore
set_option linter.unusedVariables false
set_option linter.unusedSimpArgs false
theorem w64 {x : Int} (h1 : -9223372036854775808 ≤ x) (h2 : x ≤ 9223372036854775807) : wrap64 x = x := by
 unfold wrap64; omega
theorem nd_t {p : Prop} [Decidable p] (h : ¬ p) : (!decide p) = true := by simp [h]
theorem nd_f {p : Prop} [Decidable p] (h : p) : ¬ (!decide p) = true := by simp [h]
theorem ev_ifp {α : Type} {c : Prop} [Decidable c] {a b : Nat → Option α} {r : α} (h : c) (k : Ev a r) : Ev (fun n => if c then a n else b n) r :=
 Ev.congr (fun _ => if_pos h) k
theorem ev_ifn {α : Type} {c : Prop} [Decidable c] {a b : Nat → Option α} {r : α} (h : ¬ c) (k : Ev b r) : Ev (fun n => if c then a n else b n) r :=
 Ev.congr (fun _ => if_neg h) k
theorem ev_eq {α : Type} {o : Option α} {r : α} (h : o = some r) : Ev (fun _ => o) r := ⟨0, fun _ _ => h⟩
theorem ev_bind {α β : Type} {g : Nat → Option α} {f : Nat → α → Option β} (a : α) {r : β} (h : Ev g a) (k : Ev (fun n => f n a) r) : Ev (fun n => (g n).bind (f n)) r := Ev.bind h k
theorem ev_to {α : Type} {g : Nat → Option α} {a b : α} (h : Ev g a) (e : a = b) : Ev g b := e ▸ h
theorem rd_lt {l : List Int} {i : Int} (h0 : 0 ≤ i) (h : i < l.length) : rd l i = l[i.toNat]'(by omega) := by
 unfold rd; rw [List.getD_eq_getElem?_getD, List.getElem?_eq_getElem (by omega)]; rfl
theorem rd_mem {l : List Int} {i : Int} (h0 : 0 ≤ i) (h : i < l.length) : rd l i ∈ l := by
 rw [rd_lt h0 h]; exact List.getElem_mem _
theorem drop_rd {l : List Int} {i : Int} (h0 : 0 ≤ i) (h : i < l.length) : l.drop i.toNat = rd l i :: l.drop (i + 1).toNat := by
 rw [rd_lt h0 h, List.drop_eq_getElem_cons (by omega)]
 congr 2; omega
theorem take_rd {l : List Int} {i : Int} (h0 : 0 ≤ i) (h : i < l.length) : l.take (i + 1).toNat = l.take i.toNat ++ [rd l i] := by
 rw [rd_lt h0 h, show (i + 1).toNat = i.toNat + 1 from by omega, List.take_succ_eq_append_getElem (by omega)]
theorem rd_ext {l m : List Int} (hl : l.length = m.length) (h : ∀ i : Int, 0 ≤ i → i < l.length → rd l i = rd m i) : l = m := by
 refine List.ext_getElem hl fun n h1 h2 => ?_
 have := h n (by omega) (by omega)
 rw [rd_lt (by omega) (by omega), rd_lt (by omega) (by omega)] at this
 simpa using this
theorem rd_set {l : List Int} {i j : Int} (x : Int) (hi : 0 ≤ i) (hi' : i < l.length) (hj : 0 ≤ j) : rd (l.set i.toNat x) j = if j = i then x else rd l j := by
 unfold rd
 rw [List.getD_eq_getElem?_getD, List.getD_eq_getElem?_getD, List.getElem?_set]
 by_cases h : j = i
 · subst h; rw [if_pos rfl, if_pos rfl, if_pos (by omega)]; rfl
 · rw [if_neg h, if_neg (by omega)]
theorem rd_append {l m : List Int} {i : Int} (hi : 0 ≤ i) : rd (l ++ m) i = if i < l.length then rd l i else rd m (i - l.length) := by
 unfold rd
 rw [List.getD_eq_getElem?_getD, List.getD_eq_getElem?_getD, List.getD_eq_getElem?_getD, List.getElem?_append]
 by_cases h : i < l.length
 · rw [if_pos h, if_pos (by omega)]
 · rw [if_neg h, if_neg (by omega), show i.toNat - l.length = (i - l.length).toNat from by omega]
theorem rd_rep {n : Nat} {x : Int} {i : Int} (hi : 0 ≤ i) (h : i < n) : rd (List.replicate n x) i = x := by
 rw [rd_lt hi (by simpa using h)]; simp
theorem mem_rd {l : List Int} {x : Int} (h : x ∈ l) : ∃ i : Int, 0 ≤ i ∧ i < l.length ∧ rd l i = x := by
 obtain ⟨n, hn, rfl⟩ := List.mem_iff_getElem.1 h
 exact ⟨n, by omega, by omega, by rw [rd_lt (by omega) (by omega)]; simp⟩
def marks (a : Int) : Nat → List Int
 | 0 => []
 | n + 1 => a :: marks (a + 1) n
theorem marks_len (a : Int) (n : Nat) : (marks a n).length = n := by
 induction n generalizing a with
 | zero => rfl
 | succ n ih => simp [marks, ih]
theorem marks_rd (a : Int) (n : Nat) (i : Int) (h0 : 0 ≤ i) (h : i < n) : rd (marks a n) i = a + i := by
 induction n generalizing a i with
 | zero => omega
 | succ n ih =>
  by_cases h1 : i = 0
  · subst h1; simp [marks, rd]
  · have := ih (a + 1) (i - 1) (by omega) (by omega)
    unfold rd at this ⊢
    rw [marks, show i.toNat = (i - 1).toNat + 1 from by omega, List.getD_cons_succ, this]
    omega
end Go.Proofs.Ythkhpejggdnkfaa.E
end
section
namespace Go.Proofs.Ythkhpejggdnkfaa.E
open Go.RowKit Go.Proofs.Ythkhpejggdnkfaa.PB Go.Proofs.YthkhpejggdnkfaaW.PrintWords Go.Proofs.YthkhpejggdnkfaaW.PrintLast Go.Proofs.YthkhpejggdnkfaaW.PrintMore
set_option linter.unusedVariables false
set_option linter.unusedSimpArgs false
theorem l1In_eq (n lo hi : Int) : spec_l1In.f n lo hi = some (decide (lo ≤ n ∧ n ≤ hi)) := by
 unfold spec_l1In.f; by_cases h : n ≥ lo
 · rw [if_pos h]; simp [h]
 · rw [if_neg h]; simp [show ¬ lo ≤ n from h]
theorem within_eq (n lo hi : Int) : impl_within.f n lo hi = some (decide (lo ≤ n ∧ n ≤ hi)) := l1In_eq n lo hi
theorem allWithin_l {l : List Int} {lo hi : Int} (hl : l.length ≤ 1099511627776) (d : Nat) : ∀ (i : Int), 0 ≤ i → i + d = l.length → Ev (fun k => impl_allWithin.l0 k lo hi l l.length i) (decide (∀ x ∈ l.drop i.toNat, lo ≤ x ∧ x ≤ hi)) := by
 induction d with
 | zero =>
  intro i h0 h1
  refine Ev.step (fun k => by rw [impl_allWithin.l0]) ?_
  simp (disch := omega) only [if_neg]
  refine ev_to (Ev.now _) ?_
  rw [List.drop_of_length_le (by omega)]; simp
 | succ d ih =>
  intro i h0 h1
  refine Ev.step (fun k => by rw [impl_allWithin.l0]) ?_
  simp (disch := omega) only [if_pos, w64, within_eq, Option.bind_some]
  rw [drop_rd h0 (by omega)]
  by_cases h : lo ≤ rd l i ∧ rd l i ≤ hi
  · refine ev_ifp (by simpa using h) (ev_to (ih (i + 1) (by omega) (by omega)) ?_)
    simp [h]
  · refine ev_ifn (by simpa using h) (ev_to (Ev.now _) ?_)
    simp only [List.mem_cons, forall_eq_or_imp, h, false_and, decide_false]
theorem allWithin_ev {l : List Int} (lo hi : Int) (hl : l.length ≤ 1099511627776) : Ev (fun k => impl_allWithin.f k l lo hi) (decide (∀ x ∈ l, lo ≤ x ∧ x ≤ hi)) :=
 ev_to (allWithin_l hl l.length 0 (by omega) (by omega)) (by simp)
def Asc (l : List Int) : Prop := ∀ i : Int, 0 < i → i < l.length → rd l (i - 1) < rd l i
noncomputable instance (l : List Int) : Decidable (Asc l) := Classical.propDecidable _
theorem asc_l {l : List Int} (hl : l.length ≤ 1099511627776) (d : Nat) : ∀ (i : Int), 0 < i → i + d = max 1 l.length → (∀ j, 0 < j → j < i → rd l (j - 1) < rd l j) → Ev (fun k => impl_IsAscending.l0 k l i) (decide (Asc l)) ∧ Ev (fun k => spec_IsAscending.l0 k l i) (decide (Asc l)) := by
 induction d with
 | zero =>
  intro i h0 h1 h2
  have ha : Asc l := fun j hj hj' => h2 j hj (by omega)
  constructor
  · refine Ev.step (fun k => by rw [impl_IsAscending.l0]) ?_
    simp (disch := omega) only [if_neg]
    exact ev_to (Ev.now _) (by simp [ha])
  · refine Ev.step (fun k => by rw [spec_IsAscending.l0]) ?_
    simp (disch := omega) only [if_neg]
    exact ev_to (Ev.now _) (by simp [ha])
 | succ d ih =>
  intro i h0 h1 h2
  by_cases h : rd l (i - 1) < rd l i
  · obtain ⟨a, b⟩ := ih (i + 1) (by omega) (by omega) (fun j hj hj' => by
     by_cases e : j = i
     · subst e; exact h
     · exact h2 j hj (by omega))
    constructor
    · refine Ev.step (fun k => by rw [impl_IsAscending.l0]) ?_
      simp (disch := omega) only [if_pos, if_neg, w64]
      exact a
    · refine Ev.step (fun k => by rw [spec_IsAscending.l0]) ?_
      simp (disch := omega) only [if_pos, if_neg, w64]
      exact b
  · have hn : ¬ Asc l := fun ha => h (ha i h0 (by omega))
    constructor
    · refine Ev.step (fun k => by rw [impl_IsAscending.l0]) ?_
      simp (disch := omega) only [if_pos, w64]
      exact ev_to (Ev.now _) (by simp [hn])
    · refine Ev.step (fun k => by rw [spec_IsAscending.l0]) ?_
      simp (disch := omega) only [if_pos, w64]
      exact ev_to (Ev.now _) (by simp [hn])
theorem ascI_ev {l : List Int} (hl : l.length ≤ 1099511627776) : Ev (fun k => impl_IsAscending.f k l) (decide (Asc l)) :=
 (asc_l hl (l.length - 1) 1 (by omega) (by omega) (fun j h h' => by omega)).1
theorem ascS_ev {l : List Int} (hl : l.length ≤ 1099511627776) : Ev (fun k => spec_IsAscending.f k l) (decide (Asc l)) :=
 (asc_l hl (l.length - 1) 1 (by omega) (by omega) (fun j h h' => by omega)).2
end Go.Proofs.Ythkhpejggdnkfaa.E
end
section
namespace Go.Proofs.Ythkhpejggdnkfaa.E
open Go.RowKit Go.Proofs.Ythkhpejggdnkfaa.PB Go.Proofs.YthkhpejggdnkfaaW.PrintWords Go.Proofs.YthkhpejggdnkfaaW.PrintLast Go.Proofs.YthkhpejggdnkfaaW.PrintMore
set_option linter.unusedVariables false
set_option linter.unusedSimpArgs false
def AreSt (l : List Int) : Prop := (1 ≤ (l.length : Int) ∧ (l.length : Int) ≤ 6) ∧ (∀ x ∈ l, 1 ≤ x ∧ x ≤ 60) ∧ Asc l
noncomputable instance (l : List Int) : Decidable (AreSt l) := Classical.propDecidable _
theorem areStampsI_ev {l : List Int} (hl : l.length ≤ 1099511627776) : Ev (fun k => impl_AreStamps.f k l) (decide (AreSt l)) := by
 unfold impl_AreStamps.f
 simp only [within_eq, Option.bind_some]
 by_cases h1 : 1 ≤ (l.length : Int) ∧ (l.length : Int) ≤ 6
 · refine ev_ifp (by simpa using h1) (ev_bind _ (allWithin_ev 1 60 hl) ?_)
   by_cases h2 : ∀ x ∈ l, 1 ≤ x ∧ x ≤ 60
   · refine ev_ifp (by simpa using h2) (ev_bind _ (ascI_ev hl) (ev_to (Ev.now _) ?_))
     rw [Bool.eq_iff_iff]; simp only [decide_eq_true_eq]
     exact ⟨fun h => ⟨h1, h2, h⟩, fun h => h.2.2⟩
   · exact ev_ifn (by rw [decide_eq_true_eq]; exact h2) (ev_to (Ev.now _) (decide_eq_false (fun h => h2 h.2.1)).symm)
 · exact ev_ifn (by simpa using h1) (ev_to (Ev.now _) (decide_eq_false (fun h => h1 h.1)).symm)
theorem areStampsS_l {l : List Int} (hl : l.length ≤ 1099511627776) (d : Nat) : ∀ (i : Int), 0 ≤ i → i + d = l.length → (∀ j, 0 ≤ j → j < i → 1 ≤ rd l j ∧ rd l j ≤ 60) → Ev (fun k => spec_AreStamps.l0 k l i) (decide (AreSt l)) := by
 induction d with
 | zero =>
  intro i h0 h1 h2
  refine Ev.step (fun k => by rw [spec_AreStamps.l0]) (ev_ifn (by omega) ?_)
  simp only [l1In_eq, Option.bind_some]
  have h2' : ∀ x ∈ l, 1 ≤ x ∧ x ≤ 60 := fun x hx => by
   obtain ⟨j, hj, hj', rfl⟩ := mem_rd hx
   exact h2 j hj (by omega)
  by_cases h1 : 1 ≤ (l.length : Int) ∧ (l.length : Int) ≤ 6
  · refine ev_ifp (by simpa using h1) (ev_bind _ (ascS_ev hl) (ev_to (Ev.now _) ?_))
    rw [Bool.eq_iff_iff]; simp only [decide_eq_true_eq]
    exact ⟨fun h => ⟨h1, h2', h⟩, fun h => h.2.2⟩
  · exact ev_ifn (by simpa using h1) (ev_to (Ev.now _) (decide_eq_false (fun h => h1 h.1)).symm)
 | succ d ih =>
  intro i h0 h1 h2
  refine Ev.step (fun k => by rw [spec_AreStamps.l0]) (ev_ifp (by omega) (ev_ifp h0 ?_))
  simp only [l1In_eq, Option.bind_some]
  rw [w64 (by omega) (by omega)]
  by_cases h : 1 ≤ rd l i ∧ rd l i ≤ 60
  · refine ev_ifp (by simpa using h) (ih (i + 1) (by omega) (by omega) fun j hj hj' => ?_)
    by_cases e : j = i
    · subst e; exact h
    · exact h2 j hj (by omega)
  · exact ev_ifn (by simpa using h) (ev_to (Ev.now _) (decide_eq_false (fun hc => h (hc.2.1 _ (rd_mem h0 (by omega))))).symm)
theorem areStampsS_ev {l : List Int} (hl : l.length ≤ 1099511627776) : Ev (fun k => spec_AreStamps.f k l) (decide (AreSt l)) :=
 areStampsS_l hl l.length 0 (by omega) (by omega) (fun j h h' => by omega)
end Go.Proofs.Ythkhpejggdnkfaa.E
end
section
namespace Go.Proofs.Ythkhpejggdnkfaa.E
open Go.RowKit Go.Proofs.YthkhpejggdnkfaaW.PrintWords Go.Proofs.YthkhpejggdnkfaaW.PrintLast Go.Proofs.YthkhpejggdnkfaaW.PrintMore
set_option linter.unusedVariables false
set_option linter.unusedSimpArgs false
inductive Way (v : List Int) : Int → Int → Prop
 | zero : Way v 0 0
 | add {x k c : Int} : x ∈ v → Way v k c → Way v (k + x) (c + 1)
theorem Way.mono {v u : List Int} (h : ∀ x ∈ v, x ∈ u) {k c : Int} (w : Way v k c) : Way u k c := by
 induction w with
 | zero => exact .zero
 | add hx _ ih => exact .add (h _ hx) ih
theorem Way.pos {v : List Int} (h : ∀ x ∈ v, 1 ≤ x) {k c : Int} (w : Way v k c) : 0 ≤ c ∧ c ≤ k := by
 induction w with
 | zero => omega
 | add hx _ ih => have := h _ hx; omega
theorem Way.part {v u : List Int} {k c : Int} (w : Way v k c) : Way u k c ∨ ∃ y ∈ v, y ∉ u ∧ Way v (k - y) (c - 1) := by
 induction w with
 | zero => exact .inl .zero
 | @add x k c hx hw ih =>
  by_cases hu : x ∈ u
  · rcases ih with h | ⟨y, hy, hyu, h⟩
    · exact .inl (.add hu h)
    · refine .inr ⟨y, hy, hyu, ?_⟩
      have := Way.add hx h
      rwa [show k - y + x = k + x - y from by omega, show c - 1 + 1 = c + 1 - 1 from by omega] at this
  · exact .inr ⟨x, hx, hu, by rwa [show k + x - x = k from by omega, show c + 1 - 1 = c from by omega]⟩
theorem Way.last {v : List Int} {k c : Int} (w : Way v k c) : (k = 0 ∧ c = 0) ∨ ∃ x ∈ v, Way v (k - x) (c - 1) := by
 cases w with
 | zero => exact .inl ⟨rfl, rfl⟩
 | @add x k c hx hw => exact .inr ⟨x, hx, by rwa [show k + x - x = k from by omega, show c + 1 - 1 = c from by omega]⟩
theorem Way.split {u : List Int} {x : Int} {k c : Int} (w : Way (u ++ [x]) k c) : ∃ j : Nat, Way u (k - j * x) (c - j) := by
 induction w with
 | zero => exact ⟨0, by simpa using Way.zero⟩
 | @add y k c hy _ ih =>
  obtain ⟨j, h⟩ := ih
  rcases List.mem_append.1 hy with hu | hx
  · refine ⟨j, ?_⟩
    have := Way.add hu h
    rwa [show k - j * x + y = k + y - j * x from by omega, show c - (j : Int) + 1 = c + 1 - j from by omega] at this
  · obtain rfl : y = x := by simpa using hx
    refine ⟨j + 1, ?_⟩
    rw [show ((j + 1 : Nat) : Int) * y = j * y + y from by rw [Int.natCast_add, Int.add_mul]; simp, show k + y - (j * y + y) = k - j * y from by omega, show c + 1 - ((j + 1 : Nat) : Int) = c - j from by omega]
    exact h
def Fw (v : List Int) (k m : Int) : Prop := (m = -1 ∧ ∀ c, ¬ Way v k c) ∨ (Way v k m ∧ ∀ c, Way v k c → m ≤ c)
theorem Fw.one {v : List Int} (hv : ∀ x ∈ v, 1 ≤ x) {k m m' : Int} (h : Fw v k m) (h' : Fw v k m') : m = m' := by
 rcases h with ⟨h1, h2⟩ | ⟨h1, h2⟩ <;> rcases h' with ⟨h3, h4⟩ | ⟨h3, h4⟩
 · omega
 · exact absurd h3 (h2 _)
 · exact absurd h1 (h4 _)
 · have := h2 _ h3; have := h4 _ h1; omega
theorem Fw.neg {v : List Int} (hv : ∀ x ∈ v, 1 ≤ x) {k m : Int} (h : Fw v k m) : m < 0 ↔ ∀ c, ¬ Way v k c := by
 rcases h with ⟨h1, h2⟩ | ⟨h1, h2⟩
 · exact ⟨fun _ => h2, fun _ => by omega⟩
 · have := h1.pos hv
   exact ⟨fun h => by omega, fun h => absurd h1 (h _)⟩
theorem Fw.ge {v : List Int} (hv : ∀ x ∈ v, 1 ≤ x) {k m : Int} (h : Fw v k m) : -1 ≤ m := by
 rcases h with ⟨h1, h2⟩ | ⟨h1, h2⟩
 · omega
 · have := h1.pos hv; omega
theorem Fw.le {v : List Int} (hv : ∀ x ∈ v, 1 ≤ x) {k m : Int} (h : Fw v k m) (hk : 0 ≤ k) : m ≤ k := by
 rcases h with ⟨h1, h2⟩ | ⟨h1, h2⟩
 · omega
 · have := h1.pos hv; omega
theorem Fw.way {v : List Int} {k m : Int} (h : Fw v k m) (hm : 0 ≤ m) : Way v k m ∧ ∀ c, Way v k c → m ≤ c := by
 rcases h with ⟨h1, h2⟩ | h
 · omega
 · exact h
theorem Fw.nil {k : Int} (hk : 0 ≤ k) : Fw [] k (if k = 0 then 0 else -1) := by
 by_cases h : k = 0
 · subst h
   exact .inr ⟨.zero, fun c w => (w.pos (by simp)).1⟩
 · rw [if_neg h]
   refine .inl ⟨rfl, fun c w => ?_⟩
   rcases w.last with ⟨h1, _⟩ | ⟨x, hx, _⟩
   · exact h h1
   · simp at hx
theorem Fw.below {u : List Int} {x k m : Int} (hu : ∀ y ∈ u, 1 ≤ y) (hk : k < x) (h : Fw u k m) (h0 : 0 ≤ k) : Fw (u ++ [x]) k m := by
 have hv : ∀ y ∈ u ++ [x], 1 ≤ y := by
  intro y hy
  rcases List.mem_append.1 hy with hy | hy
  · exact hu y hy
  · have : y = x := by simpa using hy
    omega
 have key : ∀ c, Way (u ++ [x]) k c → Way u k c := by
  intro c w
  obtain ⟨j, hj⟩ := w.split
  by_cases h : j = 0
  · subst h; simpa using hj
  · exfalso
    have := hj.pos hu
    have hj1 : x ≤ (j : Int) * x := by
     have := Int.mul_le_mul_of_nonneg_right (show (1 : Int) ≤ j from by omega) (show 0 ≤ x from by omega)
     omega
    omega
 rcases h with ⟨h1, h2⟩ | ⟨h1, h2⟩
 · exact .inl ⟨h1, fun c w => h2 c (key c w)⟩
 · exact .inr ⟨h1.mono (fun y hy => List.mem_append.2 (.inl hy)), fun c w => h2 c (key c w)⟩
theorem Fw.next {u : List Int} {x k m p : Int} (hu : ∀ y ∈ u, 1 ≤ y) (hx : 1 ≤ x) (h : Fw u k m) (hp : Fw (u ++ [x]) (k - x) p) :
 Fw (u ++ [x]) k (if p ≥ 0 then (if m < 0 then p + 1 else if p + 1 < m then p + 1 else m) else m) := by
 have hv : ∀ y ∈ u ++ [x], 1 ≤ y := by
  intro y hy
  rcases List.mem_append.1 hy with hy | hy
  · exact hu y hy
  · have : y = x := by simpa using hy
    omega
 have key : ∀ c, Way (u ++ [x]) k c → Way u k c ∨ Way (u ++ [x]) (k - x) (c - 1) := by
  intro c w
  rcases w.part (u := u) with h | ⟨y, hy, hyu, h⟩
  · exact .inl h
  · rcases List.mem_append.1 hy with hy | hy
    · exact absurd hy hyu
    · obtain rfl : y = x := by simpa using hy
      exact .inr h
 have hup : ∀ c, Way u k c → Way (u ++ [x]) k c := fun c w => w.mono (fun y hy => List.mem_append.2 (.inl hy))
 have hone : ∀ c, Way (u ++ [x]) (k - x) c → Way (u ++ [x]) k (c + 1) := fun c w => by
  have := Way.add (show x ∈ u ++ [x] by simp) w
  rwa [show k - x + x = k from by omega] at this
 have hm := h.neg hu
 have hpn := hp.neg hv
 by_cases c1 : p ≥ 0
 · rw [if_pos c1]
   obtain ⟨p1, p2⟩ := hp.way c1
   by_cases c2 : m < 0
   · rw [if_pos c2]
     refine .inr ⟨hone _ p1, fun c w => ?_⟩
     rcases key c w with h1 | h1
     · exact absurd h1 (hm.1 c2 c)
     · have := p2 _ h1; omega
   · rw [if_neg c2]
     obtain ⟨m1, m2⟩ := h.way (by omega)
     by_cases c3 : p + 1 < m
     · rw [if_pos c3]
       refine .inr ⟨hone _ p1, fun c w => ?_⟩
       rcases key c w with h1 | h1
       · have := m2 _ h1; omega
       · have := p2 _ h1; omega
     · rw [if_neg c3]
       refine .inr ⟨hup _ m1, fun c w => ?_⟩
       rcases key c w with h1 | h1
       · exact m2 _ h1
       · have := p2 _ h1; omega
 · rw [if_neg c1]
   rcases h with ⟨h1, h2⟩ | ⟨h1, h2⟩
   · refine .inl ⟨h1, fun c w => ?_⟩
     rcases key c w with h3 | h3
     · exact h2 _ h3
     · exact hpn.1 (by omega) _ h3
   · refine .inr ⟨hup _ h1, fun c w => ?_⟩
     rcases key c w with h3 | h3
     · exact h2 _ h3
     · exact absurd h3 (hpn.1 (by omega) _)
end Go.Proofs.Ythkhpejggdnkfaa.E
end
section
namespace Go.Proofs.Ythkhpejggdnkfaa.E
open Go.RowKit Go.Proofs.YthkhpejggdnkfaaW.PrintWords Go.Proofs.YthkhpejggdnkfaaW.PrintLast Go.Proofs.YthkhpejggdnkfaaW.PrintMore
set_option linter.unusedVariables false
set_option linter.unusedSimpArgs false
def TB (B : Int) (v : List Int) (k m : Int) : Prop := 0 ≤ m ∧ m ≤ B ∧ (∀ c, Way v k c → m ≤ c) ∧ (m < B → Way v k m)
theorem TB.end_ {B : Int} {v : List Int} (hv : ∀ x ∈ v, 1 ≤ x) (ha : Asc v) {n best i : Int} {out : List Int} (hn : 1 ≤ n) (h0 : 0 ≤ best) (h1 : best ≤ B) (h2 : best < B → Way v n best) (h3 : ∀ j, 0 ≤ j → j < i → rd v j ≤ n → best ≤ rd out (n - rd v j) + 1)
 (h4 : ∀ k, 0 ≤ k → k < n → ∀ c, Way v k c → rd out k ≤ c ∨ best ≤ c + 1) (hi : ∀ j, i ≤ j → j < v.length → n < rd v j) : TB B v n best := by
 refine ⟨h0, h1, fun c w => ?_, h2⟩
 rcases w.last with ⟨e, _⟩ | ⟨x, hx, w'⟩
 · omega
 · have hp := w'.pos hv
   have hx1 := hv x hx
   obtain ⟨j, hj, hj', rfl⟩ := mem_rd hx
   by_cases hji : j < i
   · have := h3 j hj hji (by omega)
     rcases h4 (n - rd v j) (by omega) (by omega) _ w' with h | h <;> omega
   · have := hi j (by omega) hj'
     omega
theorem Asc.lt {v : List Int} (ha : Asc v) {i : Int} (h0 : 0 ≤ i) (d : Nat) : i + d < v.length → rd v i ≤ rd v (i + d) := by
 induction d with
 | zero => intro _; simp
 | succ d ih =>
  intro h
  have h1 := ih (by omega)
  have h2 := ha (i + (d + 1 : Nat)) (by omega) h
  rw [show i + ((d + 1 : Nat) : Int) - 1 = i + d from by omega] at h2
  omega
theorem Asc.le {v : List Int} (ha : Asc v) {i j : Int} (h0 : 0 ≤ i) (hij : i ≤ j) (hj : j < v.length) : rd v i ≤ rd v j := by
 have := ha.lt h0 (j - i).toNat (by omega)
 rwa [show i + ((j - i).toNat : Int) = j from by omega] at this
end Go.Proofs.Ythkhpejggdnkfaa.E
end
section
namespace Go.Proofs.Ythkhpejggdnkfaa.E
open Go.RowKit Go.Proofs.YthkhpejggdnkfaaW.PrintWords Go.Proofs.YthkhpejggdnkfaaW.PrintLast Go.Proofs.YthkhpejggdnkfaaW.PrintMore
set_option linter.unusedVariables false
set_option linter.unusedSimpArgs false
theorem AreSt.len {v : List Int} (h : AreSt v) : 1 ≤ v.length ∧ v.length ≤ 6 := by have := h.1; omega
theorem AreSt.vals {v : List Int} (h : AreSt v) : ∀ x ∈ v, 1 ≤ x ∧ x ≤ 1000 := fun x hx => by have := h.2.1 x hx; omega
theorem AreSt.pos {v : List Int} (h : AreSt v) : ∀ x ∈ v, 1 ≤ x := fun x hx => (h.2.1 x hx).1
theorem Way.most {v : List Int} {B : Int} (h : ∀ x ∈ v, x ≤ B) {k c : Int} (w : Way v k c) : k ≤ c * B := by
 induction w with
 | zero => simp
 | @add x k c hx _ ih => have := h x hx; rw [Int.add_mul]; omega
def Can (v : List Int) (h k : Int) : Prop := ∃ c, c ≤ h ∧ Way v k c
theorem can_fw {v : List Int} (hv : ∀ x ∈ v, 1 ≤ x) {k m h : Int} (hh : 0 ≤ h) (f : Fw v k m) : (0 ≤ m ∧ m ≤ h) ↔ Can v h k := by
 constructor
 · rintro ⟨h1, h2⟩; exact ⟨m, h2, (f.way h1).1⟩
 · rintro ⟨c, hc, w⟩
   have h1 : 0 ≤ m := by have := (not_congr (f.neg hv)).2 (fun hno => hno _ w); omega
   have := (f.way h1).2 _ w
   omega
theorem can_tb {v : List Int} {k m h : Int} (hh : h < 9) (f : TB 9 v k m) : m ≤ h ↔ Can v h k := by
 constructor
 · intro h1; exact ⟨m, h1, f.2.2.2 (by omega)⟩
 · rintro ⟨c, hc, w⟩
   have := f.2.2.1 _ w
   omega
end Go.Proofs.Ythkhpejggdnkfaa.E
end
section
namespace Go.Proofs.Ythkhpejggdnkfaa.E
open Go.RowKit Go.Proofs.Ythkhpejggdnkfaa.PB Go.Proofs.YthkhpejggdnkfaaW.PrintWords Go.Proofs.YthkhpejggdnkfaaW.PrintLast Go.Proofs.YthkhpejggdnkfaaW.PrintMore
set_option linter.unusedVariables false
set_option linter.unusedSimpArgs false
def RowOk (v : List Int) (n : Int) (row : List Int) : Prop := (row.length : Int) = n + 1 ∧ ∀ k, 0 ≤ k → k ≤ n → Fw v k (rd row k)
def FewTab (v : List Int) (n : Int) (t : List (List Int)) : Prop := t.length = v.length + 1 ∧ ∀ i : Int, 0 ≤ i → i ≤ v.length → RowOk (v.take i.toNat) n (rd_L2 t i)
theorem rdLL_append {t : List (List Int)} {r : List Int} {i : Int} (h0 : 0 ≤ i) (h : i ≤ t.length) : rd_L2 (t ++ [r]) i = if i = t.length then r else rd_L2 t i := by
 unfold rd_L2
 rw [List.getD_eq_getElem?_getD, List.getD_eq_getElem?_getD, List.getElem?_append]
 by_cases e : i = t.length
 · rw [if_pos e, if_neg (by omega), e]; simp
 · rw [if_neg e, if_pos (by omega)]
theorem fewest_l2 {v vals : List Int} {n x : Int} {len i : Int} (hn : 0 ≤ n) (hn' : n ≤ 4000) (hv : ∀ y ∈ v, 1 ≤ y) (hx : 1 ≤ x) (hx' : x ≤ 1000) {out : List (List Int)} (ho : out.length ≤ 1000) (hi : 0 ≤ i) (hi' : i ≤ 1000) (d : Nat) :
 ∀ (kk : Int) (next : List Int), x ≤ kk → kk + d = max x (n + 1) → (next.length : Int) = n + 1 → (∀ k, 0 ≤ k → k ≤ n → k < kk → Fw (v ++ [x]) k (rd next k)) → (∀ k, kk ≤ k → k ≤ n → Fw v k (rd next k)) →
  ∃ next', RowOk (v ++ [x]) n next' ∧ ∀ r, Ev (fun k => impl_fewest.l1 k n next' (out ++ [next']) vals len (i + 1)) r → Ev (fun k => impl_fewest.l2 k n out x next kk vals len i) r := by
 have hv' : ∀ y ∈ v ++ [x], 1 ≤ y := by
  intro y hy
  rcases List.mem_append.1 hy with hy | hy
  · exact hv y hy
  · have : y = x := by simpa using hy
    omega
 induction d with
 | zero =>
  intro kk next h0 h1 h2 h3 h4
  refine ⟨next, ⟨h2, fun k hk hk' => h3 k hk hk' (by omega)⟩, fun r hr => Ev.step (fun k => by rw [impl_fewest.l2]) (ev_ifn (by omega) ?_)⟩
  rw [w64 (by omega) (by omega)]
  exact ev_ifp (by omega) hr
 | succ d ih =>
  intro kk next h0 h1 h2 h3 h4
  have hkn : kk ≤ n := by omega
  have f1 := h3 (kk - x) (by omega) (by omega) (by omega)
  have f2 := h4 kk (by omega) hkn
  have f3 := Fw.next hv hx f2 f1
  have b1 := f1.ge hv'
  have b2 := f1.le hv' (by omega)
  have done : ∀ (y : Int), Fw (v ++ [x]) kk y → ∃ next', RowOk (v ++ [x]) n next' ∧ ∀ r, Ev (fun k => impl_fewest.l1 k n next' (out ++ [next']) vals len (i + 1)) r → Ev (fun k => impl_fewest.l2 k n out x (next.set kk.toNat y) (kk + 1) vals len i) r := by
   intro y hy
   refine ih (kk + 1) (next.set kk.toNat y) (by omega) (by omega) (by simpa using h2) ?_ ?_
   · intro k hk hk' hk''
     rw [rd_set _ (by omega) (by omega) hk]
     by_cases e : k = kk
     · subst e; rw [if_pos rfl]; exact hy
     · rw [if_neg e]; exact h3 k hk hk' (by omega)
   · intro k hk hk'
     rw [rd_set _ (by omega) (by omega) (by omega), if_neg (by omega)]
     exact h4 k (by omega) hk'
  have same : Fw (v ++ [x]) kk (rd next kk) → ∃ next', RowOk (v ++ [x]) n next' ∧ ∀ r, Ev (fun k => impl_fewest.l1 k n next' (out ++ [next']) vals len (i + 1)) r → Ev (fun k => impl_fewest.l2 k n out x next (kk + 1) vals len i) r := by
   intro hy
   refine ih (kk + 1) next (by omega) (by omega) h2 ?_ (fun k hk hk' => h4 k (by omega) hk')
   intro k hk hk' hk''
   by_cases e : k = kk
   · subst e; exact hy
   · exact h3 k hk hk' (by omega)
  by_cases c1 : rd next (kk - x) ≥ 0
  · rw [if_pos c1] at f3
    by_cases c2 : rd next kk < 0
    · rw [if_pos c2] at f3
      obtain ⟨next', a, b⟩ := done _ f3
      refine ⟨next', a, fun r hr => Ev.step (fun k => by rw [impl_fewest.l2]) ?_⟩
      simp (disch := omega) only [if_pos, w64]
      exact b r hr
    · rw [if_neg c2] at f3
      by_cases c3 : rd next (kk - x) + 1 < rd next kk
      · rw [if_pos c3] at f3
        obtain ⟨next', a, b⟩ := done _ f3
        refine ⟨next', a, fun r hr => Ev.step (fun k => by rw [impl_fewest.l2]) ?_⟩
        simp (disch := omega) only [if_pos, if_neg, w64]
        exact b r hr
      · rw [if_neg c3] at f3
        obtain ⟨next', a, b⟩ := same f3
        refine ⟨next', a, fun r hr => Ev.step (fun k => by rw [impl_fewest.l2]) ?_⟩
        simp (disch := omega) only [if_pos, if_neg, w64]
        exact b r hr
  · rw [if_neg c1] at f3
    obtain ⟨next', a, b⟩ := same f3
    refine ⟨next', a, fun r hr => Ev.step (fun k => by rw [impl_fewest.l2]) ?_⟩
    simp (disch := omega) only [if_pos, if_neg, w64]
    exact b r hr
theorem fewest_l1 {vals : List Int} {n : Int} (hn : 0 ≤ n) (hn' : n ≤ 4000) (hv : ∀ y ∈ vals, 1 ≤ y ∧ y ≤ 1000) (hl : vals.length ≤ 20) (d : Nat) :
 ∀ (i : Int) (row : List Int) (out : List (List Int)), 0 ≤ i → i + d = vals.length → RowOk (vals.take i.toNat) n row → (out.length : Int) = i + 1 → (∀ j : Int, 0 ≤ j → j ≤ i → RowOk (vals.take j.toNat) n (rd_L2 out j)) →
  ∃ t, FewTab vals n t ∧ Ev (fun k => impl_fewest.l1 k n row out vals vals.length i) t := by
 induction d with
 | zero =>
  intro i row out h0 h1 h2 h3 h4
  exact ⟨out, ⟨by omega, fun j hj hj' => h4 j hj (by omega)⟩, Ev.step (fun k => by rw [impl_fewest.l1]) (ev_ifn (by omega) (Ev.now _))⟩
 | succ d ih =>
  intro i row out h0 h1 h2 h3 h4
  have hx := hv _ (rd_mem (l := vals) h0 (by omega))
  have ht := take_rd (l := vals) h0 (by omega)
  have hvt : ∀ y ∈ vals.take i.toNat, 1 ≤ y := fun y hy => (hv y (List.mem_of_mem_take hy)).1
  obtain ⟨next', a, b⟩ := fewest_l2 (v := vals.take i.toNat) (vals := vals) (len := vals.length) (i := i) (out := out) hn hn' hvt hx.1 hx.2 (by omega) h0 (by omega) (max (rd vals i) (n + 1) - rd vals i).toNat (rd vals i) row (by omega) (by omega) h2.1 (fun k hk hk' hk'' => (h2.2 k hk hk').below hvt hk'' hk) (fun k hk hk' => h2.2 k (by omega) hk')
  rw [← ht] at a
  obtain ⟨t, ht1, ht2⟩ := ih (i + 1) next' (out ++ [next']) (by omega) (by omega) a (by simp; omega) (by
   intro j hj hj'
   rw [rdLL_append hj (by omega)]
   by_cases e : j = out.length
   · rw [if_pos e, show j = i + 1 from by omega]; exact a
   · rw [if_neg e]; exact h4 j hj (by omega))
  refine ⟨t, ht1, Ev.step (fun k => by rw [impl_fewest.l1]) ?_⟩
  have hr := h2.1
  refine ev_ifp (by omega) (ev_ifp h0 (ev_ifp (by omega) ?_))
  simp only [Option.bind_some]
  refine ev_ifp (by simp; omega) ?_
  exact b t ht2
theorem fewest_l0 {vals : List Int} {n : Int} (hn : 0 ≤ n) (hn' : n ≤ 4000) {t : List (List Int)} (H : Ev (fun k => impl_fewest.l1 k n ((List.replicate (n + 1).toNat (-1)).set 0 0) [(List.replicate (n + 1).toNat (-1)).set 0 0] vals vals.length 0) t) (d : Nat) :
 ∀ (i : Int) (row : List Int), 0 ≤ i → i + d = n + 1 → (row.length : Int) = n + 1 → (∀ j, 0 ≤ j → j < i → rd row j = -1) → Ev (fun k => impl_fewest.l0 k vals n row (n + 1) i) t := by
 induction d with
 | zero =>
  intro i row h0 h1 h2 h3
  have e : row = List.replicate (n + 1).toNat (-1) := rd_ext (by simp; omega) fun j hj hj' => by rw [h3 j hj (by omega), rd_rep hj (by omega)]
  subst e
  refine Ev.step (fun k => by rw [impl_fewest.l0]) (ev_ifn (by omega) (ev_ifp (by omega) ?_))
  simp only [Option.bind_some]
  exact H
 | succ d ih =>
  intro i row h0 h1 h2 h3
  refine Ev.step (fun k => by rw [impl_fewest.l0]) ?_
  simp (disch := omega) only [if_pos, w64]
  refine ih (i + 1) _ (by omega) (by omega) (by simpa using h2) fun j hj hj' => ?_
  rw [rd_set _ h0 (by omega) hj]
  by_cases e : j = i
  · rw [if_pos e]
  · rw [if_neg e]; exact h3 j hj (by omega)
theorem rowOk_first {n : Int} (hn : 0 ≤ n) : RowOk [] n ((List.replicate (n + 1).toNat (-1)).set 0 0) := by
 refine ⟨by simp; omega, fun k hk hk' => ?_⟩
 have := rd_set (l := List.replicate (n + 1).toNat (-1)) (i := 0) (j := k) 0 (by omega) (by simp; omega) hk
 rw [show (0 : Int).toNat = 0 from rfl] at this
 rw [this]
 have f := Fw.nil hk
 by_cases e : k = 0
 · rw [if_pos e] at f ⊢; exact f
 · rw [if_neg e] at f ⊢; rw [rd_rep hk (by omega)]; exact f
theorem fewest_ev {vals : List Int} {n : Int} (hn : 0 ≤ n) (hn' : n ≤ 4000) (hv : ∀ y ∈ vals, 1 ≤ y ∧ y ≤ 1000) (hl : vals.length ≤ 20) : ∃ t, FewTab vals n t ∧ Ev (fun k => impl_fewest.f k vals n) t := by
 have h1 := rowOk_first hn
 obtain ⟨t, a, b⟩ := fewest_l1 hn hn' hv hl vals.length 0 _ [(List.replicate (n + 1).toNat (-1)).set 0 0] (by omega) (by omega) (by simpa using h1) (by simp) (by
  intro j hj hj'
  obtain rfl : j = 0 := by omega
  simpa [rd_L2] using h1)
 refine ⟨t, a, ?_⟩
 unfold impl_fewest.f
 rw [w64 (by omega) (by omega)]
 refine ev_ifp (by omega) (ev_ifp (by omega) ?_)
 simp only [Option.bind_some]
 rw [show ((List.replicate (n + 1).toNat (0 : Int)).length : Int) = n + 1 from by simp; omega]
 exact fewest_l0 hn hn' b (n + 1).toNat 0 _ (by omega) (by omega) (by simp; omega) (fun j h h' => by omega)
end Go.Proofs.Ythkhpejggdnkfaa.E
end
section
namespace Go.Proofs.Ythkhpejggdnkfaa.E
open Go.RowKit Go.Proofs.Ythkhpejggdnkfaa.PB Go.Proofs.YthkhpejggdnkfaaW.PrintWords Go.Proofs.YthkhpejggdnkfaaW.PrintLast Go.Proofs.YthkhpejggdnkfaaW.PrintMore
set_option linter.unusedVariables false
set_option linter.unusedSimpArgs false
theorem l1Min_eq (a b : Int) : spec_l1Min.f a b = some (min a b) := by
 unfold spec_l1Min.f
 by_cases h : a < b
 · rw [if_pos h, Int.min_eq_left (by omega)]
 · rw [if_neg h, Int.min_eq_right (by omega)]
end Go.Proofs.Ythkhpejggdnkfaa.E
end
section
namespace Go.Proofs.Ythkhpejggdnkfaa.E
open Go.RowKit Go.Proofs.Ythkhpejggdnkfaa.PB Go.Proofs.YthkhpejggdnkfaaW.PrintWords Go.Proofs.YthkhpejggdnkfaaW.PrintLast Go.Proofs.YthkhpejggdnkfaaW.PrintMore
set_option linter.unusedVariables false
set_option linter.unusedSimpArgs false
def CAP27 (_ : Int) : Int := 9
theorem tab27_l1 {v : List Int} {most n : Int} {out : List Int} (hl : v.length ≤ 20) (hv : ∀ x ∈ v, 1 ≤ x ∧ x ≤ 1000) (ha : Asc v) (hn : 1 ≤ n) (hn' : n ≤ 4000) (ho : (out.length : Int) = n) (hout : ∀ k, 0 ≤ k → k < n → TB (CAP27 k) v k (rd out k)) (hw : ∀ k m, 0 ≤ k → TB (CAP27 k) v k m → Way v k m ∨ ∀ n, CAP27 n ≤ m + 1) (d : Nat) :
 ∀ (i best : Int), 0 ≤ i → i + d = v.length → 0 ≤ best → best ≤ CAP27 n → (best < CAP27 n → Way v n best) → (∀ j, 0 ≤ j → j < i → rd v j ≤ n → best ≤ rd out (n - rd v j) + 1) →
  ∃ m, TB (CAP27 n) v n m ∧ ∀ r, Ev (fun k => spec_l27Table.l0 k v most (out ++ [m]) (n + 1)) r → Ev (fun k => spec_l27Table.l1 k v most out n best i) r := by
 have hv1 : ∀ x ∈ v, 1 ≤ x := fun x hx => (hv x hx).1
 induction d with
 | zero =>
  intro i best h0 h1 h2 h3 h4 h5
  refine ⟨best, TB.end_ (out := out) (i := i) hv1 ha hn h2 h3 h4 h5 (fun k hk hk' c w => .inl ((hout k hk hk').2.2.1 c w)) (fun j hj hj' => by omega), fun r hr => Ev.step (fun k => by rw [spec_l27Table.l1]) (ev_ifn (by omega) (ev_ifp (by omega) ?_))⟩
  rw [w64 (by omega) (by omega)]; exact hr
 | succ d ih =>
  intro i best h0 h1 h2 h3 h4 h5
  have hx := hv _ (rd_mem (l := v) h0 (by omega))
  by_cases hc : rd v i ≤ n
  · have ht := hout (n - rd v i) (by omega) (by omega)
    have hb : CAP27 (n - rd v i) ≤ 4000 := by unfold CAP27; omega
    have hm : Way v n (rd out (n - rd v i) + 1) ∨ CAP27 n ≤ rd out (n - rd v i) + 1 := by
     rcases hw _ _ (by omega) ht with e | e
     · have := Way.add (rd_mem (l := v) h0 (by omega)) e
       rw [show n - rd v i + rd v i = n from by omega] at this
       exact .inl this
     · exact .inr (e n)
    obtain ⟨m, a, b⟩ := ih (i + 1) (min best (rd out (n - rd v i) + 1)) (by omega) (by omega) (by have := ht.1; omega) (by omega) (by
     intro hlt
     by_cases e : best < rd out (n - rd v i) + 1
     · rw [Int.min_eq_left (by omega)] at hlt ⊢; exact h4 hlt
     · rw [Int.min_eq_right (by omega)] at hlt ⊢
       rcases hm with h | h
       · exact h
       · omega) (by
     intro j hj hj' hjn
     by_cases e : j = i
     · subst e; omega
     · have := h5 j hj (by omega) hjn; omega)
    refine ⟨m, a, fun r hr => Ev.step (fun k => by rw [spec_l27Table.l1]) ?_⟩
    have ht1 := ht.1
    have ht2 := ht.2.1
    simp (disch := omega) only [if_pos, w64, l1Min_eq, Option.bind_some]
    exact b r hr
  · refine ⟨best, TB.end_ (out := out) (i := i) hv1 ha hn h2 h3 h4 h5 (fun k hk hk' c w => .inl ((hout k hk hk').2.2.1 c w)) (fun j hj hj' => by have := ha.le h0 hj hj'; omega), fun r hr => Ev.step (fun k => by rw [spec_l27Table.l1]) (ev_ifp (by omega) (ev_ifp h0 (ev_ifn hc (ev_ifp (by omega) ?_))))⟩
    rw [w64 (by omega) (by omega)]; exact hr
theorem tab27_l0 {v : List Int} {most : Int} (hl : v.length ≤ 20) (hv : ∀ x ∈ v, 1 ≤ x ∧ x ≤ 1000) (ha : Asc v) (hm' : most ≤ 4000) (hw : ∀ k m, 0 ≤ k → TB (CAP27 k) v k m → Way v k m ∨ ∀ n, CAP27 n ≤ m + 1) (d : Nat) : ∀ (n : Int) (out : List Int), 1 ≤ n → n + d = most + 1 → (out.length : Int) = n → (∀ k, 0 ≤ k → k < n → TB (CAP27 k) v k (rd out k)) →
 ∃ t : List Int, (t.length : Int) = most + 1 ∧ (∀ k, 0 ≤ k → k ≤ most → TB (CAP27 k) v k (rd t k)) ∧ Ev (fun k => spec_l27Table.l0 k v most out n) t := by
 induction d with
 | zero =>
  intro n out h1 h2 h3 h4
  exact ⟨out, by omega, fun k hk hk' => h4 k hk (by omega), Ev.step (fun k => by rw [spec_l27Table.l0]) (ev_ifn (by omega) (Ev.now _))⟩
 | succ d ih =>
  intro n out h1 h2 h3 h4
  obtain ⟨m, a, b⟩ := tab27_l1 (most := most) hl hv ha h1 (by omega) h3 h4 hw v.length 0 (CAP27 n) (by omega) (by omega) (by unfold CAP27; omega) (by omega) (by omega) (fun j hj hj' => by omega)
  obtain ⟨t, t1, t2, t3⟩ := ih (n + 1) (out ++ [m]) (by omega) (by omega) (by simp; omega) (by
   intro k hk hk'
   rw [rd_append hk]
   by_cases e : k < out.length
   · rw [if_pos e]; exact h4 k hk (by omega)
   · rw [if_neg e, show k - out.length = 0 from by omega]
     rw [show k = n from by omega]; exact a)
  refine ⟨t, t1, t2, ?_⟩
  refine Ev.step (fun k => by rw [spec_l27Table.l0]) ?_
  exact ev_ifp (by omega) (b t t3)
theorem tab27_ev {v : List Int} {most : Int} (hl : v.length ≤ 20) (hv : ∀ x ∈ v, 1 ≤ x ∧ x ≤ 1000) (ha : Asc v) (hm : 0 ≤ most) (hm' : most ≤ 4000) :
 ∃ t : List Int, (t.length : Int) = most + 1 ∧ (∀ k, 0 ≤ k → k ≤ most → TB (CAP27 k) v k (rd t k)) ∧ Ev (fun k => spec_l27Table.f k v most) t := by
 refine tab27_l0 hl hv ha hm' (fun k m hk h => by
  by_cases e : m < 9
  · exact .inl (h.2.2.2 e)
  · exact .inr fun n => by unfold CAP27; omega) most.toNat 1 [0] (by omega) (by omega) (by simp) fun k hk hk' => ?_
 obtain rfl : k = 0 := by omega
 refine ⟨by simp [rd], by simp [rd, CAP27], fun c w => ?_, fun _ => by simpa [rd] using Way.zero⟩
 simpa [rd] using (w.pos (fun x hx => (hv x hx).1)).1
end Go.Proofs.Ythkhpejggdnkfaa.E
end
