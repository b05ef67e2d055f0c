-- Bundled by shake.py from this session's printed and written texts; Lean checks it.
import Derived.Test.YthkhpejggdnkfaaZFnStampsx1
import Derived.Test.YthkhpejggdnkfaaZFnStampsx2
import Derived.Test.YthkhpejggdnkfaaZFnStampsx3
import Derived.Test.YthkhpejggdnkfaaZFnStampsx4
section
namespace Go.Proofs.Ythkhpejggdnkfaa.PB
open Go.RowKit Go.Proofs.YthkhpejggdnkfaaW.PrintWords Go.Proofs.YthkhpejggdnkfaaW.PrintLast Go.Proofs.YthkhpejggdnkfaaW.PrintMore
set_option linter.unusedVariables false
set_option linter.unusedSimpArgs false
mutual
def impl_ReachOf.j0 : Nat → List Int → Int → Bool → Option (Int)
 | 0, _, _, _ => none
 | k + 1, x0, x1, x14 => if x14 = true then (some (-1)) else ((impl_fewest.f k x0 361).bind fun t295 => (if 0 ≤ (x0.length : Int) then (if (x0.length : Int) < (t295.length : Int) then (impl_ReachOf.l0 k x1 (rd_L2 t295 (x0.length : Int)) 0) else (none)) else (none)))
def impl_ReachOf.l0 : Nat → Int → List Int → Int → Option (Int)
 | 0, _, _, _ => none
 | k + 1, x1, x5, x6 => if 0 ≤ (wrap64 (x6 + 1)) then (if (wrap64 (x6 + 1)) < (x5.length : Int) then (if (rd x5 (wrap64 (x6 + 1))) ≥ 0 then (if (rd x5 (wrap64 (x6 + 1))) ≤ x1 then (impl_ReachOf.l0 k x1 x5 (wrap64 (x6 + 1))) else (some x6)) else (some x6)) else (none)) else (none)
end
def impl_ReachOf.f (k : Nat) (l0 : List Int) (a1 : Int) : Option (Int) := (impl_AreStamps.f k l0).bind fun t293 => (if t293 = true then ((impl_within.f a1 1 6).bind fun t294 => (impl_ReachOf.j0 k l0 a1 (!t294))) else (impl_ReachOf.j0 k l0 a1 true))
set_option maxHeartbeats 8000000 in
set_option maxRecDepth 100000 in
theorem impl_ReachOf.calls (k : Nat) (A0 : Option Addr) (c0 : Nat) (l0 : List Int) (a1 : Int) (r : Int) (w : World) (hr0 : Kd.C (Kd.int .i64) w A0 l0.length l0) (hc0 : l0.length ≤ c0) (h : impl_ReachOf.f k l0 a1 = some r) :
 Calls Try.prog 15 #[.slice A0 l0.length c0, .int .i64 a1] w fun e w' => e = .returned (.int .i64 r) ∧ Below w.heap.size w w' := by
 have HR0 := Aside0.mk hr0
 have HC0 := Aside0.mk hc0
 clear hr0 hc0
 have HB := Aside0.mk (Below.refl w.heap.size w)
 have H : ((impl_AreStamps.f k l0).bind fun t293 => (if t293 = true then ((impl_within.f a1 1 6).bind fun t294 => (impl_ReachOf.j0 k l0 a1 (!t294))) else (impl_ReachOf.j0 k l0 a1 true))) = some r := h
 clear h
 have HC3 := Aside0.mk H
 clear H
 go_enter Try.func15, Try.ntmps15
 go_upto_region 1 with (fail)
 go_cut [14] (fun v14 wc => ∃ (kq : Nat) (x14_2 : Bool), v14 = .bool x14_2 ∧ Aside0 (impl_ReachOf.j0 kq l0 a1 x14_2 = some r) ∧ Aside0 (kq ≤ k) ∧ Aside0 (Below w.heap.size w wc))
 case first =>
  have H := HC3.out
  clear HC3
  replace H := Option.bind_eq_some_iff.mp H
  obtain ⟨t293, A40, H⟩ := H
  replace H : (if t293 = true then ((impl_within.f a1 1 6).bind fun t294 => (impl_ReachOf.j0 k l0 a1 (!t294))) else (impl_ReachOf.j0 k l0 a1 true)) = some r := H
  have A4 := Aside0.mk A40
  clear A40
  by_cases c5 : t293 = true
  · subst c5
    have H1 : ((impl_within.f a1 1 6).bind fun t294 => (impl_ReachOf.j0 k l0 a1 (!t294))) = some r := by rw [if_pos rfl] at H; exact H
    clear H
    have H := H1
    clear H1
    replace H := Option.bind_eq_some_iff.mp H
    obtain ⟨t294, A60, H⟩ := H
    replace H : (impl_ReachOf.j0 k l0 a1 (!t294)) = some r := H
    have A6 := Aside0.mk A60
    clear A60
    have H' := Aside0.mk H
    clear H
    go_wp2_with (first | ((with_reducible refine gate_callee (f := 22) rfl ?_); refine goesL_ (some 8) rfl rfl Try.func22 (by kernel_rfl) rfl #[.slice A0 l0.length c0] rfl (by (try simp only [List.map_toArray, List.map_cons, List.map_nil]); first | done | rfl | (simp only [List.length_drop, List.length_take]; rfl)) ?_; (with_reducible refine (impl_AreStamps.calls k _ _ l0 true _ ?side1 ?side2 A4.out).mono ?_); (case side1 => exact ce_ ((Kd.C_below HR0.out HB.out))); (case side2 => exact HC0.out); rintro e w' ⟨rfl, ⟨nd, rfl⟩⟩; refine ⟨_, rfl, ?_⟩) | (go_at_call 39; (with_reducible refine (impl_within.calls a1 1 6 t294 _ A6.out).mono ?_); rintro e w' ⟨rfl, ⟨nd, rfl⟩⟩))
    go_meet
    case rel => exact ⟨_, (!t294), (by first | rfl | (simp; done) | (simp [*]; done)), H', ⟨by first | omega | exact Nat.le_refl _⟩, ⟨bl_ HB.out⟩⟩
  · replace c5 := Bool.eq_false_iff.mpr c5
    subst c5
    have H1 : (impl_ReachOf.j0 k l0 a1 true) = some r := by rw [if_neg (show ¬ (false = true) by decide)] at H; exact H
    clear H
    have H := H1
    clear H1
    have H' := Aside0.mk H
    clear H
    go_wp2_with (first | ((with_reducible refine gate_callee (f := 22) rfl ?_); refine goesL_ (some 8) rfl rfl Try.func22 (by kernel_rfl) rfl #[.slice A0 l0.length c0] rfl (by (try simp only [List.map_toArray, List.map_cons, List.map_nil]); first | done | rfl | (simp only [List.length_drop, List.length_take]; rfl)) ?_; (with_reducible refine (impl_AreStamps.calls k _ _ l0 false _ ?side1 ?side2 A4.out).mono ?_); (case side1 => exact ce_ ((Kd.C_below HR0.out HB.out))); (case side2 => exact HC0.out); rintro e w' ⟨rfl, ⟨nd, rfl⟩⟩; refine ⟨_, rfl, ?_⟩))
    go_meet
    case rel => exact ⟨_, (true), (by first | rfl | (simp; done) | (simp [*]; done)), H', ⟨by first | omega | exact Nat.le_refl _⟩, ⟨bl_ HB.out⟩⟩
 case rest =>
  clear HC3
  try clear c1
  try clear c2
  try clear p2
  try clear c5
  obtain ⟨kq, x14_2, rfl, HA, HJ2, HB⟩ := hcut
  cases kq with
  | zero => exact absurd HA.out (by simp [impl_ReachOf.j0])
  | succ kj2 =>
   have H := HA.out
   clear HA
   simp only [impl_ReachOf.j0] at H
   by_cases c7 : x14_2 = true
   · subst c7
     have H1 : (some (-1)) = some r := by rw [if_pos rfl] at H; exact H
     clear H
     have H := H1
     clear H1
     obtain rfl := Option.some.inj H
     go_wp2
     go_ret
     exact ⟨by first | rfl | (simp [errW_none, errW_some] <;> rfl) | (simp [*, errW_none, errW_some] <;> rfl), bl_ HB.out⟩
   · replace c7 := Bool.eq_false_iff.mpr c7
     subst c7
     have H1 : ((impl_fewest.f kj2 l0 361).bind fun t295 => (if 0 ≤ (l0.length : Int) then (if (l0.length : Int) < (t295.length : Int) then (impl_ReachOf.l0 kj2 a1 (rd_L2 t295 (l0.length : Int)) 0) else (none)) else (none))) = some r := by rw [if_neg (show ¬ (false = true) by decide)] at H; exact H
     clear H
     have H := H1
     clear H1
     replace H := Option.bind_eq_some_iff.mp H
     obtain ⟨t295, A80, H⟩ := H
     replace H : (if 0 ≤ (l0.length : Int) then (if (l0.length : Int) < (t295.length : Int) then (impl_ReachOf.l0 kj2 a1 (rd_L2 t295 (l0.length : Int)) 0) else (none)) else (none)) = some r := H
     have A8 := Aside0.mk A80
     clear A80
     by_cases c9 : 0 ≤ (l0.length : Int)
     · rw [if_pos c9] at H
       have c9b0 : decide (0 ≤ (l0.length : Int)) = true := decide_eq_true c9
       have c9b1 : decide (0 ≤ l0.length) = true := decide_eq_true (by omega)
       clear c9
       by_cases c10 : (l0.length : Int) < (t295.length : Int)
       · rw [if_pos c10] at H
         have c10b0 : decide ((l0.length : Int) < (t295.length : Int)) = true := decide_eq_true c10
         have c10b1 : decide (l0.length < t295.length) = true := decide_eq_true (Int.ofNat_lt.mp c10)
         clear c10
         have H' := Aside0.mk H
         clear H
         go_wp2_with (first | ((with_reducible refine gate_callee (f := 45) rfl ?_); refine goesL_ (some 16) rfl rfl Try.func45 (by kernel_rfl) rfl #[.slice A0 l0.length c0, .int .i64 361] rfl (by (try simp only [List.map_toArray, List.map_cons, List.map_nil]); first | done | rfl | (simp only [List.length_drop, List.length_take]; rfl)) ?_; (with_reducible refine (impl_fewest.calls kj2 _ _ l0 361 t295 _ ?side1 ?side2 A8.out).mono ?_); (case side1 => exact ce_ ((Kd.C_below HR0.out HB.out))); (case side2 => exact HC0.out); rintro e w11 ⟨v296, rfl, ho0, hb⟩; refine ⟨_, rfl, ?_⟩; have n0_ := Aside0.mk (Kd.N_lower (Kd.N_mono (ok' := fun k_ => True) ho0 (fun k_ hk_ => trivial)) (below_size (bl_ HB.out))); have n1_ := Aside0.mk (below_step (bl_ HB.out) hb); clear HB; have HO297 := n0_; have HB := n1_; clear n0_ n1_; (try clear hb); (try clear hb2); (try clear hk); (try clear hi); (try clear ho0); obtain ⟨Ao12, co12, eo12⟩ := Kd.N_slice HO297.out; subst eo12; have p298 : 0 ≤ ((l0.length : Int) : Int) := of_decide_eq_true (by first | (with_reducible assumption) | assumption); have q298 : (l0.length : Int) < (t295.length : Int) := of_decide_eq_true (by first | (with_reducible assumption) | assumption); obtain ⟨ad298, A298_0, c298_0, e298, hx298_0, hl298_0, hi298_0⟩ := at_L2 (Kd.N_reads' HO297.out).2.2 (l0.length : Int) p298 q298; cases e298; obtain ⟨ce298, hce298, hMe298, hcc298⟩ := Kd.N_get HO297.out [] (l0.length : Int) p298 (by first | exact q298 | exact of_decide_eq_true (by first | (with_reducible assumption) | assumption) | (have e_ := (Kd.N_reads' HO297.out).1; omega)); obtain ⟨ua298_0, uc298_0, rfl, ul298_0, ge298_0⟩ := Kd.FK_slice_open hMe298; have hv298_0 := hcc298 0 _ rfl; rw [Nat.add_zero, show ((Kd.slice 3 (Kd.int .i64))).sz = 1 from rfl, Nat.mul_one] at hv298_0; replace hv298_0 := Option.some.inj (hv298_0.symm.trans hx298_0); injection hv298_0 with hva_ hvn_ hvc_; rw [hva_] at ge298_0; rw [hvc_] at ul298_0; have HL298_0 := Aside0.mk (show Kd.V (Kd.int .i64) 3 _ w.heap.size _ _ (rd_L2 t295 (l0.length : Int)) from Kd.V_mk ul298_0 ge298_0); clear hva_ hvn_ hvc_ ge298_0 ul298_0; clear hcc298 hce298; have HR298_0 := Aside0.mk hi298_0; have HC298_0 := Aside0.mk hl298_0; clear hi298_0 hl298_0; (try simp only [Go.IntWalk.toNatUp] at hx298_0); replace p298 := eq_true p298; replace q298 := eq_true q298))
         go_loopg [6] kj2 (fun kq v6 w' => ∃ (x6_2 : Int), v6 = .int .i64 x6_2 ∧ Aside0 (impl_ReachOf.l0 kq a1 (rd_L2 t295 (l0.length : Int)) x6_2 = some r) ∧ Aside0 (kq ≤ kj2) ∧ Aside0 (Kd.C (Kd.int .i64) w' A298_0 (rd_L2 t295 (l0.length : Int)).length (rd_L2 t295 (l0.length : Int))) ∧ Aside0 (Below w.heap.size w w'))
         case atStart => exact ⟨(0), (by first | rfl | (simp; done) | (simp [*]; done)), H', ⟨Nat.le_refl _⟩, ⟨by repeat (first | (with_reducible exact HR298_0.out) | (with_reducible refine Kd.C_alloc ?_ _) | (with_reducible refine Kd.C_drewN ?_ _) | (with_reducible refine Kd.C_drew ?_) | exact HR298_0.out)⟩, ⟨bl_ HB.out⟩⟩
         case round =>
          clear H'
          try clear c1
          try clear c2
          try clear p2
          try clear q2
          try clear hx2
          try clear c4
          try clear c5
          try clear c7
          try clear c9
          try clear c9b0
          try clear c9b1
          try clear c10
          try clear c10b0
          try clear c10b1
          try clear hx298_0
          try clear p2
          try clear p298
          try clear q298
          obtain ⟨x6_2, rfl, HA, HK2, HR298_0, HB⟩ := hrel
          cases gk with
          | zero => exact absurd HA.out (by simp [impl_ReachOf.l0])
          | succ k2 =>
           have H := HA.out
           clear HA
           simp only [impl_ReachOf.l0] at H
           obtain ⟨ji13, hji13⟩ : ∃ j_ : Int, (wrap64 (x6_2 + 1)) = j_ := ⟨_, rfl⟩
           replace H : (if 0 ≤ (ji13) then (if (ji13) < ((rd_L2 t295 (l0.length : Int)).length : Int) then (if (rd (rd_L2 t295 (l0.length : Int)) (ji13)) ≥ 0 then (if (rd (rd_L2 t295 (l0.length : Int)) (ji13)) ≤ a1 then (impl_ReachOf.l0 k2 a1 (rd_L2 t295 (l0.length : Int)) ji13) else (some x6_2)) else (some x6_2)) else (none)) else (none)) = some r := by first | (rw [hji13] at H; exact H) | (simp only [hji13] at H ⊢; exact H)
           have hji13w : (IntKind.i64.wrap (x6_2 + 1)) = ji13 := (i64_w _).trans hji13
           by_cases c14 : 0 ≤ (ji13)
           · rw [if_pos c14] at H
             have c14b0 : decide (0 ≤ (ji13)) = true := decide_eq_true c14
             clear c14
             by_cases c15 : (ji13) < ((rd_L2 t295 (l0.length : Int)).length : Int)
             · rw [if_pos c15] at H
               have c15b0 : decide ((ji13) < ((rd_L2 t295 (l0.length : Int)).length : Int)) = true := decide_eq_true c15
               clear c15
               by_cases c16 : (rd (rd_L2 t295 (l0.length : Int)) (ji13)) ≥ 0
               · rw [if_pos c16] at H
                 have c16b0 : decide (0 ≤ (rd (rd_L2 t295 (l0.length : Int)) (ji13))) = true := decide_eq_true c16
                 clear c16
                 by_cases c17 : (rd (rd_L2 t295 (l0.length : Int)) (ji13)) ≤ a1
                 · rw [if_pos c17] at H
                   have c17b0 : decide ((rd (rd_L2 t295 (l0.length : Int)) (ji13)) ≤ a1) = true := decide_eq_true c17
                   clear c17
                   have H' := Aside0.mk H
                   clear H
                   have p299 : 0 ≤ ((ji13) : Int) := of_decide_eq_true (by first | (with_reducible assumption) | assumption)
                   have q299 : (ji13) < ((rd_L2 t295 (l0.length : Int)).length : Int) := of_decide_eq_true (by first | (with_reducible assumption) | assumption)
                   obtain ⟨ad299, e299, hx299_0⟩ := Kd.at_int HR298_0.out (ji13) p299 q299
                   cases e299
                   (try replace hx299_0 := (HB.out.cell (World.block_lt_of_cell? w _ hx299_0)).trans hx299_0)
                   replace p299 := eq_true p299
                   replace q299 := eq_true q299
                   have p300 : 0 ≤ ((ji13) : Int) := of_decide_eq_true (by first | (with_reducible assumption) | assumption)
                   have q300 : (ji13) < ((rd_L2 t295 (l0.length : Int)).length : Int) := of_decide_eq_true (by first | (with_reducible assumption) | assumption)
                   obtain ⟨ad300, e300, hx300_0⟩ := Kd.at_int HR298_0.out (ji13) p300 q300
                   obtain rfl : ad299 = ad300 := (by injection e300)
                   (try replace hx300_0 := (HB.out.cell (World.block_lt_of_cell? w _ hx300_0)).trans hx300_0)
                   replace p300 := eq_true p300
                   replace q300 := eq_true q300
                   go_wp2
                   go_roundg k2
                   case measure => have := HJ2.out; have := HK2.out; omega
                   case rel => exact ⟨(ji13), (by first | rfl | (simp; done) | (simp only [← hji13] <;> (first | rfl | simp)) | (simp [*]; done)), H', ⟨by have := HJ2.out; have := HK2.out; omega⟩, ⟨by repeat (first | (with_reducible exact HR298_0.out) | (with_reducible refine Kd.C_alloc ?_ _) | (with_reducible refine Kd.C_drewN ?_ _) | (with_reducible refine Kd.C_drew ?_) | exact HR298_0.out)⟩, ⟨bl_ HB.out⟩⟩
                 · rw [if_neg c17] at H
                   have c17b0 : decide ((rd (rd_L2 t295 (l0.length : Int)) (ji13)) ≤ a1) = false := decide_eq_false c17
                   clear c17
                   obtain rfl := Option.some.inj H
                   have p299 : 0 ≤ ((ji13) : Int) := of_decide_eq_true (by first | (with_reducible assumption) | assumption)
                   have q299 : (ji13) < ((rd_L2 t295 (l0.length : Int)).length : Int) := of_decide_eq_true (by first | (with_reducible assumption) | assumption)
                   obtain ⟨ad299, e299, hx299_0⟩ := Kd.at_int HR298_0.out (ji13) p299 q299
                   cases e299
                   (try replace hx299_0 := (HB.out.cell (World.block_lt_of_cell? w _ hx299_0)).trans hx299_0)
                   replace p299 := eq_true p299
                   replace q299 := eq_true q299
                   have p300 : 0 ≤ ((ji13) : Int) := of_decide_eq_true (by first | (with_reducible assumption) | assumption)
                   have q300 : (ji13) < ((rd_L2 t295 (l0.length : Int)).length : Int) := of_decide_eq_true (by first | (with_reducible assumption) | assumption)
                   obtain ⟨ad300, e300, hx300_0⟩ := Kd.at_int HR298_0.out (ji13) p300 q300
                   obtain rfl : ad299 = ad300 := (by injection e300)
                   (try replace hx300_0 := (HB.out.cell (World.block_lt_of_cell? w _ hx300_0)).trans hx300_0)
                   replace p300 := eq_true p300
                   replace q300 := eq_true q300
                   go_wp2
                   go_ret
                   exact ⟨by first | rfl | (simp [errW_none, errW_some] <;> rfl) | (simp only [← hji13]; first | rfl | (simp [errW_none, errW_some] <;> rfl)) | (simp [*, errW_none, errW_some] <;> rfl), bl_ HB.out⟩
               · rw [if_neg c16] at H
                 have c16b0 : decide (0 ≤ (rd (rd_L2 t295 (l0.length : Int)) (ji13))) = false := decide_eq_false c16
                 clear c16
                 obtain rfl := Option.some.inj H
                 have p299 : 0 ≤ ((ji13) : Int) := of_decide_eq_true (by first | (with_reducible assumption) | assumption)
                 have q299 : (ji13) < ((rd_L2 t295 (l0.length : Int)).length : Int) := of_decide_eq_true (by first | (with_reducible assumption) | assumption)
                 obtain ⟨ad299, e299, hx299_0⟩ := Kd.at_int HR298_0.out (ji13) p299 q299
                 cases e299
                 (try replace hx299_0 := (HB.out.cell (World.block_lt_of_cell? w _ hx299_0)).trans hx299_0)
                 replace p299 := eq_true p299
                 replace q299 := eq_true q299
                 go_wp2
                 go_ret
                 exact ⟨by first | rfl | (simp [errW_none, errW_some] <;> rfl) | (simp only [← hji13]; first | rfl | (simp [errW_none, errW_some] <;> rfl)) | (simp [*, errW_none, errW_some] <;> rfl), bl_ HB.out⟩
             · rw [if_neg c15] at H
               exact absurd H (by simp)
           · rw [if_neg c14] at H
             exact absurd H (by simp)
       · rw [if_neg c10] at H
         exact absurd H (by simp)
     · rw [if_neg c9] at H
       exact absurd H (by simp)
def rng (a : Int) : Nat → List Int
 | 0 => []
 | n + 1 => a :: rng (a + 1) n
def lst (p : List Int) : Int := rd p ((p.length : Int) - 1)
def nexts (l : List Int) : List Int := if l = [] then [1] else rng (lst l + 1) (60 - lst l).toNat
def impl_see.f (k : Nat) (h : Int) (st : List Int × Int) (l : List Int) : Option (List Int × Int) := (impl_ReachOf.f k l h).bind fun n => some (if n > st.2 then (l, n) else st)
def impl_raised.f (k : Nat) (h : Int) : Nat → List Int → List Int × Int → Option (List Int × Int)
 | 0, l, st => impl_see.f k h st l
 | j + 1, l, st => (nexts l).foldlM (fun st n => impl_raised.f k h j (l ++ [n]) st) st
def impl_BestStamps.f (k : Nat) (a0 : Int) (a1 : Int) : Option (List Int × Int) := if (1 ≤ a0 ∧ a0 ≤ 3) ∧ 1 ≤ a1 ∧ a1 ≤ 4 then impl_raised.f k a1 a0.toNat [] ([], -1) else some ([], 0)
def Two (O M k : Nat) : Prop := k = O ∨ k = M
structure BSt (B O M H : Nat) (h : Int) (w : World) (st : List Int × Int) : Prop where
 out : ∃ v, w.heap[O]? = some (.cells #[v] 22 (0, 0)) ∧ Kd.R (Kd.int .i64) 3 w B (fun k => ¬ Two O M k) v st.1
 most : w.heap[M]? = some (.cells #[.int .i64 st.2] 3 (0, 0))
 hh : w.heap[H]? = some (.cells #[.int .i64 h] 3 (0, 0))
theorem BSt.below {B O M H : Nat} {h : Int} {w w' : World} {st : List Int × Int} (s : BSt B O M H h w st) (hb : Below w.heap.size w w') : BSt B O M H h w' st := by
 obtain ⟨⟨v, h1, h2⟩, h3, h4⟩ := s
 exact ⟨⟨v, blk_below h1 hb, Kd.R_below h2 hb⟩, blk_below h3 hb, blk_below h4 hb⟩
structure BAp (B O M H : Nat) : Prop where
 om : O ≠ M
 ho : H ≠ O
 hm : H ≠ M
 bo : B ≤ O
 bm : B ≤ M
theorem bs_see {k B O M H : Nat} (ap : BAp B O M H) (h : Int) (W : World) (v : Value) (l : List Int) (st st' : List Int × Int) (hS : BSt B O M H h W st) (hl : Kd.R (Kd.int .i64) 3 W B (fun k => ¬ Two O M k) v l) (hf : impl_see.f k h st l = some st') :
 Calls Try.prog 41 #[v, .pointer (some ⟨H, 0, none⟩), .pointer (some ⟨M, 0, none⟩), .pointer (some ⟨O, 0, none⟩)] W fun e w' => e = .returned (.tuple #[]) ∧ BSt B O M H h w' st' ∧ Kept W w' (Two O M) ∧ Below B W w' := by
 obtain ⟨A, c, rfl⟩ := Kd.R_slice hl
 obtain ⟨⟨vo, hO, hR⟩, hM, hH⟩ := hS
 have hcH : W.cell? ⟨H, 0, none⟩ = some (.int .i64 h) := (blk_cell hH 0).trans rfl
 have hBW : B ≤ W.heap.size := Nat.le_trans ap.bo (Nat.le_of_lt (blk_lt hO))
 unfold impl_see.f at hf
 obtain ⟨n, A3, E⟩ := Option.bind_eq_some_iff.mp hf
 clear hf
 have E := Option.some.inj E
 have HL := Aside0.mk hl
 have HR := Aside0.mk hR
 have HO := Aside0.mk hO
 have HM := Aside0.mk hM
 have HH := Aside0.mk hH
 have A3 := Aside0.mk A3
 clear hl hR hO hM hH
 by_cases c1 : n > st.2
 · rw [if_pos c1] at E
   subst E
   have b1 : decide (st.2 < n) = true := decide_eq_true c1
   clear c1
   go_enter Try.func41, Try.ntmps41
   go_wp2_with (first | (go_at_call 15; (with_reducible refine (impl_ReachOf.calls k _ _ l h n _ ?side1 ?side2 A3.out).mono ?_); (case side1 => exact (Kd.R_reads' HL.out).2.2); (case side2 => exact (Kd.R_reads' HL.out).2.1); rintro e w1 ⟨rfl, hb⟩; have hcM : w1.cell? ⟨M, 0, none⟩ = some (.int .i64 st.2) := (blk_cell (blk_below HM.out hb) 0).trans rfl; have hcO : w1.cell? ⟨O, 0, none⟩ = some vo := (blk_cell (blk_below HO.out hb) 0).trans rfl; have hfO : w1.frozen? ⟨O, 0, none⟩ = false := blk_frozen (blk_below HO.out hb) 0; have hfM : (w1.setCell ⟨O, 0, none⟩ (.slice A l.length c)).frozen? ⟨M, 0, none⟩ = false := blk_frozen (blk_far (blk_below HM.out hb) (Ne.symm ap.om) _) 0; have hcM2 : (w1.setCell ⟨O, 0, none⟩ (.slice A l.length c)).cell? ⟨M, 0, none⟩ = some (.int .i64 st.2) := (blk_cell (blk_far (blk_below HM.out hb) (Ne.symm ap.om) _) 0).trans rfl; have HB1 := Aside0.mk hb; clear hb))
   go_end0
   have hb := HB1.out
   have kp : Kept W ((w1.setCell ⟨O, 0, none⟩ (.slice A l.length c)).setCell ⟨M, 0, none⟩ (.int .i64 n)) (Two O M) := ((Kept.of_below hb _).setCell (.inl (.inl rfl)) _).setCell (.inl (.inr rfl)) _
   exact ⟨rfl, ⟨⟨_, blk_far (blk_put (blk_below HO.out hb) 0 _ rfl) ap.om _, Kd.R_kept HL.out kp (fun k hk hs => hk hs)⟩, blk_put (blk_far (blk_below HM.out hb) (Ne.symm ap.om) _) 0 _ rfl, blk_far (blk_far (blk_below HH.out hb) ap.ho _) ap.hm _⟩, kp, ((hb.mono hBW).setCell ap.bo _).setCell ap.bm _⟩
 · rw [if_neg c1] at E
   subst E
   have b1 : decide (st.2 < n) = false := decide_eq_false c1
   clear c1
   go_enter Try.func41, Try.ntmps41
   go_wp2_with (first | (go_at_call 15; (with_reducible refine (impl_ReachOf.calls k _ _ l h n _ ?side1 ?side2 A3.out).mono ?_); (case side1 => exact (Kd.R_reads' HL.out).2.2); (case side2 => exact (Kd.R_reads' HL.out).2.1); rintro e w1 ⟨rfl, hb⟩; have hcM : w1.cell? ⟨M, 0, none⟩ = some (.int .i64 st.2) := (blk_cell (blk_below HM.out hb) 0).trans rfl; have HB1 := Aside0.mk hb; clear hb))
   go_end0
   have hb := HB1.out
   exact ⟨rfl, (BSt.mk ⟨vo, HO.out, HR.out⟩ HM.out HH.out).below hb, Kept.of_below hb _, hb.mono hBW⟩
theorem BSt.olt {B O M H : Nat} {h : Int} {w : World} {st : List Int × Int} (s : BSt B O M H h w st) : O < w.heap.size := by
 obtain ⟨⟨v, h1, h2⟩, h3, h4⟩ := s
 exact blk_lt h1
theorem rowup {B O M : Nat} {w w' : World} {v : Value} {xs ys : List Int} (h : Kd.R (Kd.int .i64) 3 w' w.heap.size (fun _ => True) v xs) (e : xs = ys) (hO : O < w.heap.size) (hM : M < w.heap.size) (hB : B ≤ w.heap.size) (hs : w.heap.size ≤ w'.heap.size) : Kd.R (Kd.int .i64) 3 w' B (fun k => ¬ Two O M k) v ys := by
 subst e
 refine Kd.R_lower (Kd.R_mono (Kd.R_bound h) (fun k hk => ?_)) hB
 have := hk.2.1
 rintro (rfl | rfl) <;> omega
set_option maxHeartbeats 4000000 in
set_option maxRecDepth 100000 in
theorem bs_raised {k B O M H : Nat} (ap : BAp B O M H) (h : Int) (j : Nat) : ∀ (W : World) (v : Value) (l : List Int) (st st' : List Int × Int), BSt B O M H h W st → Kd.R (Kd.int .i64) 3 W B (fun k => ¬ Two O M k) v l → (∀ x ∈ l, 1 ≤ x ∧ x ≤ 60) → l.length + j ≤ 10 → impl_raised.f k h j l st = some st' →
 Calls Try.prog 40 #[v, .int .i64 (j : Int), .func (.func 41) #[] #[.pointer (some ⟨H, 0, none⟩), .pointer (some ⟨M, 0, none⟩), .pointer (some ⟨O, 0, none⟩)]] W fun e w' => e = .returned (.tuple #[]) ∧ BSt B O M H h w' st' ∧ Kept W w' (Two O M) ∧ Below B W w' := by
 have eg : ∀ args w, (callFunc 41 args).run Try.prog w = .ok (.enter 41 args) w := enters_of Try.func41 (by kernel_rfl) rfl
 have hu22 := Try.underlying22
 induction j with
 | zero =>
  intro W v l st st' hS hl hx hn hf
  obtain ⟨A, c, rfl⟩ := Kd.R_slice hl
  have HS := Aside0.mk hS
  have HL := Aside0.mk hl
  have HF := Aside0.mk hf
  clear hS hl hf hx hn
  go_enter Try.func40, Try.ntmps40
  go_wp2_with (first | (go_at_fn 41; refine (bs_see (k := k) ap h _ _ l st st' HS.out HL.out HF.out).mono ?_; rintro e w1 ⟨rfl, hs, hk, hb⟩; have HS1 := Aside0.mk hs; have HK1 := Aside0.mk hk; have HB1 := Aside0.mk hb; clear hs hk hb))
  (try simp only [Exit.inBlock, Exit.then])
  refine bodyPost_ret (results_none rfl _ _ _) rfl ?_
  exact ⟨rfl, HS1.out, HK1.out, HB1.out⟩
 | succ j ih =>
  intro W v l st st' hS hl hx hn hf
  obtain ⟨A, c, rfl⟩ := Kd.R_slice hl
  have hBW : B ≤ W.heap.size := Nat.le_trans ap.bm (Nat.le_of_lt (blk_lt hS.most))
  have IH := Aside0.mk ih
  have HS := Aside0.mk hS
  have HL := Aside0.mk hl
  have HX := Aside0.mk hx
  have HN := Aside0.mk hn
  clear ih hS hl hx hn
  obtain ⟨jj, hjj⟩ : ∃ jj : Int, jj = ((j + 1 : Nat) : Int) := ⟨_, rfl⟩
  rw [← hjj]
  have b0 : (jj == 0) = false := beq_eq_false_iff_ne.mpr (by omega)
  have wj2 : wrap64 (jj - 1) = (j : Int) := by
   have := HN.out
   unfold wrap64; omega
  have wj : IntKind.i64.wrap (jj - 1) = (j : Int) := (i64_w _).trans wj2
  clear hjj
  rw [impl_raised.f] at hf
  by_cases e : l = []
  · subst e
    have HF : Aside0 (impl_raised.f k h j [1] st = some st') := ⟨by
     unfold nexts at hf
     rw [if_pos rfl, List.foldlM_cons] at hf
     obtain ⟨a, a1, a2⟩ := Option.bind_eq_some_iff.mp hf
     rw [List.foldlM_nil] at a2
     rw [← Option.some.inj a2]
     exact a1⟩
    clear hf
    go_enter Try.func40, Try.ntmps40
    go_wp2
    go_loopw [7] (fun n w' => ∃ (nn : Int) (s1 : List Int × Int), n = .int .i64 nn ∧ ((nn = 1 ∧ Aside0 (impl_raised.f k h j [1] s1 = some st')) ∨ (nn = 2 ∧ Aside0 (s1 = st'))) ∧ Aside0 (BSt B O M H h w' s1) ∧ Aside0 (Kd.R (Kd.int .i64) 3 w' B (fun k => ¬ Two O M k) (.slice A 0 c) []) ∧ Aside0 (Kept W w' (Two O M)) ∧ Aside0 (Below B W w')) (fun n _ => (61 - intOf n).toNat)
    case atStart => exact ⟨1, st, rfl, .inl ⟨rfl, HF⟩, HS, HL, ⟨Kept.refl _ _⟩, ⟨Below.refl _ _⟩⟩
    case round =>
     obtain ⟨nn, s1, rfl, hc, HSr, HLr, HKr, HBr⟩ := hrel
     rcases hc with ⟨rfl, HF2⟩ | ⟨rfl, HE⟩
     · have HX2 : Aside0 (∀ x ∈ ([] : List Int) ++ [1], 1 ≤ x ∧ x ≤ 60) := ⟨fun x hx => by rw [List.nil_append, List.mem_singleton] at hx; omega⟩
       have HN2 : Aside0 ((([] : List Int) ++ [1]).length + j ≤ 10) := ⟨by have := HN.out; simp only [List.length_append, List.length_singleton, List.length_nil] at this ⊢; omega⟩
       go_wp2_with (first | ((with_reducible refine gate_dst (N := 35) rfl ?_); refine Kd.R_lit (Kd.int .i64) _ 3 ?hg (N := 35) ?hd (xs := ([] : List Int)) (inner := []) (ok := fun _ => True) (okp := fun _ => True) ?hr ?hp (fun _ hk => hk) trivial (Below.refl _ _) (Nat.le_refl _) (by simp) ?_; (case hd => rfl); (case hg => rfl); (case hr => first | (go_simp; done) | (go_simp; rfl)); (case hp => exact (Reps.none _ _)); intro v1 w1 ho hb hg_ hnew_; clear hg_ hnew_; have HO1 := Aside0.mk ho; have HB1 := Aside0.mk hb; clear ho hb) | ((with_reducible refine gate_builtin (b := .append) (xs := #[.tmp 35, .tmp 36]) rfl ?_); at_builtin; refine Kd.R_append_rows (Kd.int .i64) (w0 := wr) wr.heap.size rfl (.tmp 35) (.tmp 36) 22 3 (.int .i64 0) 8 rfl Try.underlying22 info3 rfl (by decide) (by omega) v1 [] ([] : List Int) _ _ _ (fun _ => True) (fun _ => False) rfl rfl ?aO ?aR (fun _ _ h => h) (fun _ h => h.elim) (fun _ _ => trivial) ?aB ?aS ?aL ?_; (case aO => exact HO1.out); (case aR => exact Kd.C_below (Kd.R_reads' HLr.out).2.2 HB1.out); (case aB => exact HB1.out); (case aS => exact below_size HB1.out); (case aL => have := HN.out; simp only [List.length_nil]; omega); intro v2 w2 ho hb hg hat; clear hg hat; have HO2 := Aside0.mk ho; have HB2 := Aside0.mk hb; clear ho hb) | ((with_reducible refine gate_builtin (b := .append) (xs := #[.tmp 37, .tmp 39]) rfl ?_); at_builtin; refine Kd.R_append (Kd.int .i64) (w0 := wr) wr.heap.size rfl (.tmp 37) (.tmp 39) 22 3 (.int .i64 0) 8 rfl Try.underlying22 info3 rfl (by decide) (by omega) v2 ([] ++ ([] : List Int)) (1 : Int) [.int .i64 (1 : Int)] (fun _ => True) (fun _ => False) rfl rfl ?aP (fun _ hk => hk.elim) ?aF ?aO ?aB ?aS ?aL ?_; (case aP => exact rfl); (case aF => exact (fun _ _ => trivial)); (case aO => exact HO2.out); (case aB => exact HB2.out); (case aS => exact below_size HB2.out); (case aL => have := HN.out; simp only [List.nil_append, List.length_nil]; omega); intro v3 w3 ho hb hg hat; clear hg hat; have HO3 := Aside0.mk (rowup ho (ys := ([] : List Int) ++ [(1 : Int)]) (by simp) HSr.out.olt (blk_lt HSr.out.most) (Nat.le_trans ap.bm (Nat.le_of_lt (blk_lt HSr.out.most))) (below_size hb)); have HB3 := Aside0.mk hb; clear ho hb) | (go_at_call 40; (try rw [wj2]); refine (IH.out _ _ (([] : List Int) ++ [(1 : Int)]) s1 st' (HSr.out.below HB3.out) HO3.out HX2.out HN2.out HF2.out).mono ?_; rintro e w4 ⟨rfl, hs, hk, hb⟩; have HS4 := Aside0.mk hs; have HK4 := Aside0.mk hk; have HB4 := Aside0.mk hb; clear hs hk hb))
       have hbb : B ≤ wr.heap.size := Nat.le_trans ap.bm (Nat.le_of_lt (blk_lt HSr.out.most))
       go_roundw
       case rel => exact ⟨2, st', by go_num, .inr ⟨rfl, ⟨rfl⟩⟩, ⟨HS4.out⟩, ⟨Kd.R_kept (Kd.R_below HLr.out HB3.out) HK4.out (fun k hk hs => hk hs)⟩, ⟨(HKr.out.below HB3.out).then_ HK4.out (fun _ hk => .inl hk)⟩, ⟨HBr.out.trans ((HB3.out.mono hbb).trans HB4.out)⟩⟩
       case measure => simp [intOf]
     · have HE := HE.out
       subst HE
       go_wp2
       (try simp only [Exit.inBlock, Exit.then])
       refine bodyPost_ret (results_none rfl _ _ _) rfl ?_
       exact ⟨rfl, HSr.out, HKr.out, HBr.out⟩
  · have ll : 0 < l.length := List.length_pos_iff.2 e
    have pz := HX.out
    obtain ⟨ji, hji⟩ : ∃ ji : Int, ji = (l.length : Int) - 1 := ⟨_, rfl⟩
    obtain ⟨ad, e1, hx1⟩ := Kd.at_int (Kd.R_reads' HL.out).2.2 ji (by omega) (by omega)
    cases e1
    have hlast : 1 ≤ lst l ∧ lst l ≤ 60 := by
     unfold lst
     refine pz _ ?_
     unfold rd
     rw [List.getD_eq_getElem?_getD, List.getElem?_eq_getElem (by omega)]
     exact List.getElem_mem _
    clear pz
    have HF : Aside0 ((rng (lst l + 1) (61 - (lst l + 1)).toNat).foldlM (fun st n => impl_raised.f k h j (l ++ [n]) st) st = some st') := ⟨by
     unfold nexts at hf
     rw [if_neg e] at hf
     rw [show (61 - (lst l + 1)).toNat = (60 - lst l).toNat from by omega]
     exact hf⟩
    clear hf
    have hw1 : IntKind.i64.wrap ((l.length : Int) - 1) = ji := by
     have := HN.out
     rw [i64_w]; unfold wrap64; omega
    have hw2 : IntKind.i64.wrap (rd l ji + 1) = lst l + 1 := by
     rw [hji]
     show IntKind.i64.wrap (lst l + 1) = lst l + 1
     rw [i64_w]; unfold wrap64; omega
    have p1 : (0 ≤ ji) = True := eq_true (by omega)
    have q1 : (ji < (l.length : Int)) = True := eq_true (by omega)
    have HJ := Aside0.mk hji
    clear hji
    have b1 : decide (0 < (l.length : Int)) = true := decide_eq_true (by omega)
    have b1' : decide (0 < l.length) = true := decide_eq_true ll
    have b2 : ((l.length : Int) == 0) = false := beq_eq_false_iff_ne.mpr (by omega)
    go_enter Try.func40, Try.ntmps40
    go_wp2
    go_loopw [7] (fun n w' => ∃ (nn : Int) (s1 : List Int × Int), n = .int .i64 nn ∧ lst l + 1 ≤ nn ∧ nn ≤ 61 ∧ Aside0 ((rng nn (61 - nn).toNat).foldlM (fun st n => impl_raised.f k h j (l ++ [n]) st) s1 = some st') ∧ Aside0 (BSt B O M H h w' s1) ∧ Aside0 (Kd.R (Kd.int .i64) 3 w' B (fun k => ¬ Two O M k) (.slice (some ad) l.length c) l) ∧ Aside0 (Kept W w' (Two O M)) ∧ Aside0 (Below B W w')) (fun n _ => (61 - intOf n).toNat)
    case atStart => exact ⟨lst l + 1, st, (by first | rfl | (simp only [hw2]) | (rw [hw2])), Int.le_refl _, by omega, HF, HS, HL, ⟨Kept.refl _ _⟩, ⟨Below.refl _ _⟩⟩
    case round =>
     clear hx1 hw2 hw1 p1 q1 HF
     obtain ⟨nn, s1, rfl, h0, h1, HFr, HSr, HLr, HKr, HBr⟩ := hrel
     by_cases hx : nn ≤ 60
     · have hx0 : decide (nn ≤ 60) = true := decide_eq_true hx
       obtain ⟨s2, HF2, HF3⟩ : ∃ s2, Aside0 (impl_raised.f k h j (l ++ [nn]) s1 = some s2) ∧ Aside0 ((rng (nn + 1) (61 - (nn + 1)).toNat).foldlM (fun st n => impl_raised.f k h j (l ++ [n]) st) s2 = some st') := by
        have hf := HFr.out
        rw [show (61 - nn).toNat = (61 - (nn + 1)).toNat + 1 from by omega, rng, List.foldlM_cons] at hf
        obtain ⟨a, a1, a2⟩ := Option.bind_eq_some_iff.mp hf
        exact ⟨a, ⟨a1⟩, ⟨a2⟩⟩
       clear HFr
       have HX2 : Aside0 (∀ x ∈ l ++ [nn], 1 ≤ x ∧ x ≤ 60) := ⟨fun x hx => by
        rcases List.mem_append.1 hx with q | q
        · exact HX.out x q
        · rw [List.mem_singleton] at q; omega⟩
       have HN2 : Aside0 ((l ++ [nn]).length + j ≤ 10) := ⟨by have := HN.out; simp only [List.length_append, List.length_singleton]; omega⟩
       go_wp2_with (first | ((with_reducible refine gate_dst (N := 35) rfl ?_); refine Kd.R_lit (Kd.int .i64) _ 3 ?hg (N := 35) ?hd (xs := ([] : List Int)) (inner := []) (ok := fun _ => True) (okp := fun _ => True) ?hr ?hp (fun _ hk => hk) trivial (Below.refl _ _) (Nat.le_refl _) (by simp) ?_; (case hd => rfl); (case hg => rfl); (case hr => first | (go_simp; done) | (go_simp; rfl)); (case hp => exact (Reps.none _ _)); intro v1 w1 ho hb hg_ hnew_; clear hg_ hnew_; have HO1 := Aside0.mk ho; have HB1 := Aside0.mk hb; clear ho hb) | ((with_reducible refine gate_builtin (b := .append) (xs := #[.tmp 35, .tmp 36]) rfl ?_); at_builtin; refine Kd.R_append_rows (Kd.int .i64) (w0 := wr) wr.heap.size rfl (.tmp 35) (.tmp 36) 22 3 (.int .i64 0) 8 rfl Try.underlying22 info3 rfl (by decide) (by omega) v1 [] l _ _ _ (fun _ => True) (fun _ => False) rfl rfl ?aO ?aR (fun _ _ h => h) (fun _ h => h.elim) (fun _ _ => trivial) ?aB ?aS ?aL ?_; (case aO => exact HO1.out); (case aR => exact Kd.C_below (Kd.R_reads' HLr.out).2.2 HB1.out); (case aB => exact HB1.out); (case aS => exact below_size HB1.out); (case aL => have := HN.out; simp only [List.length_nil]; omega); intro v2 w2 ho hb hg hat; clear hg hat; have HO2 := Aside0.mk ho; have HB2 := Aside0.mk hb; clear ho hb) | ((with_reducible refine gate_builtin (b := .append) (xs := #[.tmp 37, .tmp 39]) rfl ?_); at_builtin; refine Kd.R_append (Kd.int .i64) (w0 := wr) wr.heap.size rfl (.tmp 37) (.tmp 39) 22 3 (.int .i64 0) 8 rfl Try.underlying22 info3 rfl (by decide) (by omega) v2 ([] ++ l) nn [.int .i64 nn] (fun _ => True) (fun _ => False) rfl rfl ?aP (fun _ hk => hk.elim) ?aF ?aO ?aB ?aS ?aL ?_; (case aP => exact rfl); (case aF => exact (fun _ _ => trivial)); (case aO => exact HO2.out); (case aB => exact HB2.out); (case aS => exact below_size HB2.out); (case aL => have := HN.out; simp only [List.nil_append, List.length_nil]; omega); intro v3 w3 ho hb hg hat; clear hg hat; have HO3 := Aside0.mk (rowup ho (ys := l ++ [nn]) (by simp) HSr.out.olt (blk_lt HSr.out.most) (Nat.le_trans ap.bm (Nat.le_of_lt (blk_lt HSr.out.most))) (below_size hb)); have HB3 := Aside0.mk hb; clear ho hb) | (go_at_call 40; (try rw [wj2]); refine (IH.out _ _ (l ++ [nn]) s1 s2 (HSr.out.below HB3.out) HO3.out HX2.out HN2.out HF2.out).mono ?_; rintro e w4 ⟨rfl, hs, hk, hb⟩; have HS4 := Aside0.mk hs; have HK4 := Aside0.mk hk; have HB4 := Aside0.mk hb; clear hs hk hb))
       have hbb : B ≤ wr.heap.size := Nat.le_trans ap.bm (Nat.le_of_lt (blk_lt HSr.out.most))
       go_roundw
       case rel => exact ⟨nn + 1, s2, by go_num, by omega, by omega, HF3, ⟨HS4.out⟩, ⟨Kd.R_kept (Kd.R_below HLr.out HB3.out) HK4.out (fun k hk hs => hk hs)⟩, ⟨(HKr.out.below HB3.out).then_ HK4.out (fun _ hk => .inl hk)⟩, ⟨HBr.out.trans ((HB3.out.mono hbb).trans HB4.out)⟩⟩
       case measure => simp [intOf]; omega
     · have hx0 : decide (nn ≤ 60) = false := decide_eq_false hx
       obtain rfl : nn = 61 := by omega
       have HE : Aside0 (s1 = st') := ⟨by
        have hf := HFr.out
        rw [show (61 - 61 : Int).toNat = 0 from rfl, rng, List.foldlM_nil] at hf
        exact Option.some.inj hf⟩
       clear HFr
       have HE := HE.out
       subst HE
       go_wp2
       go_end0
       exact ⟨rfl, HSr.out, HKr.out, HBr.out⟩
theorem within_one (x hi : Int) : impl_within.f x 1 hi = some (decide (1 ≤ x ∧ x ≤ hi)) := by
 unfold impl_within.f
 by_cases c : x ≥ 1
 · rw [if_pos c]; simp [c]
 · rw [if_neg c]; simp [c]
set_option maxHeartbeats 4000000 in
set_option maxRecDepth 100000 in
theorem impl_BestStamps.calls (k : Nat) (a0 : Int) (a1 : Int) (r1 : List Int) (r2 : Int) (w : World) (h : impl_BestStamps.f k a0 a1 = some (r1, r2)) :
 Calls Try.prog 9 #[.int .i64 a0, .int .i64 a1] w fun e w' => ∃ v0_ : Value, e = .returned (.tuple #[v0_, .int .i64 r2]) ∧ Kd.R (Kd.int .i64) 3 w' w.heap.size (fun _ => True) v0_ r1 ∧ Below w.heap.size w w' := by
 have hmf : ∀ (fn : Fn) (first cap : Array Value) (w : World), (Instr.makeFunc fn first cap).run Try.prog w = .ok (.func fn first cap) w := fun _ _ _ _ => rfl
 have hu22 := Try.underlying22
 unfold impl_BestStamps.f at h
 by_cases c1 : 1 ≤ a0 ∧ a0 ≤ 3
 · have W1 : Aside0 (impl_within.f a0 1 3 = some true) := ⟨by rw [within_one, decide_eq_true c1]⟩
   by_cases c2 : 1 ≤ a1 ∧ a1 ≤ 4
   · have W2 : Aside0 (impl_within.f a1 1 4 = some true) := ⟨by rw [within_one, decide_eq_true c2]⟩
     rw [if_pos ⟨c1, c2⟩] at h
     obtain ⟨j, rfl⟩ : ∃ j : Nat, a0 = (j : Int) := ⟨a0.toNat, by omega⟩
     rw [Int.toNat_natCast] at h
     have HJ : Aside0 (j ≤ 3) := ⟨by omega⟩
     have H := Aside0.mk h
     clear h c1 c2
     go_enter Try.func9, Try.ntmps9
     go_wp2_with (first | ((with_reducible refine gate_dst (N := 3) rfl ?_); refine box_event ?hg (N := 3) ?hd (cs := #[.int .i64 a1]) (t := 3) ?hr ?_; (case hd => rfl); (case hg => rfl); (case hr => first | (go_simp; done) | (go_simp; rfl)); intro gH hg wH hbox hb; have BH := Aside0.mk hbox; have HB := Aside0.mk hb; have GH := Aside0.mk (show w.heap.size ≤ gH by omega); clear hg hbox hb) | (go_at_call 39; (with_reducible refine (impl_within.calls (j : Int) 1 3 true _ W1.out).mono ?_); rintro e w' ⟨rfl, ⟨nd, rfl⟩⟩; have hcH : (wH.drewN nd).cell? ⟨gH, 0, none⟩ = some (.int .i64 a1) := (blk_cell (blk_drewN BH.out nd) 0).trans rfl; have BH2 := Aside0.mk (blk_drewN BH.out nd); have HB2 := Aside0.mk (pw_below_drewN HB.out nd)) | (go_at_call 39; (with_reducible refine (impl_within.calls a1 1 4 true _ W2.out).mono ?_); rintro e w' ⟨rfl, ⟨nd, rfl⟩⟩; skip) | ((with_reducible refine gate_dst (N := 16) rfl ?_); refine Kd.R_lit (Kd.int .i64) _ 3 ?hg (N := 16) ?hd (xs := ([] : List Int)) (inner := []) (ok := fun _ => True) (okp := fun _ => True) ?hr ?hp (fun _ hk => hk) trivial (Below.refl _ _) (Nat.le_refl _) (by simp) ?_; (case hd => rfl); (case hg => rfl); (case hr => first | (go_simp; done) | (go_simp; rfl)); (case hp => exact (Reps.none _ _)); intro v1 w4 ho hb hg_ hnew_; clear hg_ hnew_; have HO4 := Aside0.mk (Kd.R_lower ho (below_size (pw_below_drewN HB.out _))); have HB4 := Aside0.mk (below_step (pw_below_drewN HB.out _) hb); have BH4 := Aside0.mk (blk_below (blk_drewN BH.out _) hb); clear ho hb; obtain ⟨A1, k1, e1⟩ := Kd.R_slice HO4.out; subst e1; have HO4 : Aside0 (Kd.R (Kd.int .i64) 3 w4 w.heap.size (fun _ => True) (.slice A1 0 k1) []) := HO4) | ((with_reducible refine gate_dst (N := 6) rfl ?_); refine box_event ?hg (N := 6) ?hd (cs := #[.slice none 0 0]) (t := 22) ?hr ?_; (case hd => rfl); (case hg => rfl); (case hr => first | (go_simp; done) | (go_simp; rfl)); intro gO hg w5 hbox hb; have HO5 := Aside0.mk (Kd.R_below (Kd.R_mono (Kd.R_bound HO4.out) (ok' := fun k => k < gO) (fun k hk => by have := hk.2.2.1; omega)) hb); have BH5 := Aside0.mk (blk_below BH4.out hb); have NE1 := Aside0.mk (show gH ≠ gO by have := blk_lt BH4.out; omega); have GO := Aside0.mk (show w.heap.size ≤ gO by have := below_size HB4.out; omega); have HB5 := Aside0.mk (below_step HB4.out hb); have BO5 := Aside0.mk hbox; have hcO5 := (blk_cell BO5.out 0).trans rfl; have hfO5 := blk_frozen BO5.out 0; clear hg hbox hb))
     have sz : (w5.setCell ⟨gO, 0, none⟩ (.slice A1 0 k1)).heap.size = w5.heap.size := by simp [World.setCell]
     have LT6 : gO < w5.heap.size := blk_lt BO5.out
     have LT7 : gH < w5.heap.size := blk_lt BH5.out
     have gm : w.heap.size ≤ w5.heap.size := below_size HB5.out
     have ap : BAp w.heap.size gO w5.heap.size gH := ⟨by omega, NE1.out, by omega, GO.out, gm⟩
     have kp6 : Kept w5 (w5.setCell ⟨gO, 0, none⟩ (.slice A1 0 k1)) (fun k => k = gO) := Kept.setCell (S := fun k => k = gO) (Kept.refl w5 _) (p := ⟨gO, 0, none⟩) (.inl rfl) _
     have hr7 := Kd.R_alloc (Kd.R_kept HO5.out kp6 (fun k hk hs => by omega)) (.cells #[.int .i64 (-1)] 3)
     have bm : ((w5.setCell ⟨gO, 0, none⟩ (.slice A1 0 k1)).alloc (.cells #[.int .i64 (-1)] 3)).heap[w5.heap.size]? = some (.cells #[.int .i64 (-1)] 3 (0, 0)) := (by have q := blk_new (w5.setCell ⟨gO, 0, none⟩ (.slice A1 0 k1)) (.cells #[.int .i64 (-1)] 3); rw [sz] at q; exact q)
     have hs7 : BSt w.heap.size gO w5.heap.size gH a1 ((w5.setCell ⟨gO, 0, none⟩ (.slice A1 0 k1)).alloc (.cells #[.int .i64 (-1)] 3)) ([], -1) := ⟨⟨(.slice A1 0 k1), blk_alloc (blk_put BO5.out 0 _ rfl) _, Kd.R_mono hr7 (fun k hk => by rintro (rfl | rfl) <;> omega)⟩, bm, blk_alloc (blk_far BH5.out NE1.out _) _⟩
     refine (bs_raised (k := k) ap a1 j _ (.slice none 0 0) [] ([], -1) (r1, r2) hs7 (Kd.R_nil _ _ _ _ _) (by simp) (by have := HJ.out; simp only [List.length_nil]; omega) H.out).mono ?_
     rintro e w8 ⟨rfl, hs, hk, hb⟩
     obtain ⟨⟨vo, ho1, ho2⟩, hm, _⟩ := hs
     have hcO8 : w8.cell? ⟨gO, 0, none⟩ = some vo := (blk_cell ho1 0).trans rfl
     have hcM8 : w8.cell? ⟨w5.heap.size, 0, none⟩ = some (.int .i64 r2) := (blk_cell hm 0).trans rfl
     have HR8 := Aside0.mk ho2
     have HB8 := Aside0.mk ((below_alloc (HB5.out.setCell GO.out (.slice A1 0 k1)) _).trans hb)
     clear ho1 ho2 hm hs7 hr7 kp6 hk hb bm sz ap LT6 LT7 gm
     go_wp2
     go_region
     all_goals (try go_wp2)
     all_goals go_ret2
     all_goals exact ⟨_, rfl, Kd.R_drew (Kd.R_mono HR8.out (fun _ _ => trivial)), below_drew HB8.out⟩
   · have W2 : Aside0 (impl_within.f a1 1 4 = some false) := ⟨by rw [within_one, decide_eq_false c2]⟩
     rw [if_neg (fun q => c2 q.2)] at h
     have h := Option.some.inj h
     injection h with h1 h2
     subst h1 h2
     clear c1 c2
     go_enter Try.func9, Try.ntmps9
     go_wp2_with (first | ((with_reducible refine gate_dst (N := 3) rfl ?_); refine box_event ?hg (N := 3) ?hd (cs := #[.int .i64 a1]) (t := 3) ?hr ?_; (case hd => rfl); (case hg => rfl); (case hr => first | (go_simp; done) | (go_simp; rfl)); intro gH hg wH hbox hb; have BH := Aside0.mk hbox; have HB := Aside0.mk hb; have GH := Aside0.mk (show w.heap.size ≤ gH by omega); clear hg hbox hb) | (go_at_call 39; (with_reducible refine (impl_within.calls a0 1 3 true _ W1.out).mono ?_); rintro e w' ⟨rfl, ⟨nd, rfl⟩⟩; have hcH : (wH.drewN nd).cell? ⟨gH, 0, none⟩ = some (.int .i64 a1) := (blk_cell (blk_drewN BH.out nd) 0).trans rfl; have BH2 := Aside0.mk (blk_drewN BH.out nd); have HB2 := Aside0.mk (pw_below_drewN HB.out nd)) | (go_at_call 39; (with_reducible refine (impl_within.calls a1 1 4 false _ W2.out).mono ?_); rintro e w' ⟨rfl, ⟨nd, rfl⟩⟩; skip))
     go_ret2
     exact ⟨_, rfl, Kd.R_nil _ _ _ _ _, pw_below_drewN HB.out _⟩
 · have W1 : Aside0 (impl_within.f a0 1 3 = some false) := ⟨by rw [within_one, decide_eq_false c1]⟩
   rw [if_neg (fun q => c1 q.1)] at h
   have h := Option.some.inj h
   injection h with h1 h2
   subst h1 h2
   clear c1
   go_enter Try.func9, Try.ntmps9
   go_wp2_with (first | ((with_reducible refine gate_dst (N := 3) rfl ?_); refine box_event ?hg (N := 3) ?hd (cs := #[.int .i64 a1]) (t := 3) ?hr ?_; (case hd => rfl); (case hg => rfl); (case hr => first | (go_simp; done) | (go_simp; rfl)); intro gH hg wH hbox hb; have BH := Aside0.mk hbox; have HB := Aside0.mk hb; have GH := Aside0.mk (show w.heap.size ≤ gH by omega); clear hg hbox hb) | (go_at_call 39; (with_reducible refine (impl_within.calls a0 1 3 false _ W1.out).mono ?_); rintro e w' ⟨rfl, ⟨nd, rfl⟩⟩; have hcH : (wH.drewN nd).cell? ⟨gH, 0, none⟩ = some (.int .i64 a1) := (blk_cell (blk_drewN BH.out nd) 0).trans rfl; have BH2 := Aside0.mk (blk_drewN BH.out nd); have HB2 := Aside0.mk (pw_below_drewN HB.out nd)))
   go_ret2
   exact ⟨_, rfl, Kd.R_nil _ _ _ _ _, HB2.out⟩
def spec_DrawStampsFor.f (k : Nat) (l0 : List Int) : Option (List Int × Int × Int) := (spec_l1New.f k l0).bind fun bt301 => ((spec_l27Draw.f k bt301.1 bt301.2.1 bt301.2.2).bind fun bt305 => ((spec_l1Below.f bt301.1 bt305.2.1 bt305.2.2 8).bind fun bt310 => ((spec_l1Below.f bt301.1 bt310.2.1 bt310.2.2 60).bind fun bt313 => ((spec_l1Below.f bt301.1 bt313.2.1 bt313.2.2 40).bind fun bt316 => ((spec_l1PickInt.f bt301.1 bt316.2.1 bt316.2.2 (([bt313.1, bt316.1, 400, 401, (-1)] : List Int))).bind fun bt322 => (some (bt305.1, bt310.1, bt322.1)))))))
set_option maxHeartbeats 8000000 in
set_option maxRecDepth 100000 in
theorem spec_DrawStampsFor.calls (k : Nat) (A0 : Option Addr) (c0 : Nat) (l0 : List Int) (r1 : List Int) (r2 : Int) (r3 : Int) (w : World) (hr0 : Kd.C (Kd.int .u8) w A0 l0.length l0) (hc0 : l0.length ≤ c0) (h : spec_DrawStampsFor.f k l0 = some (r1, r2, r3)) :
 Calls Try.prog 16 #[.slice A0 l0.length c0] w fun e w' => ∃ v0_ : Value, e = .returned (.tuple #[v0_, .int .i64 r2, .int .i64 r3]) ∧ Kd.Q (Kd.int .i64) 3 w' w.heap.size (fun _ => True) v0_ r1 ∧ Below w.heap.size w w' := by
 have HR0 := Aside0.mk hr0
 have HC0 := Aside0.mk hc0
 clear hr0 hc0
 have HB := Aside0.mk (Below.refl w.heap.size w)
 have H : ((spec_l1New.f k l0).bind fun bt301 => ((spec_l27Draw.f k bt301.1 bt301.2.1 bt301.2.2).bind fun bt305 => ((spec_l1Below.f bt301.1 bt305.2.1 bt305.2.2 8).bind fun bt310 => ((spec_l1Below.f bt301.1 bt310.2.1 bt310.2.2 60).bind fun bt313 => ((spec_l1Below.f bt301.1 bt313.2.1 bt313.2.2 40).bind fun bt316 => ((spec_l1PickInt.f bt301.1 bt316.2.1 bt316.2.2 (([bt313.1, bt316.1, 400, 401, (-1)] : List Int))).bind fun bt322 => (some (bt305.1, bt310.1, bt322.1)))))))) = some (r1, r2, r3) := h
 clear h
 replace H := Option.bind_eq_some_iff.mp H
 obtain ⟨⟨t301, t302, t303⟩, A20, H⟩ := H
 replace H : ((spec_l27Draw.f k t301 t302 t303).bind fun bt305 => ((spec_l1Below.f t301 bt305.2.1 bt305.2.2 8).bind fun bt310 => ((spec_l1Below.f t301 bt310.2.1 bt310.2.2 60).bind fun bt313 => ((spec_l1Below.f t301 bt313.2.1 bt313.2.2 40).bind fun bt316 => ((spec_l1PickInt.f t301 bt316.2.1 bt316.2.2 (([bt313.1, bt316.1, 400, 401, (-1)] : List Int))).bind fun bt322 => (some (bt305.1, bt310.1, bt322.1))))))) = some (r1, r2, r3) := H
 have A2 := Aside0.mk A20
 clear A20
 replace H := Option.bind_eq_some_iff.mp H
 obtain ⟨⟨t305, t308, t309⟩, A30, H⟩ := H
 replace H : ((spec_l1Below.f t301 t308 t309 8).bind fun bt310 => ((spec_l1Below.f t301 bt310.2.1 bt310.2.2 60).bind fun bt313 => ((spec_l1Below.f t301 bt313.2.1 bt313.2.2 40).bind fun bt316 => ((spec_l1PickInt.f t301 bt316.2.1 bt316.2.2 (([bt313.1, bt316.1, 400, 401, (-1)] : List Int))).bind fun bt322 => (some (t305, bt310.1, bt322.1)))))) = some (r1, r2, r3) := H
 have A3 := Aside0.mk A30
 clear A30
 replace H := Option.bind_eq_some_iff.mp H
 obtain ⟨⟨t310, t311, t312⟩, A40, H⟩ := H
 replace H : ((spec_l1Below.f t301 t311 t312 60).bind fun bt313 => ((spec_l1Below.f t301 bt313.2.1 bt313.2.2 40).bind fun bt316 => ((spec_l1PickInt.f t301 bt316.2.1 bt316.2.2 (([bt313.1, bt316.1, 400, 401, (-1)] : List Int))).bind fun bt322 => (some (t305, t310, bt322.1))))) = some (r1, r2, r3) := H
 have A4 := Aside0.mk A40
 clear A40
 replace H := Option.bind_eq_some_iff.mp H
 obtain ⟨⟨t313, t314, t315⟩, A50, H⟩ := H
 replace H : ((spec_l1Below.f t301 t314 t315 40).bind fun bt316 => ((spec_l1PickInt.f t301 bt316.2.1 bt316.2.2 (([t313, bt316.1, 400, 401, (-1)] : List Int))).bind fun bt322 => (some (t305, t310, bt322.1)))) = some (r1, r2, r3) := H
 have A5 := Aside0.mk A50
 clear A50
 replace H := Option.bind_eq_some_iff.mp H
 obtain ⟨⟨t316, t317, t318⟩, A60, H⟩ := H
 replace H : ((spec_l1PickInt.f t301 t317 t318 (([t313, t316, 400, 401, (-1)] : List Int))).bind fun bt322 => (some (t305, t310, bt322.1))) = some (r1, r2, r3) := H
 have A6 := Aside0.mk A60
 clear A60
 obtain ⟨y319, hy319⟩ : ∃ y_ : List Int, y_ = (([t313, t316, 400, 401, (-1)] : List Int)) := ⟨_, rfl⟩
 replace H : ((spec_l1PickInt.f t301 t317 t318 y319).bind fun bt322 => (some (t305, t310, bt322.1))) = some (r1, r2, r3) := by first | (rw [hy319]; with_reducible exact H) | (have H2_ := (Option.bind_some _ _).symm.trans H; rw [hy319]; with_reducible exact H2_) | (have H2_ := (Option.bind_some _ _).symm.trans H; with_reducible exact H2_) | with_reducible exact H | (rw [hy319]; exact H) | exact H
 have Ny319 := Aside0.mk hy319
 clear hy319
 replace H := Option.bind_eq_some_iff.mp H
 obtain ⟨⟨t322, t323, t324⟩, A70, H⟩ := H
 replace H : (some (t305, t310, t322)) = some (r1, r2, r3) := H
 have A7 := Aside0.mk A70
 clear A70
 simp only [Option.some.injEq, Prod.mk.injEq] at H
 obtain ⟨rfl, rfl, rfl⟩ := H
 go_enter Try.func16, Try.ntmps16
 go_wp2_with (first | ((with_reducible refine gate_callee (f := 42) rfl ?_); refine goesL_ (some 9) rfl rfl Try.func42 (by kernel_rfl) rfl #[.slice A0 l0.length c0] rfl (by (try simp only [List.map_toArray, List.map_cons, List.map_nil]); first | done | rfl | (simp only [List.length_drop, List.length_take]; rfl)) ?_; (with_reducible refine (spec_l1New.calls k _ _ l0 t301 t302 t303 w _ ?side1 ?side2 ?side3 A2.out).mono ?_); (case side1 => repeat (first | (with_reducible first | exact HB.out | apply below_alloc | apply pw_below_drewN | apply below_drew1) | exact HB.out)); (case side2 => exact HR0.out); (case side3 => exact HC0.out); rintro e w8 ⟨g304, rfl, hi, hb, hb2⟩; refine ⟨_, rfl, ?_⟩; have n0_ := Aside0.mk (hb); have n1_ := Aside0.mk (hi); clear HB; have HB := n0_; have HI304 := n1_; clear n0_ n1_; (try clear hb); (try clear hb2); (try clear hk); (try clear hi)) | ((with_reducible refine gate_callee (f := 43) rfl ?_); refine goesL_ (some 11) rfl rfl Try.func43 (by kernel_rfl) rfl #[.pointer (some ⟨g304, 0, none⟩)] rfl (by (try simp only [List.map_toArray, List.map_cons, List.map_nil]); first | done | rfl | (simp only [List.length_drop, List.length_take]; rfl)) ?_; (with_reducible refine (spec_l27Draw.calls k g304 t301 t302 t303 t305 t308 t309 w _ ?side1 ?side2 A3.out).mono ?_); (case side1 => repeat (first | (with_reducible first | exact HI304.out | apply IsS75.alloc | apply IsS75.drewN | apply IsS75.drew | apply IsS75.set_1 | apply IsS75.set_2) | exact HI304.out)); (case side2 => repeat (first | (with_reducible first | exact HB.out | apply below_alloc | apply pw_below_drewN | apply below_drew1 | refine below_set ?_ (IsS75.ge HI304.out)) | exact HB.out)); rintro e w9 ⟨v306, rfl, ho0, hi, hb, hk⟩; refine ⟨_, rfl, ?_⟩; have n0_ := Aside0.mk (Kd.Q_lower ho0 (below_size (by repeat (first | (with_reducible first | exact HB.out | apply below_alloc | apply pw_below_drewN | apply below_drew1 | refine below_set ?_ (IsS75.ge HI304.out)) | exact HB.out)))); have n1_ := Aside0.mk (hb); have n2_ := Aside0.mk (hi); clear HB; clear HI304; have HO307 := n0_; have HB := n1_; have HI304 := n2_; clear n0_ n1_ n2_; (try clear hb); (try clear hb2); (try clear hk); (try clear hi); (try clear ho0)) | ((with_reducible refine gate_callee (f := 44) rfl ?_); refine goesL_ (some 13) rfl rfl Try.func44 (by kernel_rfl) rfl #[.pointer (some ⟨g304, 0, none⟩), .int .i64 8] rfl (by (try simp only [List.map_toArray, List.map_cons, List.map_nil]); first | done | rfl | (simp only [List.length_drop, List.length_take]; rfl)) ?_; (with_reducible refine (spec_l1Below.calls g304 t301 t308 t309 8 t310 t311 t312 w _ ?side1 ?side2 A4.out).mono ?_); (case side1 => repeat (first | (with_reducible first | exact HI304.out | apply IsS75.alloc | apply IsS75.drewN | apply IsS75.drew | apply IsS75.set_1 | apply IsS75.set_2) | exact HI304.out)); (case side2 => repeat (first | (with_reducible first | exact HB.out | apply below_alloc | apply pw_below_drewN | apply below_drew1 | refine below_set ?_ (IsS75.ge HI304.out)) | exact HB.out)); rintro e w10 ⟨rfl, hi, hb, hk⟩; refine ⟨_, rfl, ?_⟩; have n0_ := Aside0.mk (Kd.Q_mono (Kd.Q_keep (IsS75.apartQ (show IsS75 w _ g304 t301 t308 t309 from by repeat (first | (with_reducible first | exact HI304.out | apply IsS75.alloc | apply IsS75.drewN | apply IsS75.drew | apply IsS75.set_1 | apply IsS75.set_2) | exact HI304.out)) (by (with_reducible repeat (first | apply Kd.Q_alloc | apply Kd.Q_drewN | apply Kd.Q_drew)); exact HO307.out) (by decide)) hk (fun _ h => h.2)) (fun _ h => h.1)); have n1_ := Aside0.mk (hb); have n2_ := Aside0.mk (hi); clear HO307; clear HB; clear HI304; have HO307 := n0_; have HB := n1_; have HI304 := n2_; clear n0_ n1_ n2_; (try clear hb); (try clear hb2); (try clear hk); (try clear hi)) | ((with_reducible refine gate_callee (f := 44) rfl ?_); refine goesL_ (some 18) rfl rfl Try.func44 (by kernel_rfl) rfl #[.pointer (some ⟨g304, 0, none⟩), .int .i64 60] rfl (by (try simp only [List.map_toArray, List.map_cons, List.map_nil]); first | done | rfl | (simp only [List.length_drop, List.length_take]; rfl)) ?_; (with_reducible refine (spec_l1Below.calls g304 t301 t311 t312 60 t313 t314 t315 w _ ?side1 ?side2 A5.out).mono ?_); (case side1 => repeat (first | (with_reducible first | exact HI304.out | apply IsS75.alloc | apply IsS75.drewN | apply IsS75.drew | apply IsS75.set_1 | apply IsS75.set_2) | exact HI304.out)); (case side2 => repeat (first | (with_reducible first | exact HB.out | apply below_alloc | apply pw_below_drewN | apply below_drew1 | refine below_set ?_ (IsS75.ge HI304.out)) | exact HB.out)); rintro e w11 ⟨rfl, hi, hb, hk⟩; refine ⟨_, rfl, ?_⟩; have n0_ := Aside0.mk (Kd.Q_mono (Kd.Q_keep (IsS75.apartQ (show IsS75 w _ g304 t301 t311 t312 from by repeat (first | (with_reducible first | exact HI304.out | apply IsS75.alloc | apply IsS75.drewN | apply IsS75.drew | apply IsS75.set_1 | apply IsS75.set_2) | exact HI304.out)) (by (with_reducible repeat (first | apply Kd.Q_alloc | apply Kd.Q_drewN | apply Kd.Q_drew)); exact HO307.out) (by decide)) hk (fun _ h => h.2)) (fun _ h => h.1)); have n1_ := Aside0.mk (hb); have n2_ := Aside0.mk (hi); clear HO307; clear HB; clear HI304; have HO307 := n0_; have HB := n1_; have HI304 := n2_; clear n0_ n1_ n2_; (try clear hb); (try clear hb2); (try clear hk); (try clear hi)) | ((with_reducible refine gate_callee (f := 44) rfl ?_); refine goesL_ (some 20) rfl rfl Try.func44 (by kernel_rfl) rfl #[.pointer (some ⟨g304, 0, none⟩), .int .i64 40] rfl (by (try simp only [List.map_toArray, List.map_cons, List.map_nil]); first | done | rfl | (simp only [List.length_drop, List.length_take]; rfl)) ?_; (with_reducible refine (spec_l1Below.calls g304 t301 t314 t315 40 t316 t317 t318 w _ ?side1 ?side2 A6.out).mono ?_); (case side1 => repeat (first | (with_reducible first | exact HI304.out | apply IsS75.alloc | apply IsS75.drewN | apply IsS75.drew | apply IsS75.set_1 | apply IsS75.set_2) | exact HI304.out)); (case side2 => repeat (first | (with_reducible first | exact HB.out | apply below_alloc | apply pw_below_drewN | apply below_drew1 | refine below_set ?_ (IsS75.ge HI304.out)) | exact HB.out)); rintro e w12 ⟨rfl, hi, hb, hk⟩; refine ⟨_, rfl, ?_⟩; have n0_ := Aside0.mk (Kd.Q_mono (Kd.Q_keep (IsS75.apartQ (show IsS75 w _ g304 t301 t314 t315 from by repeat (first | (with_reducible first | exact HI304.out | apply IsS75.alloc | apply IsS75.drewN | apply IsS75.drew | apply IsS75.set_1 | apply IsS75.set_2) | exact HI304.out)) (by (with_reducible repeat (first | apply Kd.Q_alloc | apply Kd.Q_drewN | apply Kd.Q_drew)); exact HO307.out) (by decide)) hk (fun _ h => h.2)) (fun _ h => h.1)); have n1_ := Aside0.mk (hb); have n2_ := Aside0.mk (hi); clear HO307; clear HB; clear HI304; have HO307 := n0_; have HB := n1_; have HI304 := n2_; clear n0_ n1_ n2_; (try clear hb); (try clear hb2); (try clear hk); (try clear hi)) | ((with_reducible refine gate_dst (N := 21) rfl ?_); refine Kd.R_lit (Kd.int .i64) _ 3 ?hg (N := 21) ?hd (xs := ([t313, t316, 400, 401, (-1)] : List Int)) (inner := [.int .i64 t313, .int .i64 t316, .int .i64 400, .int .i64 401, .int .i64 (-1)]) (ok := fun _ => True) (okp := fun _ => True) ?hr ?hp (fun _ hk => hk) trivial (Below.refl _ _) (Nat.le_refl _) (by simp) ?_; (case hd => rfl); (case hg => rfl); (case hr => first | (go_simp; done) | (go_simp; rfl)); (case hp => exact (Reps.one (show Kd.M (Kd.int .i64) _ _ _ t313 [.int .i64 t313] from rfl) (Reps.one (show Kd.M (Kd.int .i64) _ _ _ t316 [.int .i64 t316] from rfl) (Reps.one (show Kd.M (Kd.int .i64) _ _ _ 400 [.int .i64 400] from rfl) (Reps.one (show Kd.M (Kd.int .i64) _ _ _ 401 [.int .i64 401] from rfl) (Reps.one (show Kd.M (Kd.int .i64) _ _ _ (-1) [.int .i64 (-1)] from rfl) (Reps.none _ _))))))); intro v320 w13 ho14 hb hg_ hnew_; clear hg_ hnew_; (first | rw [← Ny319.out] at ho14 | (simp only [Int.reduceToNat] at ho14; rw [← Ny319.out] at ho14)); have n0_ := Aside0.mk (Kd.Q_elder' (by (with_reducible repeat (first | apply Kd.Q_alloc | apply Kd.Q_drewN | apply Kd.Q_drew)); exact HO307.out) (Kd.R_base ho14) hb); have n1_ := Aside0.mk (Kd.R_lower (Kd.R_new' ho14 (Kd.Q_lt (by (with_reducible repeat (first | apply Kd.Q_alloc | apply Kd.Q_drewN | apply Kd.Q_drew)); exact HO307.out))) (below_size (by repeat (first | (with_reducible first | exact HB.out | apply below_alloc | apply pw_below_drewN | apply below_drew1 | refine below_set ?_ (IsS75.ge HI304.out)) | exact HB.out)))); have n2_ := Aside0.mk (IsS75.below (by repeat (first | (with_reducible first | exact HI304.out | apply IsS75.alloc | apply IsS75.drewN | apply IsS75.drew | apply IsS75.set_1 | apply IsS75.set_2) | exact HI304.out)) hb); have n3_ := Aside0.mk (below_step (by repeat (first | (with_reducible first | exact HB.out | apply below_alloc | apply pw_below_drewN | apply below_drew1 | refine below_set ?_ (IsS75.ge HI304.out)) | exact HB.out)) hb); clear HO307; clear HI304; clear HB; have HO307 := n0_; have HO321 := n1_; have HI304 := n2_; have HB := n3_; clear n0_ n1_ n2_ n3_; clear hb ho14; obtain ⟨Ao15, co15, eo15⟩ := Kd.R_slice HO321.out; subst eo15) | ((with_reducible refine gate_callee (f := 46) rfl ?_); refine goesL_ (some 22) rfl rfl Try.func46 (by kernel_rfl) rfl #[.pointer (some ⟨g304, 0, none⟩), .slice Ao15 y319.length co15] rfl (by (try simp only [List.map_toArray, List.map_cons, List.map_nil]); first | done | rfl | (simp only [List.length_drop, List.length_take]; rfl)) ?_; (with_reducible refine (spec_l1PickInt.calls g304 t301 t317 t318 _ _ y319 t322 t323 t324 w _ ?side1 ?side2 ?side3 ?side4 ?side5 A7.out).mono ?_); (case side1 => repeat (first | (with_reducible first | exact HI304.out | apply IsS75.alloc | apply IsS75.drewN | apply IsS75.drew | apply IsS75.set_1 | apply IsS75.set_2) | exact HI304.out)); (case side2 => repeat (first | (with_reducible first | exact HB.out | apply below_alloc | apply pw_below_drewN | apply below_drew1 | refine below_set ?_ (IsS75.ge HI304.out)) | exact HB.out)); (case side3 => exact ce_ ((Kd.R_reads' HO321.out).2.2)); (case side4 => exact (Kd.R_reads' HO321.out).2.1); (case side5 => exact far_slice (IsS75.own_ne HI304.out HO321.out (by decide))); rintro e w16 ⟨rfl, hi, hb, hk⟩; refine ⟨_, rfl, ?_⟩; have n0_ := Aside0.mk (Kd.Q_mono (Kd.Q_keep (IsS75.apartQ (show IsS75 w _ g304 t301 t317 t318 from by repeat (first | (with_reducible first | exact HI304.out | apply IsS75.alloc | apply IsS75.drewN | apply IsS75.drew | apply IsS75.set_1 | apply IsS75.set_2) | exact HI304.out)) (by (with_reducible repeat (first | apply Kd.Q_alloc | apply Kd.Q_drewN | apply Kd.Q_drew)); exact HO307.out) (by decide)) hk (fun _ h => h.2)) (fun _ h => h.1)); have n1_ := Aside0.mk (Kd.R_mono (Kd.R_keep (IsS75.apart (show IsS75 w _ g304 t301 t317 t318 from by repeat (first | (with_reducible first | exact HI304.out | apply IsS75.alloc | apply IsS75.drewN | apply IsS75.drew | apply IsS75.set_1 | apply IsS75.set_2) | exact HI304.out)) (re_ HO321.out) (by decide)) hk (fun _ h => h.2)) (fun _ h => h.1)); have n2_ := Aside0.mk (hb); have n3_ := Aside0.mk (hi); clear HO307; clear HO321; clear HB; clear HI304; have HO307 := n0_; have HO321 := n1_; have HB := n2_; have HI304 := n3_; clear n0_ n1_ n2_ n3_; (try clear hb); (try clear hb2); (try clear hk); (try clear hi)))
 go_ret3
 exact ⟨_, by first | rfl | (simp [errW_none, errW_some] <;> rfl) | (simp [*, errW_none, errW_some] <;> rfl), by (with_reducible repeat (first | apply Kd.Q_alloc | apply Kd.Q_drewN | apply Kd.Q_drew)); exact Kd.Q_mono HO307.out (fun _ hk => trivial), by repeat (first | (with_reducible first | exact HB.out | apply below_alloc | apply pw_below_drewN | apply below_drew1 | refine below_set ?_ (IsS75.ge HI304.out)) | exact HB.out)⟩
mutual
def impl_best.l0 : Nat → List Int → Int → List (List Int) → List Int → Int → Int → Option (List Int)
 | 0, _, _, _, _, _, _ => none
 | k + 1, x0, x1, x5, x6, x7, x8 => if x8 ≥ 0 then (if 0 ≤ x8 then (if x8 < (x0.length : Int) then (if (rd x0 x8) = 0 then (none) else (impl_best.l1 k x0 x1 x5 x6 x7 x8 (mn (wrap64 (Int.tdiv x1 (rd x0 x8))) x7))) else (none)) else (none)) else (some x6)
def impl_best.l1 : Nat → List Int → Int → List (List Int) → List Int → Int → Int → Int → Option (List Int)
 | 0, _, _, _, _, _, _, _ => none
 | k + 1, x0, x1, x5, x6, x7, x8, x9 => if 0 ≤ x8 then (if x8 < (x5.length : Int) then (if x8 < (x0.length : Int) then (if 0 ≤ (wrap64 (x1 - (wrap64 (x9 * (rd x0 x8))))) then (if (wrap64 (x1 - (wrap64 (x9 * (rd x0 x8))))) < ((rd_L2 x5 x8).length : Int) then (if (rd (rd_L2 x5 x8) (wrap64 (x1 - (wrap64 (x9 * (rd x0 x8)))))) = (wrap64 (x7 - x9)) then (if x8 < (x6.length : Int) then (impl_best.l0 k x0 (wrap64 (x1 - (wrap64 (x9 * (rd x0 x8))))) x5 (x6.set (x8 : Int).toNat x9) (wrap64 (x7 - x9)) (wrap64 (x8 - 1))) else (none)) else (impl_best.l1 k x0 x1 x5 x6 x7 x8 (wrap64 (x9 - 1)))) else (none)) else (none)) else (none)) else (none)) else (none)
end
def impl_best.f (k : Nat) (l0 : List Int) (a1 : Int) : Option (List Int) := (impl_fewest.f k l0 a1).bind fun t325 => (if 0 ≤ (l0.length : Int) then (if ((l0.length : Int) : Int).toNat ≤ 35184372088832 then (if (l0.length : Int) < (t325.length : Int) then (if 0 ≤ a1 then (if a1 < ((rd_L2 t325 (l0.length : Int)).length : Int) then (impl_best.l0 k l0 a1 t325 (List.replicate ((l0.length : Int) : Int).toNat 0) (rd (rd_L2 t325 (l0.length : Int)) a1) (wrap64 ((l0.length : Int) - 1))) else (none)) else (none)) else (none)) else (none)) else (none))
set_option maxHeartbeats 8000000 in
set_option maxRecDepth 100000 in
theorem impl_best.calls (k : Nat) (A0 : Option Addr) (c0 : Nat) (l0 : List Int) (a1 : Int) (r : List Int) (w : World) (hr0 : Kd.C (Kd.int .i64) w A0 l0.length l0) (hc0 : l0.length ≤ c0) (h : impl_best.f k l0 a1 = some r) :
 Calls Try.prog 47 #[.slice A0 l0.length c0, .int .i64 a1] w fun e w' => ∃ v0_ : Value, e = .returned (v0_) ∧ Kd.R (Kd.int .i64) 3 w' w.heap.size (fun _ => True) v0_ r ∧ Below w.heap.size w w' := by
 have HR0 := Aside0.mk hr0
 have HC0 := Aside0.mk hc0
 clear hr0 hc0
 have HB := Aside0.mk (Below.refl w.heap.size w)
 have H : ((impl_fewest.f k l0 a1).bind fun t325 => (if 0 ≤ (l0.length : Int) then (if ((l0.length : Int) : Int).toNat ≤ 35184372088832 then (if (l0.length : Int) < (t325.length : Int) then (if 0 ≤ a1 then (if a1 < ((rd_L2 t325 (l0.length : Int)).length : Int) then (impl_best.l0 k l0 a1 t325 (List.replicate ((l0.length : Int) : Int).toNat 0) (rd (rd_L2 t325 (l0.length : Int)) a1) (wrap64 ((l0.length : Int) - 1))) else (none)) else (none)) else (none)) else (none)) else (none))) = some r := h
 clear h
 replace H := Option.bind_eq_some_iff.mp H
 obtain ⟨t325, A30, H⟩ := H
 replace H : (if 0 ≤ (l0.length : Int) then (if ((l0.length : Int) : Int).toNat ≤ 35184372088832 then (if (l0.length : Int) < (t325.length : Int) then (if 0 ≤ a1 then (if a1 < ((rd_L2 t325 (l0.length : Int)).length : Int) then (impl_best.l0 k l0 a1 t325 (List.replicate ((l0.length : Int) : Int).toNat 0) (rd (rd_L2 t325 (l0.length : Int)) a1) (wrap64 ((l0.length : Int) - 1))) else (none)) else (none)) else (none)) else (none)) else (none)) = some r := H
 have A3 := Aside0.mk A30
 clear A30
 by_cases c4 : 0 ≤ (l0.length : Int)
 · rw [if_pos c4] at H
   have c4b0 := eq_true c4
   have c4b1 : decide (0 ≤ (l0.length : Int)) = true := decide_eq_true c4
   clear c4
   by_cases c5 : ((l0.length : Int) : Int).toNat ≤ 35184372088832
   · rw [if_pos c5] at H
     have c5b0 := eq_true c5
     have c5b1 : decide (((l0.length : Int) : Int).toNat ≤ 35184372088832) = true := decide_eq_true c5
     clear c5
     obtain ⟨y328, hy328⟩ : ∃ y_ : List Int, y_ = (List.replicate ((l0.length : Int) : Int).toNat 0) := ⟨_, rfl⟩
     replace H : (if (l0.length : Int) < (t325.length : Int) then (if 0 ≤ a1 then (if a1 < ((rd_L2 t325 (l0.length : Int)).length : Int) then (impl_best.l0 k l0 a1 t325 y328 (rd (rd_L2 t325 (l0.length : Int)) a1) (wrap64 ((l0.length : Int) - 1))) else (none)) else (none)) else (none)) = some r := by first | (rw [hy328]; with_reducible exact H) | (have H2_ := (Option.bind_some _ _).symm.trans H; rw [hy328]; with_reducible exact H2_) | (have H2_ := (Option.bind_some _ _).symm.trans H; with_reducible exact H2_) | with_reducible exact H | (rw [hy328]; exact H) | exact H
     have Ny328 := Aside0.mk hy328
     clear hy328
     by_cases c6 : (l0.length : Int) < (t325.length : Int)
     · rw [if_pos c6] at H
       have c6b0 : decide ((l0.length : Int) < (t325.length : Int)) = true := decide_eq_true c6
       have c6b1 : decide (l0.length < t325.length) = true := decide_eq_true (Int.ofNat_lt.mp c6)
       clear c6
       by_cases c7 : 0 ≤ a1
       · rw [if_pos c7] at H
         have c7b0 : decide (0 ≤ a1) = true := decide_eq_true c7
         clear c7
         by_cases c8 : a1 < ((rd_L2 t325 (l0.length : Int)).length : Int)
         · rw [if_pos c8] at H
           have c8b0 : decide (a1 < ((rd_L2 t325 (l0.length : Int)).length : Int)) = true := decide_eq_true c8
           clear c8
           have H' := Aside0.mk H
           clear H
           go_enter Try.func47, Try.ntmps47
           go_wp2_with (first | (go_at_call 45; (with_reducible refine (impl_fewest.calls k _ _ l0 a1 t325 _ ?side1 ?side2 A3.out).mono ?_); (case side1 => exact ce_ (HR0.out)); (case side2 => exact HC0.out); rintro e w9 ⟨v326, rfl, ho0, hb⟩; have n0_ := Aside0.mk (Kd.N_lower (Kd.N_mono (ok' := fun k_ => True) ho0 (fun k_ hk_ => trivial)) (below_size (bl_ HB.out))); have n1_ := Aside0.mk (below_step (bl_ HB.out) hb); clear HB; have HO327 := n0_; have HB := n1_; clear n0_ n1_; (try clear hb); (try clear hb2); (try clear hk); (try clear hi); (try clear ho0)) | ((with_reducible refine gate_dst (N := 15) rfl ?_); refine Kd.R_make (Kd.int .i64) _ 3 rfl (N := 15) rfl 22 _ _ rfl (l0.length : Int) rfl rfl Try.underlying22 (.int .i64 0) 8 info3 rfl (by decide) (by omega) 0 (ok := fun _ => True) (okp := fun _ => True) rfl (fun _ hk => hk) trivial (of_decide_eq_true (by first | (with_reducible assumption) | assumption)) (Nat.le_trans (Nat.mul_le_mul_right _ (of_decide_eq_true (by first | (with_reducible assumption) | assumption) : (l0.length : Int).toNat ≤ 35184372088832)) (by omega)) (Below.refl _ _) (Nat.le_refl _) ?_; intro v329 w10 ho11 hb hg_ hnew_; clear hg_ hnew_; (first | rw [← Ny328.out] at ho11 | (simp only [Int.reduceToNat] at ho11; rw [← Ny328.out] at ho11)); have n0_ := Aside0.mk (Kd.N_elder' (by (with_reducible repeat (first | apply Kd.N_alloc | apply Kd.N_drewN | apply Kd.N_drew)); exact HO327.out) (Kd.R_base ho11) hb); have n1_ := Aside0.mk (Kd.R_lower ho11 (below_size (bl_ HB.out))); have n2_ := Aside0.mk (below_step (bl_ HB.out) hb); clear HO327; clear HB; have HO327 := n0_; have HO330 := n1_; have HB := n2_; clear n0_ n1_ n2_; clear hb ho11; obtain ⟨Ao12, co12, eo12⟩ := Kd.N_slice HO327.out; subst eo12; have p331 : 0 ≤ ((l0.length : Int) : Int) := of_decide_eq_true (by first | (with_reducible assumption) | assumption); have q331 : (l0.length : Int) < (t325.length : Int) := of_decide_eq_true (by first | (with_reducible assumption) | assumption); obtain ⟨ad331, A331_0, c331_0, e331, hx331_0, hl331_0, hi331_0⟩ := at_L2 (Kd.N_reads' HO327.out).2.2 (l0.length : Int) p331 q331; cases e331; obtain ⟨ce331, hce331, hMe331, hcc331⟩ := Kd.N_get HO327.out [] (l0.length : Int) p331 (by first | exact q331 | exact of_decide_eq_true (by first | (with_reducible assumption) | assumption) | (have e_ := (Kd.N_reads' HO327.out).1; omega)); obtain ⟨ua331_0, uc331_0, rfl, ul331_0, ge331_0⟩ := Kd.FK_slice_open hMe331; have hv331_0 := hcc331 0 _ rfl; rw [Nat.add_zero, show ((Kd.slice 3 (Kd.int .i64))).sz = 1 from rfl, Nat.mul_one] at hv331_0; replace hv331_0 := Option.some.inj (hv331_0.symm.trans hx331_0); injection hv331_0 with hva_ hvn_ hvc_; rw [hva_] at ge331_0; rw [hvc_] at ul331_0; have HL331_0 := Aside0.mk (show Kd.V (Kd.int .i64) 3 _ w.heap.size _ _ (rd_L2 t325 (l0.length : Int)) from Kd.V_mk ul331_0 ge331_0); clear hva_ hvn_ hvc_ ge331_0 ul331_0; clear hcc331 hce331; have HR331_0 := Aside0.mk hi331_0; have HC331_0 := Aside0.mk hl331_0; clear hi331_0 hl331_0; (try simp only [Go.IntWalk.toNatUp] at hx331_0); replace p331 := eq_true p331; replace q331 := eq_true q331; have p332 : 0 ≤ (a1 : Int) := of_decide_eq_true (by first | (with_reducible assumption) | assumption); have q332 : a1 < ((rd_L2 t325 (l0.length : Int)).length : Int) := of_decide_eq_true (by first | (with_reducible assumption) | assumption); obtain ⟨ad332, e332, hx332_0⟩ := Kd.at_int (by repeat (first | (with_reducible exact HR331_0.out) | (with_reducible refine Kd.C_alloc ?_ _) | (with_reducible refine Kd.C_drewN ?_ _) | (with_reducible refine Kd.C_drew ?_) | exact HR331_0.out)) a1 p332 q332; cases e332; replace p332 := eq_true p332; replace q332 := eq_true q332))
           repeat (go_quiet (first | (go_at_call 45; (with_reducible refine (impl_fewest.calls k _ _ l0 a1 t325 _ ?side1 ?side2 A3.out).mono ?_); (case side1 => exact ce_ (HR0.out)); (case side2 => exact HC0.out); rintro e w9 ⟨v326, rfl, ho0, hb⟩; have n0_ := Aside0.mk (Kd.N_lower (Kd.N_mono (ok' := fun k_ => True) ho0 (fun k_ hk_ => trivial)) (below_size (bl_ HB.out))); have n1_ := Aside0.mk (below_step (bl_ HB.out) hb); clear HB; have HO327 := n0_; have HB := n1_; clear n0_ n1_; (try clear hb); (try clear hb2); (try clear hk); (try clear hi); (try clear ho0)) | ((with_reducible refine gate_dst (N := 15) rfl ?_); refine Kd.R_make (Kd.int .i64) _ 3 rfl (N := 15) rfl 22 _ _ rfl (l0.length : Int) rfl rfl Try.underlying22 (.int .i64 0) 8 info3 rfl (by decide) (by omega) 0 (ok := fun _ => True) (okp := fun _ => True) rfl (fun _ hk => hk) trivial (of_decide_eq_true (by first | (with_reducible assumption) | assumption)) (Nat.le_trans (Nat.mul_le_mul_right _ (of_decide_eq_true (by first | (with_reducible assumption) | assumption) : (l0.length : Int).toNat ≤ 35184372088832)) (by omega)) (Below.refl _ _) (Nat.le_refl _) ?_; intro v329 w10 ho11 hb hg_ hnew_; clear hg_ hnew_; (first | rw [← Ny328.out] at ho11 | (simp only [Int.reduceToNat] at ho11; rw [← Ny328.out] at ho11)); have n0_ := Aside0.mk (Kd.N_elder' (by (with_reducible repeat (first | apply Kd.N_alloc | apply Kd.N_drewN | apply Kd.N_drew)); exact HO327.out) (Kd.R_base ho11) hb); have n1_ := Aside0.mk (Kd.R_lower ho11 (below_size (bl_ HB.out))); have n2_ := Aside0.mk (below_step (bl_ HB.out) hb); clear HO327; clear HB; have HO327 := n0_; have HO330 := n1_; have HB := n2_; clear n0_ n1_ n2_; clear hb ho11; obtain ⟨Ao12, co12, eo12⟩ := Kd.N_slice HO327.out; subst eo12; have p331 : 0 ≤ ((l0.length : Int) : Int) := of_decide_eq_true (by first | (with_reducible assumption) | assumption); have q331 : (l0.length : Int) < (t325.length : Int) := of_decide_eq_true (by first | (with_reducible assumption) | assumption); obtain ⟨ad331, A331_0, c331_0, e331, hx331_0, hl331_0, hi331_0⟩ := at_L2 (Kd.N_reads' HO327.out).2.2 (l0.length : Int) p331 q331; cases e331; obtain ⟨ce331, hce331, hMe331, hcc331⟩ := Kd.N_get HO327.out [] (l0.length : Int) p331 (by first | exact q331 | exact of_decide_eq_true (by first | (with_reducible assumption) | assumption) | (have e_ := (Kd.N_reads' HO327.out).1; omega)); obtain ⟨ua331_0, uc331_0, rfl, ul331_0, ge331_0⟩ := Kd.FK_slice_open hMe331; have hv331_0 := hcc331 0 _ rfl; rw [Nat.add_zero, show ((Kd.slice 3 (Kd.int .i64))).sz = 1 from rfl, Nat.mul_one] at hv331_0; replace hv331_0 := Option.some.inj (hv331_0.symm.trans hx331_0); injection hv331_0 with hva_ hvn_ hvc_; rw [hva_] at ge331_0; rw [hvc_] at ul331_0; have HL331_0 := Aside0.mk (show Kd.V (Kd.int .i64) 3 _ w.heap.size _ _ (rd_L2 t325 (l0.length : Int)) from Kd.V_mk ul331_0 ge331_0); clear hva_ hvn_ hvc_ ge331_0 ul331_0; clear hcc331 hce331; have HR331_0 := Aside0.mk hi331_0; have HC331_0 := Aside0.mk hl331_0; clear hi331_0 hl331_0; (try simp only [Go.IntWalk.toNatUp] at hx331_0); replace p331 := eq_true p331; replace q331 := eq_true q331; have p332 : 0 ≤ (a1 : Int) := of_decide_eq_true (by first | (with_reducible assumption) | assumption); have q332 : a1 < ((rd_L2 t325 (l0.length : Int)).length : Int) := of_decide_eq_true (by first | (with_reducible assumption) | assumption); obtain ⟨ad332, e332, hx332_0⟩ := Kd.at_int (by repeat (first | (with_reducible exact HR331_0.out) | (with_reducible refine Kd.C_alloc ?_ _) | (with_reducible refine Kd.C_drewN ?_ _) | (with_reducible refine Kd.C_drew ?_) | exact HR331_0.out)) a1 p332 q332; cases e332; replace p332 := eq_true p332; replace q332 := eq_true q332)); try go_wp2_with (first | (go_at_call 45; (with_reducible refine (impl_fewest.calls k _ _ l0 a1 t325 _ ?side1 ?side2 A3.out).mono ?_); (case side1 => exact ce_ (HR0.out)); (case side2 => exact HC0.out); rintro e w9 ⟨v326, rfl, ho0, hb⟩; have n0_ := Aside0.mk (Kd.N_lower (Kd.N_mono (ok' := fun k_ => True) ho0 (fun k_ hk_ => trivial)) (below_size (bl_ HB.out))); have n1_ := Aside0.mk (below_step (bl_ HB.out) hb); clear HB; have HO327 := n0_; have HB := n1_; clear n0_ n1_; (try clear hb); (try clear hb2); (try clear hk); (try clear hi); (try clear ho0)) | ((with_reducible refine gate_dst (N := 15) rfl ?_); refine Kd.R_make (Kd.int .i64) _ 3 rfl (N := 15) rfl 22 _ _ rfl (l0.length : Int) rfl rfl Try.underlying22 (.int .i64 0) 8 info3 rfl (by decide) (by omega) 0 (ok := fun _ => True) (okp := fun _ => True) rfl (fun _ hk => hk) trivial (of_decide_eq_true (by first | (with_reducible assumption) | assumption)) (Nat.le_trans (Nat.mul_le_mul_right _ (of_decide_eq_true (by first | (with_reducible assumption) | assumption) : (l0.length : Int).toNat ≤ 35184372088832)) (by omega)) (Below.refl _ _) (Nat.le_refl _) ?_; intro v329 w10 ho11 hb hg_ hnew_; clear hg_ hnew_; (first | rw [← Ny328.out] at ho11 | (simp only [Int.reduceToNat] at ho11; rw [← Ny328.out] at ho11)); have n0_ := Aside0.mk (Kd.N_elder' (by (with_reducible repeat (first | apply Kd.N_alloc | apply Kd.N_drewN | apply Kd.N_drew)); exact HO327.out) (Kd.R_base ho11) hb); have n1_ := Aside0.mk (Kd.R_lower ho11 (below_size (bl_ HB.out))); have n2_ := Aside0.mk (below_step (bl_ HB.out) hb); clear HO327; clear HB; have HO327 := n0_; have HO330 := n1_; have HB := n2_; clear n0_ n1_ n2_; clear hb ho11; obtain ⟨Ao12, co12, eo12⟩ := Kd.N_slice HO327.out; subst eo12; have p331 : 0 ≤ ((l0.length : Int) : Int) := of_decide_eq_true (by first | (with_reducible assumption) | assumption); have q331 : (l0.length : Int) < (t325.length : Int) := of_decide_eq_true (by first | (with_reducible assumption) | assumption); obtain ⟨ad331, A331_0, c331_0, e331, hx331_0, hl331_0, hi331_0⟩ := at_L2 (Kd.N_reads' HO327.out).2.2 (l0.length : Int) p331 q331; cases e331; obtain ⟨ce331, hce331, hMe331, hcc331⟩ := Kd.N_get HO327.out [] (l0.length : Int) p331 (by first | exact q331 | exact of_decide_eq_true (by first | (with_reducible assumption) | assumption) | (have e_ := (Kd.N_reads' HO327.out).1; omega)); obtain ⟨ua331_0, uc331_0, rfl, ul331_0, ge331_0⟩ := Kd.FK_slice_open hMe331; have hv331_0 := hcc331 0 _ rfl; rw [Nat.add_zero, show ((Kd.slice 3 (Kd.int .i64))).sz = 1 from rfl, Nat.mul_one] at hv331_0; replace hv331_0 := Option.some.inj (hv331_0.symm.trans hx331_0); injection hv331_0 with hva_ hvn_ hvc_; rw [hva_] at ge331_0; rw [hvc_] at ul331_0; have HL331_0 := Aside0.mk (show Kd.V (Kd.int .i64) 3 _ w.heap.size _ _ (rd_L2 t325 (l0.length : Int)) from Kd.V_mk ul331_0 ge331_0); clear hva_ hvn_ hvc_ ge331_0 ul331_0; clear hcc331 hce331; have HR331_0 := Aside0.mk hi331_0; have HC331_0 := Aside0.mk hl331_0; clear hi331_0 hl331_0; (try simp only [Go.IntWalk.toNatUp] at hx331_0); replace p331 := eq_true p331; replace q331 := eq_true q331; have p332 : 0 ≤ (a1 : Int) := of_decide_eq_true (by first | (with_reducible assumption) | assumption); have q332 : a1 < ((rd_L2 t325 (l0.length : Int)).length : Int) := of_decide_eq_true (by first | (with_reducible assumption) | assumption); obtain ⟨ad332, e332, hx332_0⟩ := Kd.at_int (by repeat (first | (with_reducible exact HR331_0.out) | (with_reducible refine Kd.C_alloc ?_ _) | (with_reducible refine Kd.C_drewN ?_ _) | (with_reducible refine Kd.C_drew ?_) | exact HR331_0.out)) a1 p332 q332; cases e332; replace p332 := eq_true p332; replace q332 := eq_true q332)))
           go_loopg [1, 7, 8] k (fun kq v1 v7 v8 w' => ∃ (x1_1 : Int) (x6_1 : List Int) (x7_1 : Int) (x8_1 : Int), v1 = .int .i64 x1_1 ∧ v7 = .int .i64 x7_1 ∧ v8 = .int .i64 x8_1 ∧ Aside0 (impl_best.l0 kq l0 x1_1 t325 x6_1 x7_1 x8_1 = some r) ∧ Aside0 (kq ≤ k) ∧ Aside0 (Kd.N (Kd.slice 3 (Kd.int .i64)) 22 w' w.heap.size (fun k_ => some k_ ≠ (v329 : Value).ownBlock) (.slice (some ad331) t325.length co12) t325) ∧ Aside0 (Kd.R (Kd.int .i64) 3 w' w.heap.size (fun _ => True) v329 x6_1) ∧ Aside0 (Below w.heap.size w w'))
           case atStart => exact ⟨(a1), (y328), (rd (rd_L2 t325 (l0.length : Int)) a1), (wrap64 ((l0.length : Int) - 1)), (by first | rfl | (simp; done) | (simp [*]; done)), (by first | rfl | (simp; done) | (simp [*]; done)), (by first | rfl | (simp; done) | (simp [*]; done)), H', ⟨Nat.le_refl _⟩, ⟨by (with_reducible repeat (first | apply Kd.N_alloc | apply Kd.N_drewN | apply Kd.N_drew)); exact Kd.N_mono HO327.out (fun _ hk => hk.2)⟩, ⟨re_ HO330.out⟩, ⟨bl_ HB.out⟩⟩
           case round =>
            clear H'
            try clear p2
            try clear c3
            try clear p3
            try clear q3
            try clear hx3
            try clear c4
            try clear c4b0
            try clear c4b1
            try clear c5
            try clear c5b0
            try clear c5b1
            try clear c6
            try clear c6b0
            try clear c6b1
            try clear p6
            try clear c7
            try clear c7b0
            try clear c8
            try clear c8b0
            try clear hx331_0
            try clear hx332_0
            try clear p331
            try clear p332
            try clear q331
            try clear q332
            obtain ⟨x1_1, x6_1, x7_1, x8_1, rfl, rfl, rfl, HA, HK1, HO_5, HO_6, HB⟩ := hrel
            cases gk with
            | zero => exact absurd HA.out (by simp [impl_best.l0])
            | succ k1 =>
             have H := HA.out
             clear HA
             simp only [impl_best.l0] at H
             by_cases c13 : x8_1 ≥ 0
             · rw [if_pos c13] at H
               have c13b0 : decide (0 ≤ x8_1) = true := decide_eq_true c13
               clear c13
               by_cases c14 : 0 ≤ x8_1
               · rw [if_pos c14] at H
                 have c14b0 : decide (0 ≤ x8_1) = true := decide_eq_true c14
                 clear c14
                 by_cases c15 : x8_1 < (l0.length : Int)
                 · rw [if_pos c15] at H
                   have c15b0 : decide (x8_1 < (l0.length : Int)) = true := decide_eq_true c15
                   clear c15
                   by_cases c16 : (rd l0 x8_1) = 0
                   · rw [if_pos c16] at H
                     exact absurd H (by simp)
                   · rw [if_neg c16] at H
                     have c16b0 : ((rd l0 x8_1) == 0) = false := beq_eq_false_iff_ne.mpr c16
                     have c16b1 : ((rd l0 x8_1) != 0) = true := bne_iff_ne.mpr c16
                     obtain ⟨ji17, hji17⟩ : ∃ j_ : Int, (mn (wrap64 (Int.tdiv x1_1 (rd l0 x8_1))) x7_1) = j_ := ⟨_, rfl⟩
                     replace H : (impl_best.l1 k1 l0 x1_1 t325 x6_1 x7_1 x8_1 ji17) = some r := by first | (rw [hji17] at H; exact H) | (simp only [hji17] at H ⊢; exact H)
                     have hji17_ : (if x7_1 < (wrap64 (Int.tdiv x1_1 (rd l0 x8_1))) then x7_1 else (wrap64 (Int.tdiv x1_1 (rd l0 x8_1)))) = ji17 := hji17
                     have H' := Aside0.mk H
                     clear H
                     have p333 : 0 ≤ (x8_1 : Int) := of_decide_eq_true (by first | (with_reducible assumption) | assumption)
                     have q333 : x8_1 < (l0.length : Int) := of_decide_eq_true (by first | (with_reducible assumption) | assumption)
                     obtain ⟨ad333, e333, hx333_0⟩ := Kd.at_int HR0.out x8_1 p333 q333
                     cases e333
                     (try replace hx333_0 := (HB.out.cell (World.block_lt_of_cell? w _ hx333_0)).trans hx333_0)
                     replace p333 := eq_true p333
                     replace q333 := eq_true q333
                     go_wp2
                     repeat (go_quiet (fail); try go_wp2)
                     go_loopg [9] k1 (fun kq v9 w' => ∃ (x9_2 : Int), v9 = .int .i64 x9_2 ∧ Aside0 (impl_best.l1 kq l0 x1_1 t325 x6_1 x7_1 x8_1 x9_2 = some r) ∧ Aside0 (kq ≤ k1) ∧ Aside0 (Kd.N (Kd.slice 3 (Kd.int .i64)) 22 w' w.heap.size (fun k_ => some k_ ≠ (v329 : Value).ownBlock) (.slice (some ad331) t325.length co12) t325) ∧ Aside0 (Kd.R (Kd.int .i64) 3 w' w.heap.size (fun _ => True) v329 x6_1) ∧ Aside0 (Below w.heap.size w w'))
                     case atStart => exact ⟨(ji17), (by first | rfl | (simp; done) | (simp only [← hji17] <;> (first | rfl | simp)) | (simp [*]; done)), H', ⟨Nat.le_refl _⟩, ⟨by (with_reducible repeat (first | apply Kd.N_alloc | apply Kd.N_drewN | apply Kd.N_drew)); exact HO_5.out⟩, ⟨re_ HO_6.out⟩, ⟨bl_ HB.out⟩⟩
                     case round =>
                      clear H'
                      try clear c1
                      try clear p2
                      try clear c3
                      try clear p3
                      try clear q3
                      try clear hx3
                      try clear c4
                      try clear c4b0
                      try clear c4b1
                      try clear c5
                      try clear c5b0
                      try clear c5b1
                      try clear c6
                      try clear c6b0
                      try clear c6b1
                      try clear p6
                      try clear c7
                      try clear c7b0
                      try clear c8
                      try clear c8b0
                      try clear c13
                      try clear c13b0
                      try clear c14
                      try clear c14b0
                      try clear c15
                      try clear c15b0
                      try clear c16
                      try clear c16b0
                      try clear c16b1
                      try clear hx331_0
                      try clear hx332_0
                      try clear hx333_0
                      try clear p2
                      try clear p3
                      try clear p331
                      try clear p332
                      try clear p333
                      try clear p6
                      try clear q3
                      try clear q331
                      try clear q332
                      try clear q333
                      obtain ⟨x9_2, rfl, HA, HK2, HO_5, HO_6, HB⟩ := hrel
                      cases gk with
                      | zero => exact absurd HA.out (by simp [impl_best.l1])
                      | succ k2 =>
                       have H := HA.out
                       clear HA
                       simp only [impl_best.l1] at H
                       by_cases c18 : 0 ≤ x8_1
                       · rw [if_pos c18] at H
                         have c18b0 : decide (0 ≤ x8_1) = true := decide_eq_true c18
                         clear c18
                         by_cases c19 : x8_1 < (t325.length : Int)
                         · rw [if_pos c19] at H
                           have c19b0 : decide (x8_1 < (t325.length : Int)) = true := decide_eq_true c19
                           clear c19
                           by_cases c20 : x8_1 < (l0.length : Int)
                           · rw [if_pos c20] at H
                             have c20b0 : decide (x8_1 < (l0.length : Int)) = true := decide_eq_true c20
                             clear c20
                             obtain ⟨ji21, hji21⟩ : ∃ j_ : Int, (wrap64 (x1_1 - (wrap64 (x9_2 * (rd l0 x8_1))))) = j_ := ⟨_, rfl⟩
                             replace H : (if 0 ≤ (ji21) then (if (ji21) < ((rd_L2 t325 x8_1).length : Int) then (if (rd (rd_L2 t325 x8_1) (ji21)) = (wrap64 (x7_1 - x9_2)) then (if x8_1 < (x6_1.length : Int) then (impl_best.l0 k2 l0 ji21 t325 (x6_1.set (x8_1 : Int).toNat x9_2) (wrap64 (x7_1 - x9_2)) (wrap64 (x8_1 - 1))) else (none)) else (impl_best.l1 k2 l0 x1_1 t325 x6_1 x7_1 x8_1 (wrap64 (x9_2 - 1)))) else (none)) else (none)) = some r := by first | (rw [hji21] at H; exact H) | (simp only [hji21] at H ⊢; exact H)
                             have hji21w : (IntKind.i64.wrap (x1_1 - (wrap64 (x9_2 * (rd l0 x8_1))))) = ji21 := (i64_w _).trans hji21
                             by_cases c22 : 0 ≤ (ji21)
                             · rw [if_pos c22] at H
                               have c22b0 : decide (0 ≤ (ji21)) = true := decide_eq_true c22
                               clear c22
                               by_cases c23 : (ji21) < ((rd_L2 t325 x8_1).length : Int)
                               · rw [if_pos c23] at H
                                 have c23b0 : decide ((ji21) < ((rd_L2 t325 x8_1).length : Int)) = true := decide_eq_true c23
                                 clear c23
                                 by_cases c24 : (rd (rd_L2 t325 x8_1) (ji21)) = (wrap64 (x7_1 - x9_2))
                                 · rw [if_pos c24] at H
                                   have c24b0 : ((rd (rd_L2 t325 x8_1) (ji21)) == (wrap64 (x7_1 - x9_2))) = true := beq_iff_eq.mpr c24
                                   have c24b1 : ((rd (rd_L2 t325 x8_1) (ji21)) != (wrap64 (x7_1 - x9_2))) = false := bne_eq_false_iff_eq.mpr c24
                                   clear c24
                                   by_cases c25 : x8_1 < (x6_1.length : Int)
                                   · rw [if_pos c25] at H
                                     have c25b0 : decide (x8_1 < (x6_1.length : Int)) = true := decide_eq_true c25
                                     clear c25
                                     obtain ⟨y337, hy337⟩ : ∃ y_ : List Int, y_ = (x6_1.set (x8_1 : Int).toNat x9_2) := ⟨_, rfl⟩
                                     replace H : (impl_best.l0 k2 l0 ji21 t325 y337 (wrap64 (x7_1 - x9_2)) (wrap64 (x8_1 - 1))) = some r := by first | (rw [hy337]; with_reducible exact H) | (have H2_ := (Option.bind_some _ _).symm.trans H; rw [hy337]; with_reducible exact H2_) | (have H2_ := (Option.bind_some _ _).symm.trans H; with_reducible exact H2_) | with_reducible exact H | (rw [hy337]; exact H) | exact H
                                     have Ny337 := Aside0.mk hy337
                                     clear hy337
                                     have H' := Aside0.mk H
                                     clear H
                                     have p334 : 0 ≤ (x8_1 : Int) := of_decide_eq_true (by first | (with_reducible assumption) | assumption)
                                     have q334 : x8_1 < (t325.length : Int) := of_decide_eq_true (by first | (with_reducible assumption) | assumption)
                                     obtain ⟨ad334, A334_0, c334_0, e334, hx334_0, hl334_0, hi334_0⟩ := at_L2 (Kd.N_reads' HO_5.out).2.2 x8_1 p334 q334
                                     obtain rfl : ad331 = ad334 := (by injection e334)
                                     obtain ⟨ce334, hce334, hMe334, hcc334⟩ := Kd.N_get HO_5.out [] x8_1 p334 (by first | exact q334 | exact of_decide_eq_true (by first | (with_reducible assumption) | assumption) | (have e_ := (Kd.N_reads' HO_5.out).1; omega))
                                     obtain ⟨ua334_0, uc334_0, rfl, ul334_0, ge334_0⟩ := Kd.FK_slice_open hMe334
                                     have hv334_0 := hcc334 0 _ rfl
                                     rw [Nat.add_zero, show ((Kd.slice 3 (Kd.int .i64))).sz = 1 from rfl, Nat.mul_one] at hv334_0
                                     replace hv334_0 := Option.some.inj (hv334_0.symm.trans hx334_0)
                                     injection hv334_0 with hva_ hvn_ hvc_
                                     rw [hva_] at ge334_0
                                     rw [hvc_] at ul334_0
                                     have HL334_0 := Aside0.mk (show Kd.V (Kd.int .i64) 3 _ w.heap.size _ _ (rd_L2 t325 x8_1) from Kd.V_mk ul334_0 ge334_0)
                                     clear hva_ hvn_ hvc_ ge334_0 ul334_0
                                     clear hcc334 hce334
                                     have HR334_0 := Aside0.mk hi334_0
                                     have HC334_0 := Aside0.mk hl334_0
                                     clear hi334_0 hl334_0
                                     replace p334 := eq_true p334
                                     replace q334 := eq_true q334
                                     have p335 : 0 ≤ (x8_1 : Int) := of_decide_eq_true (by first | (with_reducible assumption) | assumption)
                                     have q335 : x8_1 < (l0.length : Int) := of_decide_eq_true (by first | (with_reducible assumption) | assumption)
                                     obtain ⟨ad335, e335, hx335_0⟩ := Kd.at_int HR0.out x8_1 p335 q335
                                     obtain rfl : ad333 = ad335 := (by injection e335)
                                     (try replace hx335_0 := (HB.out.cell (World.block_lt_of_cell? w _ hx335_0)).trans hx335_0)
                                     replace p335 := eq_true p335
                                     replace q335 := eq_true q335
                                     have p336 : 0 ≤ ((ji21) : Int) := of_decide_eq_true (by first | (with_reducible assumption) | assumption)
                                     have q336 : (ji21) < ((rd_L2 t325 x8_1).length : Int) := of_decide_eq_true (by first | (with_reducible assumption) | assumption)
                                     obtain ⟨ad336, e336, hx336_0⟩ := Kd.at_int (by repeat (first | (with_reducible exact HR334_0.out) | (with_reducible refine Kd.C_alloc ?_ _) | (with_reducible refine Kd.C_drewN ?_ _) | (with_reducible refine Kd.C_drew ?_) | exact HR334_0.out)) (ji21) p336 q336
                                     cases e336
                                     replace p336 := eq_true p336
                                     replace q336 := eq_true q336
                                     have p26 : 0 ≤ (x8_1 : Int) := of_decide_eq_true (by first | (with_reducible assumption) | assumption)
                                     have q26 : (x8_1 : Int) < ((x6_1.length : Int) : Int) := of_decide_eq_true (by first | (with_reducible assumption) | assumption)
                                     obtain ⟨go26, co26, eo26, gb26, gl26, cl26, HG26⟩ := Kd.R_form HO_6.out (by omega)
                                     (first | cases eo26 | (injection eo26 with ea_ en_ ec_; (first | subst ea_ | (injection ea_ with ea_; subst ea_)); subst ec_; clear en_))
                                     have GB26 := Aside0.mk gb26
                                     have GG26 := Aside0.mk HG26
                                     clear gb26 gl26 HG26
                                     obtain ⟨hx26_0, hf26_0⟩ := Kd.R_celln 0 HO_6.out (x8_1 : Int) p26 q26
                                     replace p26 := eq_true p26
                                     replace q26 := eq_true q26
                                     have HP27 := Kd.R_putg HO_6.out (x8_1 : Int) x9_2
                                     go_wp2_with (first | ((with_reducible refine gate_store (t := 3) (p := 62) rfl ?_); (try (rw [drewN_self wr]; generalize hq_ : World.drewN wr _ = wr; have n0_ := Aside0.mk (Kd.N_at hq_ HO_5.out); have n1_ := Aside0.mk (Kd.R_at hq_ HO_6.out); have n2_ := Aside0.mk (V_atq_ hq_ HL334_0.out); have n3_ := Aside0.mk (below_at hq_ HB.out); clear hq_ HO_5 HO_6 HL334_0 HB; have HO_5 := n0_; have HO_6 := n1_; have HL334_0 := n2_; have HB := n3_; clear n0_ n1_ n2_ n3_; (try (have HP27 := Kd.R_putg HO_6.out (x8_1 : Int) x9_2)); (try (obtain ⟨hxr_, hfr_⟩ := Kd.R_celln 0 HO_6.out (x8_1 : Int) (of_eq_true (by first | (with_reducible assumption) | assumption)) (of_eq_true (by first | (with_reducible assumption) | assumption)))))); refine store_event (t := 3) (p := 62) (v := ?vo_w28) (w1 := (wr.setCell ⟨go26, (x8_1 : Int).toNat, none⟩ (.int .i64 x9_2))) ?hg ?ho ?hn ?hr ?_; (case ho => rfl); (case hg => rfl); (case hn => rfl); (case hr => first | (go_simp; done) | (go_simp; rfl)); intro w28 hw; have hg : wr.grownBy w28 (some go26) := (by rw [hw]; exact HP27.2); have hp_ : Kd.R (Kd.int .i64) 3 w28 w.heap.size (fun _ => True) (.slice (some ⟨go26, 0, none⟩) x6_1.length co26) y337 := (by rw [hw, Ny337.out]; exact HP27.1); clear HP27; have n0_ := Aside0.mk (Kd.N_afterv (v := (.slice (some ⟨go26, 0, none⟩) x6_1.length co26)) (v1 := (.slice (some ⟨go26, 0, none⟩) x6_1.length co26)) (ok := (fun _ => True)) (by (with_reducible repeat (first | apply Kd.N_alloc | apply Kd.N_drewN | apply Kd.N_drew)); exact Kd.N_mono HO_5.out (fun _ hk => ⟨trivial, hk⟩)) hg (.inl rfl)); have n1_ := Aside0.mk (hp_); have n2_ := Aside0.mk (Kd.V_afterv (v := (.slice (some ⟨go26, 0, none⟩) x6_1.length co26)) (v1 := (.slice (some ⟨go26, 0, none⟩) x6_1.length co26)) (ok := (fun k_ => some k_ ≠ (.slice (some ad331) t325.length co12 : Value).ownBlock)) (by (with_reducible repeat (first | apply Kd.V_alloc | apply Kd.V_drewN | apply Kd.V_drew)); exact Kd.V_mono HL334_0.out (fun _ hk => ⟨hk.2, hk.1⟩)) hg (.inl rfl)); have n3_ := Aside0.mk ((by rw [hw]; exact below_set (HB.out) GB26.out : Below w.heap.size w w28)); clear HO_5; clear HO_6; clear HL334_0; clear HB; have HO_5 := n0_; have HO_6 := n1_; have HL334_0 := n2_; have HB := n3_; clear n0_ n1_ n2_ n3_; clear hg hw hp_; have p338 : 0 ≤ (x8_1 : Int) := of_decide_eq_true (by first | (with_reducible assumption) | assumption); have q338 : x8_1 < (l0.length : Int) := of_decide_eq_true (by first | (with_reducible assumption) | assumption); obtain ⟨ad338, e338, hx338_0⟩ := Kd.at_int HR0.out x8_1 p338 q338; obtain rfl : ad333 = ad338 := (by injection e338); (try replace hx338_0 := (HB.out.cell (World.block_lt_of_cell? w _ hx338_0)).trans hx338_0); replace p338 := eq_true p338; replace q338 := eq_true q338))
                                     repeat (go_quiet (first | ((with_reducible refine gate_store (t := 3) (p := 62) rfl ?_); (try (rw [drewN_self wr]; generalize hq_ : World.drewN wr _ = wr; have n0_ := Aside0.mk (Kd.N_at hq_ HO_5.out); have n1_ := Aside0.mk (Kd.R_at hq_ HO_6.out); have n2_ := Aside0.mk (V_atq_ hq_ HL334_0.out); have n3_ := Aside0.mk (below_at hq_ HB.out); clear hq_ HO_5 HO_6 HL334_0 HB; have HO_5 := n0_; have HO_6 := n1_; have HL334_0 := n2_; have HB := n3_; clear n0_ n1_ n2_ n3_; (try (have HP27 := Kd.R_putg HO_6.out (x8_1 : Int) x9_2)); (try (obtain ⟨hxr_, hfr_⟩ := Kd.R_celln 0 HO_6.out (x8_1 : Int) (of_eq_true (by first | (with_reducible assumption) | assumption)) (of_eq_true (by first | (with_reducible assumption) | assumption)))))); refine store_event (t := 3) (p := 62) (v := ?vo_w28) (w1 := (wr.setCell ⟨go26, (x8_1 : Int).toNat, none⟩ (.int .i64 x9_2))) ?hg ?ho ?hn ?hr ?_; (case ho => rfl); (case hg => rfl); (case hn => rfl); (case hr => first | (go_simp; done) | (go_simp; rfl)); intro w28 hw; have hg : wr.grownBy w28 (some go26) := (by rw [hw]; exact HP27.2); have hp_ : Kd.R (Kd.int .i64) 3 w28 w.heap.size (fun _ => True) (.slice (some ⟨go26, 0, none⟩) x6_1.length co26) y337 := (by rw [hw, Ny337.out]; exact HP27.1); clear HP27; have n0_ := Aside0.mk (Kd.N_afterv (v := (.slice (some ⟨go26, 0, none⟩) x6_1.length co26)) (v1 := (.slice (some ⟨go26, 0, none⟩) x6_1.length co26)) (ok := (fun _ => True)) (by (with_reducible repeat (first | apply Kd.N_alloc | apply Kd.N_drewN | apply Kd.N_drew)); exact Kd.N_mono HO_5.out (fun _ hk => ⟨trivial, hk⟩)) hg (.inl rfl)); have n1_ := Aside0.mk (hp_); have n2_ := Aside0.mk (Kd.V_afterv (v := (.slice (some ⟨go26, 0, none⟩) x6_1.length co26)) (v1 := (.slice (some ⟨go26, 0, none⟩) x6_1.length co26)) (ok := (fun k_ => some k_ ≠ (.slice (some ad331) t325.length co12 : Value).ownBlock)) (by (with_reducible repeat (first | apply Kd.V_alloc | apply Kd.V_drewN | apply Kd.V_drew)); exact Kd.V_mono HL334_0.out (fun _ hk => ⟨hk.2, hk.1⟩)) hg (.inl rfl)); have n3_ := Aside0.mk ((by rw [hw]; exact below_set (HB.out) GB26.out : Below w.heap.size w w28)); clear HO_5; clear HO_6; clear HL334_0; clear HB; have HO_5 := n0_; have HO_6 := n1_; have HL334_0 := n2_; have HB := n3_; clear n0_ n1_ n2_ n3_; clear hg hw hp_; have p338 : 0 ≤ (x8_1 : Int) := of_decide_eq_true (by first | (with_reducible assumption) | assumption); have q338 : x8_1 < (l0.length : Int) := of_decide_eq_true (by first | (with_reducible assumption) | assumption); obtain ⟨ad338, e338, hx338_0⟩ := Kd.at_int HR0.out x8_1 p338 q338; obtain rfl : ad333 = ad338 := (by injection e338); (try replace hx338_0 := (HB.out.cell (World.block_lt_of_cell? w _ hx338_0)).trans hx338_0); replace p338 := eq_true p338; replace q338 := eq_true q338)); try go_wp2_with (first | ((with_reducible refine gate_store (t := 3) (p := 62) rfl ?_); (try (rw [drewN_self wr]; generalize hq_ : World.drewN wr _ = wr; have n0_ := Aside0.mk (Kd.N_at hq_ HO_5.out); have n1_ := Aside0.mk (Kd.R_at hq_ HO_6.out); have n2_ := Aside0.mk (V_atq_ hq_ HL334_0.out); have n3_ := Aside0.mk (below_at hq_ HB.out); clear hq_ HO_5 HO_6 HL334_0 HB; have HO_5 := n0_; have HO_6 := n1_; have HL334_0 := n2_; have HB := n3_; clear n0_ n1_ n2_ n3_; (try (have HP27 := Kd.R_putg HO_6.out (x8_1 : Int) x9_2)); (try (obtain ⟨hxr_, hfr_⟩ := Kd.R_celln 0 HO_6.out (x8_1 : Int) (of_eq_true (by first | (with_reducible assumption) | assumption)) (of_eq_true (by first | (with_reducible assumption) | assumption)))))); refine store_event (t := 3) (p := 62) (v := ?vo_w28) (w1 := (wr.setCell ⟨go26, (x8_1 : Int).toNat, none⟩ (.int .i64 x9_2))) ?hg ?ho ?hn ?hr ?_; (case ho => rfl); (case hg => rfl); (case hn => rfl); (case hr => first | (go_simp; done) | (go_simp; rfl)); intro w28 hw; have hg : wr.grownBy w28 (some go26) := (by rw [hw]; exact HP27.2); have hp_ : Kd.R (Kd.int .i64) 3 w28 w.heap.size (fun _ => True) (.slice (some ⟨go26, 0, none⟩) x6_1.length co26) y337 := (by rw [hw, Ny337.out]; exact HP27.1); clear HP27; have n0_ := Aside0.mk (Kd.N_afterv (v := (.slice (some ⟨go26, 0, none⟩) x6_1.length co26)) (v1 := (.slice (some ⟨go26, 0, none⟩) x6_1.length co26)) (ok := (fun _ => True)) (by (with_reducible repeat (first | apply Kd.N_alloc | apply Kd.N_drewN | apply Kd.N_drew)); exact Kd.N_mono HO_5.out (fun _ hk => ⟨trivial, hk⟩)) hg (.inl rfl)); have n1_ := Aside0.mk (hp_); have n2_ := Aside0.mk (Kd.V_afterv (v := (.slice (some ⟨go26, 0, none⟩) x6_1.length co26)) (v1 := (.slice (some ⟨go26, 0, none⟩) x6_1.length co26)) (ok := (fun k_ => some k_ ≠ (.slice (some ad331) t325.length co12 : Value).ownBlock)) (by (with_reducible repeat (first | apply Kd.V_alloc | apply Kd.V_drewN | apply Kd.V_drew)); exact Kd.V_mono HL334_0.out (fun _ hk => ⟨hk.2, hk.1⟩)) hg (.inl rfl)); have n3_ := Aside0.mk ((by rw [hw]; exact below_set (HB.out) GB26.out : Below w.heap.size w w28)); clear HO_5; clear HO_6; clear HL334_0; clear HB; have HO_5 := n0_; have HO_6 := n1_; have HL334_0 := n2_; have HB := n3_; clear n0_ n1_ n2_ n3_; clear hg hw hp_; have p338 : 0 ≤ (x8_1 : Int) := of_decide_eq_true (by first | (with_reducible assumption) | assumption); have q338 : x8_1 < (l0.length : Int) := of_decide_eq_true (by first | (with_reducible assumption) | assumption); obtain ⟨ad338, e338, hx338_0⟩ := Kd.at_int HR0.out x8_1 p338 q338; obtain rfl : ad333 = ad338 := (by injection e338); (try replace hx338_0 := (HB.out.cell (World.block_lt_of_cell? w _ hx338_0)).trans hx338_0); replace p338 := eq_true p338; replace q338 := eq_true q338)))
                                     go_roundg k2
                                     case measure => have := HK1.out; have := HK2.out; omega
                                     case rel => exact ⟨(ji21), (y337), (wrap64 (x7_1 - x9_2)), (wrap64 (x8_1 - 1)), (by first | rfl | (simp; done) | (simp only [← hji21] <;> (first | rfl | simp)) | (simp [*]; done)), (by first | rfl | (simp; done) | (simp [*]; done)), (by first | rfl | (simp; done) | (simp [*]; done)), H', ⟨by have := HK1.out; have := HK2.out; omega⟩, ⟨by (with_reducible repeat (first | apply Kd.N_alloc | apply Kd.N_drewN | apply Kd.N_drew)); exact Kd.N_mono HO_5.out (fun _ hk => hk.2)⟩, ⟨re_ HO_6.out⟩, ⟨bl_ HB.out⟩⟩
                                   · rw [if_neg c25] at H
                                     exact absurd H (by simp)
                                 · rw [if_neg c24] at H
                                   have c24b0 : ((rd (rd_L2 t325 x8_1) (ji21)) == (wrap64 (x7_1 - x9_2))) = false := beq_eq_false_iff_ne.mpr c24
                                   have c24b1 : ((rd (rd_L2 t325 x8_1) (ji21)) != (wrap64 (x7_1 - x9_2))) = true := bne_iff_ne.mpr c24
                                   have H' := Aside0.mk H
                                   clear H
                                   have p334 : 0 ≤ (x8_1 : Int) := of_decide_eq_true (by first | (with_reducible assumption) | assumption)
                                   have q334 : x8_1 < (t325.length : Int) := of_decide_eq_true (by first | (with_reducible assumption) | assumption)
                                   obtain ⟨ad334, A334_0, c334_0, e334, hx334_0, hl334_0, hi334_0⟩ := at_L2 (Kd.N_reads' HO_5.out).2.2 x8_1 p334 q334
                                   obtain rfl : ad331 = ad334 := (by injection e334)
                                   obtain ⟨ce334, hce334, hMe334, hcc334⟩ := Kd.N_get HO_5.out [] x8_1 p334 (by first | exact q334 | exact of_decide_eq_true (by first | (with_reducible assumption) | assumption) | (have e_ := (Kd.N_reads' HO_5.out).1; omega))
                                   obtain ⟨ua334_0, uc334_0, rfl, ul334_0, ge334_0⟩ := Kd.FK_slice_open hMe334
                                   have hv334_0 := hcc334 0 _ rfl
                                   rw [Nat.add_zero, show ((Kd.slice 3 (Kd.int .i64))).sz = 1 from rfl, Nat.mul_one] at hv334_0
                                   replace hv334_0 := Option.some.inj (hv334_0.symm.trans hx334_0)
                                   injection hv334_0 with hva_ hvn_ hvc_
                                   rw [hva_] at ge334_0
                                   rw [hvc_] at ul334_0
                                   have HL334_0 := Aside0.mk (show Kd.V (Kd.int .i64) 3 _ w.heap.size _ _ (rd_L2 t325 x8_1) from Kd.V_mk ul334_0 ge334_0)
                                   clear hva_ hvn_ hvc_ ge334_0 ul334_0
                                   clear hcc334 hce334
                                   have HR334_0 := Aside0.mk hi334_0
                                   have HC334_0 := Aside0.mk hl334_0
                                   clear hi334_0 hl334_0
                                   replace p334 := eq_true p334
                                   replace q334 := eq_true q334
                                   have p335 : 0 ≤ (x8_1 : Int) := of_decide_eq_true (by first | (with_reducible assumption) | assumption)
                                   have q335 : x8_1 < (l0.length : Int) := of_decide_eq_true (by first | (with_reducible assumption) | assumption)
                                   obtain ⟨ad335, e335, hx335_0⟩ := Kd.at_int HR0.out x8_1 p335 q335
                                   obtain rfl : ad333 = ad335 := (by injection e335)
                                   (try replace hx335_0 := (HB.out.cell (World.block_lt_of_cell? w _ hx335_0)).trans hx335_0)
                                   replace p335 := eq_true p335
                                   replace q335 := eq_true q335
                                   have p336 : 0 ≤ ((ji21) : Int) := of_decide_eq_true (by first | (with_reducible assumption) | assumption)
                                   have q336 : (ji21) < ((rd_L2 t325 x8_1).length : Int) := of_decide_eq_true (by first | (with_reducible assumption) | assumption)
                                   obtain ⟨ad336, e336, hx336_0⟩ := Kd.at_int (by repeat (first | (with_reducible exact HR334_0.out) | (with_reducible refine Kd.C_alloc ?_ _) | (with_reducible refine Kd.C_drewN ?_ _) | (with_reducible refine Kd.C_drew ?_) | exact HR334_0.out)) (ji21) p336 q336
                                   cases e336
                                   replace p336 := eq_true p336
                                   replace q336 := eq_true q336
                                   go_wp2
                                   repeat (go_quiet (fail); try go_wp2)
                                   go_roundg k2
                                   case measure => have := HK1.out; have := HK2.out; omega
                                   case rel => exact ⟨(wrap64 (x9_2 - 1)), (by first | rfl | (simp; done) | (simp [*]; done)), H', ⟨by have := HK1.out; have := HK2.out; omega⟩, ⟨by (with_reducible repeat (first | apply Kd.N_alloc | apply Kd.N_drewN | apply Kd.N_drew)); exact HO_5.out⟩, ⟨re_ HO_6.out⟩, ⟨bl_ HB.out⟩⟩
                               · rw [if_neg c23] at H
                                 exact absurd H (by simp)
                             · rw [if_neg c22] at H
                               exact absurd H (by simp)
                           · rw [if_neg c20] at H
                             exact absurd H (by simp)
                         · rw [if_neg c19] at H
                           exact absurd H (by simp)
                       · rw [if_neg c18] at H
                         exact absurd H (by simp)
                 · rw [if_neg c15] at H
                   exact absurd H (by simp)
               · rw [if_neg c14] at H
                 exact absurd H (by simp)
             · rw [if_neg c13] at H
               have c13b0 : decide (0 ≤ x8_1) = false := decide_eq_false c13
               clear c13
               obtain rfl := Option.some.inj H
               go_wp2
               repeat (go_quiet (fail); try go_wp2)
               go_ret
               exact ⟨_, by first | rfl | (simp [errW_none, errW_some] <;> rfl) | (simp [*, errW_none, errW_some] <;> rfl), re_ HO_6.out, bl_ HB.out⟩
         · rw [if_neg c8] at H
           exact absurd H (by simp)
       · rw [if_neg c7] at H
         exact absurd H (by simp)
     · rw [if_neg c6] at H
       exact absurd H (by simp)
   · rw [if_neg c5] at H
     exact absurd H (by simp)
 · rw [if_neg c4] at H
   exact absurd H (by simp)
end Go.Proofs.Ythkhpejggdnkfaa.PB
end
