-- Bundled by shake.py from this session's printed and written texts; Lean checks it.
import Derived.Test.YtkifakepmomgfaaZFnFewx0
import Derived.Test.YtkifakepmomgfaaZFnFewx1
import Derived.Test.YtkifakepmomgfaaZFnFewx2
import Derived.Test.YtkifakepmomgfaaZFnFewx3
import Derived.Test.YtkifakepmomgfaaZFnFewx4
import Derived.Test.YtkifakepmomgfaaZFnFewx5
section
namespace Go.Proofs.Ytkifakepmomgfaa.PA
open Go.RowKit Go.Proofs.YtkifakepmomgfaaW.PrintWords Go.Proofs.YtkifakepmomgfaaW.PrintLast Go.Proofs.YtkifakepmomgfaaW.PrintMore
set_option linter.unusedVariables false
set_option linter.unusedSimpArgs false
mutual
def laws_FnFew.j0 : Nat → Int → Int → Int → Int → Int → Int → Int → Int → Int → Int → Int → Int → List Int → Bool → Option (Bool)
  | 0, _, _, _, _, _, _, _, _, _, _, _, _, _, _ => none
  | k + 1, x3, x4, x5, x6, x7, x8, x9, x10, x11, x12, x13, x15, x16, x102 => if x102 = true then (some false) else (laws_FnFew.l0 k x3 x4 x5 x6 x7 x8 x9 x10 x11 x12 x13 x15 x16 0)
def laws_FnFew.l0 : Nat → Int → Int → Int → Int → Int → Int → Int → Int → Int → Int → Int → Int → List Int → Int → Option (Bool)
  | 0, _, _, _, _, _, _, _, _, _, _, _, _, _, _ => none
  | k + 1, x3, x4, x5, x6, x7, x8, x9, x10, x11, x12, x13, x15, x16, x17 => if x17 < (x16.length : Int) then (if 0 ≤ x17 then (if (rd x16 x17) ≥ 0 then (if x15 = 0 then (none) else (if (Int.tmod (rd x16 x17) x15) = x17 then (laws_FnFew.l0 k x3 x4 x5 x6 x7 x8 x9 x10 x11 x12 x13 x15 x16 (wrap64 (x17 + 1))) else (some false))) else (laws_FnFew.l0 k x3 x4 x5 x6 x7 x8 x9 x10 x11 x12 x13 x15 x16 (wrap64 (x17 + 1)))) else (none)) else (if x9 ≥ 0 then (if x6 ≤ 60 then (if x7 ≤ 60 then ((impl_Generates.f k (([x6, x7] : List Int)) x8).bind fun t345 => (laws_FnFew.j2 k x3 x4 x5 x10 x11 x12 x13 ((decide (x9 > 0)) != t345))) else (laws_FnFew.j2 k x3 x4 x5 x10 x11 x12 x13 false)) else (laws_FnFew.j2 k x3 x4 x5 x10 x11 x12 x13 false)) else (laws_FnFew.j2 k x3 x4 x5 x10 x11 x12 x13 false))
def laws_FnFew.j2 : Nat → Int → Int → Int → Int → Int → Int → Int → Bool → Option (Bool)
  | 0, _, _, _, _, _, _, _, _ => none
  | k + 1, x3, x4, x5, x10, x11, x12, x13, x143 => if x143 = true then (some false) else ((impl_PairGenus.f k x3 x4).bind fun t346 => (if t346 ≥ 0 then (if x3 ≤ 200 then (laws_FnFew.j3 k x3 x4 x5 x10 x11 x12 x13 (decide (x4 ≤ 1000))) else (laws_FnFew.j3 k x3 x4 x5 x10 x11 x12 x13 false)) else (laws_FnFew.j3 k x3 x4 x5 x10 x11 x12 x13 false)))
def laws_FnFew.j3 : Nat → Int → Int → Int → Int → Int → Int → Int → Bool → Option (Bool)
  | 0, _, _, _, _, _, _, _, _ => none
  | k + 1, x3, x4, x5, x10, x11, x12, x13, x155 => if x155 = true then ((impl_LeastInSum.f k (([x4] : List Int)) x3).bind fun t350 => (laws_FnFew.l1 k x3 x4 x5 x10 x11 x12 x13 t350 0 0 0)) else (laws_FnFew.j5 k x10 x11 x12 x13)
def laws_FnFew.j5 : Nat → Int → Int → Int → Int → Option (Bool)
  | 0, _, _, _, _ => none
  | k + 1, x10, x11, x12, x13 => if x13 = (-1) then (if x10 ≥ 2 then (if x11 ≥ 1 then (if x12 ≥ 1 then (if x10 > 200 then (laws_FnFew.j6 k x10 x11 x12 x13 true) else (if x10 < 2 then (laws_FnFew.j6 k x10 x11 x12 x13 true) else (if x11 < 1 then (laws_FnFew.j6 k x10 x11 x12 x13 true) else (if x12 < 1 then (laws_FnFew.j6 k x10 x11 x12 x13 true) else (if x12 > (wrap64 (x10 - 1)) then (laws_FnFew.j6 k x10 x11 x12 x13 true) else (if x12 > 18 then (laws_FnFew.j6 k x10 x11 x12 x13 true) else (if (wrap64 (x10 + (wrap64 (x12 * x11)))) > 1000 then (laws_FnFew.j6 k x10 x11 x12 x13 true) else ((spec_GcdOf.f k x10 x11).bind fun t356 => (laws_FnFew.j6 k x10 x11 x12 x13 (t356 != 1)))))))))) else (laws_FnFew.j6 k x10 x11 x12 x13 true)) else (laws_FnFew.j6 k x10 x11 x12 x13 true)) else (laws_FnFew.j6 k x10 x11 x12 x13 true)) else (if x10 > 200 then (laws_FnFew.j6 k x10 x11 x12 x13 true) else (if x10 < 2 then (laws_FnFew.j6 k x10 x11 x12 x13 true) else (if x11 < 1 then (laws_FnFew.j6 k x10 x11 x12 x13 true) else (if x12 < 1 then (laws_FnFew.j6 k x10 x11 x12 x13 true) else (if x12 > (wrap64 (x10 - 1)) then (laws_FnFew.j6 k x10 x11 x12 x13 true) else (if x12 > 18 then (laws_FnFew.j6 k x10 x11 x12 x13 true) else (if (wrap64 (x10 + (wrap64 (x12 * x11)))) > 1000 then (laws_FnFew.j6 k x10 x11 x12 x13 true) else ((spec_GcdOf.f k x10 x11).bind fun t357 => (laws_FnFew.j6 k x10 x11 x12 x13 (t357 != 1))))))))))
def laws_FnFew.j6 : Nat → Int → Int → Int → Int → Bool → Option (Bool)
  | 0, _, _, _, _, _ => none
  | k + 1, x10, x11, x12, x13, x246 => if x246 = true then (some true) else (laws_FnFew.l2 k x10 x11 x12 x13 (([x10] : List Int)) 1)
def laws_FnFew.l2 : Nat → Int → Int → Int → Int → List Int → Int → Option (Bool)
  | 0, _, _, _, _, _, _ => none
  | k + 1, x10, x11, x12, x13, x22, x23 => if x23 ≤ x12 then (if x22.length < 17592186044416 then (laws_FnFew.l2 k x10 x11 x12 x13 (x22 ++ [wrap64 (x10 + (wrap64 (x23 * x11)))]) (wrap64 (x23 + 1))) else (none)) else ((impl_LeastInSum.f k x22 x10).bind fun t364 => (laws_FnFew.l3 k x10 x13 0 t364 0))
def laws_FnFew.l3 : Nat → Int → Int → Int → List Int → Int → Option (Bool)
  | 0, _, _, _, _, _ => none
  | k + 1, x10, x13, x24, x25, x26 => if x26 < (x25.length : Int) then (if 0 ≤ x26 then (laws_FnFew.l3 k x10 x13 (mx x24 (rd x25 x26)) x25 (wrap64 (x26 + 1))) else (none)) else (some ((wrap64 (x24 - x10)) == x13))
def laws_FnFew.l1 : Nat → Int → Int → Int → Int → Int → Int → Int → List Int → Int → Int → Int → Option (Bool)
  | 0, _, _, _, _, _, _, _, _, _, _, _ => none
  | k + 1, x3, x4, x5, x10, x11, x12, x13, x18, x19, x20, x21 => if x21 < (x18.length : Int) then (if 0 ≤ x21 then (if x3 = 0 then (none) else (laws_FnFew.l1 k x3 x4 x5 x10 x11 x12 x13 x18 (mx x19 (rd x18 x21)) (wrap64 (x20 + (wrap64 (Int.tdiv (rd x18 x21) x3)))) (wrap64 (x21 + 1)))) else (none)) else (if (wrap64 (x19 - x3)) = x5 then ((impl_PairGenus.f k x3 x4).bind fun t355 => (if x20 = t355 then (laws_FnFew.j5 k x10 x11 x12 x13) else (some false))) else (some false))
end
def laws_FnFew.f (k : Nat) (l0 : List Int) : Option (Bool) := (laws_big.f l0).bind fun t312 => (if t312 = true then (some true) else ((spec_DrawPairFrobenius.f k l0).bind fun bt313 => ((impl_PairFrobenius.f k bt313.1 bt313.2).bind fun t315 => ((spec_DrawPairWays.f k l0).bind fun bt316 => ((impl_PairWays.f k bt316.1 bt316.2.1 bt316.2.2).bind fun t319 => ((spec_DrawRunFrobenius.f k l0).bind fun bt320 => ((impl_RunFrobenius.f k bt320.1 bt320.2.1 bt320.2.2).bind fun t323 => ((spec_DrawLeastInSum.f k l0).bind fun bt324 => ((impl_LeastInSum.f k bt324.1 bt324.2).bind fun t328 => ((spec_PairFrobenius.f k bt313.1 bt313.2).bind fun t331 => (if t315 = t331 then ((impl_PairGenus.f k bt313.1 bt313.2).bind fun t332 => ((spec_PairGenus.f k bt313.1 bt313.2).bind fun t333 => (if t332 = t333 then ((spec_PairWays.f k bt316.1 bt316.2.1 bt316.2.2).bind fun t334 => (if t319 = t334 then ((spec_RunFrobenius.f k bt320.1 bt320.2.1 bt320.2.2).bind fun t335 => (if t323 = t335 then ((spec_LeastInSum.f k bt324.1 bt324.2).bind fun t336 => ((laws_sameInts.f k t328 t336).bind fun t339 => (laws_FnFew.j0 k bt313.1 bt313.2 t315 bt316.1 bt316.2.1 bt316.2.2 t319 bt320.1 bt320.2.1 bt320.2.2 t323 bt324.2 t328 (!t339)))) else (laws_FnFew.j0 k bt313.1 bt313.2 t315 bt316.1 bt316.2.1 bt316.2.2 t319 bt320.1 bt320.2.1 bt320.2.2 t323 bt324.2 t328 true))) else (laws_FnFew.j0 k bt313.1 bt313.2 t315 bt316.1 bt316.2.1 bt316.2.2 t319 bt320.1 bt320.2.1 bt320.2.2 t323 bt324.2 t328 true))) else (laws_FnFew.j0 k bt313.1 bt313.2 t315 bt316.1 bt316.2.1 bt316.2.2 t319 bt320.1 bt320.2.1 bt320.2.2 t323 bt324.2 t328 true)))) else (laws_FnFew.j0 k bt313.1 bt313.2 t315 bt316.1 bt316.2.1 bt316.2.2 t319 bt320.1 bt320.2.1 bt320.2.2 t323 bt324.2 t328 true))))))))))))
set_option maxHeartbeats 8000000 in
set_option maxRecDepth 100000 in
theorem laws_FnFew.calls (k : Nat) (A0 : Option Addr) (c0 : Nat) (l0 : List Int) (r : Bool) (w : World) (hr0 : Kd.C (Kd.int .u8) w A0 l0.length l0) (hc0 : l0.length ≤ c0) (h : laws_FnFew.f k l0 = some r) :
    Calls Try.prog 10 #[.slice A0 l0.length c0] w fun e w' => e = .returned (.bool r) ∧ Below w.heap.size w w' := by
  have HR0 := Aside0.mk hr0
  have HC0 := Aside0.mk hc0
  clear hr0 hc0
  have HB := Aside0.mk (Below.refl w.heap.size w)
  have H : ((laws_big.f l0).bind fun t312 => (if t312 = true then (some true) else ((spec_DrawPairFrobenius.f k l0).bind fun bt313 => ((impl_PairFrobenius.f k bt313.1 bt313.2).bind fun t315 => ((spec_DrawPairWays.f k l0).bind fun bt316 => ((impl_PairWays.f k bt316.1 bt316.2.1 bt316.2.2).bind fun t319 => ((spec_DrawRunFrobenius.f k l0).bind fun bt320 => ((impl_RunFrobenius.f k bt320.1 bt320.2.1 bt320.2.2).bind fun t323 => ((spec_DrawLeastInSum.f k l0).bind fun bt324 => ((impl_LeastInSum.f k bt324.1 bt324.2).bind fun t328 => ((spec_PairFrobenius.f k bt313.1 bt313.2).bind fun t331 => (if t315 = t331 then ((impl_PairGenus.f k bt313.1 bt313.2).bind fun t332 => ((spec_PairGenus.f k bt313.1 bt313.2).bind fun t333 => (if t332 = t333 then ((spec_PairWays.f k bt316.1 bt316.2.1 bt316.2.2).bind fun t334 => (if t319 = t334 then ((spec_RunFrobenius.f k bt320.1 bt320.2.1 bt320.2.2).bind fun t335 => (if t323 = t335 then ((spec_LeastInSum.f k bt324.1 bt324.2).bind fun t336 => ((laws_sameInts.f k t328 t336).bind fun t339 => (laws_FnFew.j0 k bt313.1 bt313.2 t315 bt316.1 bt316.2.1 bt316.2.2 t319 bt320.1 bt320.2.1 bt320.2.2 t323 bt324.2 t328 (!t339)))) else (laws_FnFew.j0 k bt313.1 bt313.2 t315 bt316.1 bt316.2.1 bt316.2.2 t319 bt320.1 bt320.2.1 bt320.2.2 t323 bt324.2 t328 true))) else (laws_FnFew.j0 k bt313.1 bt313.2 t315 bt316.1 bt316.2.1 bt316.2.2 t319 bt320.1 bt320.2.1 bt320.2.2 t323 bt324.2 t328 true))) else (laws_FnFew.j0 k bt313.1 bt313.2 t315 bt316.1 bt316.2.1 bt316.2.2 t319 bt320.1 bt320.2.1 bt320.2.2 t323 bt324.2 t328 true)))) else (laws_FnFew.j0 k bt313.1 bt313.2 t315 bt316.1 bt316.2.1 bt316.2.2 t319 bt320.1 bt320.2.1 bt320.2.2 t323 bt324.2 t328 true))))))))))))) = some r := h
  clear h
  replace H := Option.bind_eq_some_iff.mp H
  obtain ⟨t312, A20, H⟩ := H
  replace H : (if t312 = true then (some true) else ((spec_DrawPairFrobenius.f k l0).bind fun bt313 => ((impl_PairFrobenius.f k bt313.1 bt313.2).bind fun t315 => ((spec_DrawPairWays.f k l0).bind fun bt316 => ((impl_PairWays.f k bt316.1 bt316.2.1 bt316.2.2).bind fun t319 => ((spec_DrawRunFrobenius.f k l0).bind fun bt320 => ((impl_RunFrobenius.f k bt320.1 bt320.2.1 bt320.2.2).bind fun t323 => ((spec_DrawLeastInSum.f k l0).bind fun bt324 => ((impl_LeastInSum.f k bt324.1 bt324.2).bind fun t328 => ((spec_PairFrobenius.f k bt313.1 bt313.2).bind fun t331 => (if t315 = t331 then ((impl_PairGenus.f k bt313.1 bt313.2).bind fun t332 => ((spec_PairGenus.f k bt313.1 bt313.2).bind fun t333 => (if t332 = t333 then ((spec_PairWays.f k bt316.1 bt316.2.1 bt316.2.2).bind fun t334 => (if t319 = t334 then ((spec_RunFrobenius.f k bt320.1 bt320.2.1 bt320.2.2).bind fun t335 => (if t323 = t335 then ((spec_LeastInSum.f k bt324.1 bt324.2).bind fun t336 => ((laws_sameInts.f k t328 t336).bind fun t339 => (laws_FnFew.j0 k bt313.1 bt313.2 t315 bt316.1 bt316.2.1 bt316.2.2 t319 bt320.1 bt320.2.1 bt320.2.2 t323 bt324.2 t328 (!t339)))) else (laws_FnFew.j0 k bt313.1 bt313.2 t315 bt316.1 bt316.2.1 bt316.2.2 t319 bt320.1 bt320.2.1 bt320.2.2 t323 bt324.2 t328 true))) else (laws_FnFew.j0 k bt313.1 bt313.2 t315 bt316.1 bt316.2.1 bt316.2.2 t319 bt320.1 bt320.2.1 bt320.2.2 t323 bt324.2 t328 true))) else (laws_FnFew.j0 k bt313.1 bt313.2 t315 bt316.1 bt316.2.1 bt316.2.2 t319 bt320.1 bt320.2.1 bt320.2.2 t323 bt324.2 t328 true)))) else (laws_FnFew.j0 k bt313.1 bt313.2 t315 bt316.1 bt316.2.1 bt316.2.2 t319 bt320.1 bt320.2.1 bt320.2.2 t323 bt324.2 t328 true)))))))))))) = some r := H
  have A2 := Aside0.mk A20
  clear A20
  by_cases c3 : t312 = true
  · subst c3
    have H1 : (some true) = some r := by rw [if_pos rfl] at H; exact H
    clear H
    have H := H1
    clear H1
    as_aux_lemma =>
      obtain rfl := Option.some.inj H
      go_enter Try.func10, Try.ntmps10
      go_wp2_with (first | ((with_reducible refine gate_callee (f := 36) rfl ?_); refine goesL_ (some 28) rfl rfl Try.func36 (by kernel_rfl) rfl #[.slice A0 l0.length c0] rfl (by (try simp only [List.map_toArray, List.map_cons, List.map_nil]); first | done | rfl | (simp only [List.length_drop, List.length_take]; rfl)) ?_; (with_reducible refine (laws_big.calls _ _ l0 true _ ?side1 ?side2 A2.out).mono ?_); (case side1 => repeat (first | exact HR0.out | (with_reducible refine Kd.C_alloc ?_ _) | (with_reducible refine Kd.C_drewN ?_ _) | (with_reducible refine Kd.C_drew ?_))); (case side2 => exact HC0.out); rintro e w' ⟨rfl, ⟨nd, rfl⟩⟩; refine ⟨_, rfl, ?_⟩))
      go_ret
      exact ⟨by first | rfl | (simp [errW_none, errW_some] <;> rfl) | (simp [*, errW_none, errW_some] <;> rfl), by repeat (first | (with_reducible first | exact HB.out | apply below_alloc | apply pw_below_drewN | apply below_drew1) | exact HB.out)⟩
  · replace c3 := Bool.eq_false_iff.mpr c3
    subst c3
    have H1 : ((spec_DrawPairFrobenius.f k l0).bind fun bt313 => ((impl_PairFrobenius.f k bt313.1 bt313.2).bind fun t315 => ((spec_DrawPairWays.f k l0).bind fun bt316 => ((impl_PairWays.f k bt316.1 bt316.2.1 bt316.2.2).bind fun t319 => ((spec_DrawRunFrobenius.f k l0).bind fun bt320 => ((impl_RunFrobenius.f k bt320.1 bt320.2.1 bt320.2.2).bind fun t323 => ((spec_DrawLeastInSum.f k l0).bind fun bt324 => ((impl_LeastInSum.f k bt324.1 bt324.2).bind fun t328 => ((spec_PairFrobenius.f k bt313.1 bt313.2).bind fun t331 => (if t315 = t331 then ((impl_PairGenus.f k bt313.1 bt313.2).bind fun t332 => ((spec_PairGenus.f k bt313.1 bt313.2).bind fun t333 => (if t332 = t333 then ((spec_PairWays.f k bt316.1 bt316.2.1 bt316.2.2).bind fun t334 => (if t319 = t334 then ((spec_RunFrobenius.f k bt320.1 bt320.2.1 bt320.2.2).bind fun t335 => (if t323 = t335 then ((spec_LeastInSum.f k bt324.1 bt324.2).bind fun t336 => ((laws_sameInts.f k t328 t336).bind fun t339 => (laws_FnFew.j0 k bt313.1 bt313.2 t315 bt316.1 bt316.2.1 bt316.2.2 t319 bt320.1 bt320.2.1 bt320.2.2 t323 bt324.2 t328 (!t339)))) else (laws_FnFew.j0 k bt313.1 bt313.2 t315 bt316.1 bt316.2.1 bt316.2.2 t319 bt320.1 bt320.2.1 bt320.2.2 t323 bt324.2 t328 true))) else (laws_FnFew.j0 k bt313.1 bt313.2 t315 bt316.1 bt316.2.1 bt316.2.2 t319 bt320.1 bt320.2.1 bt320.2.2 t323 bt324.2 t328 true))) else (laws_FnFew.j0 k bt313.1 bt313.2 t315 bt316.1 bt316.2.1 bt316.2.2 t319 bt320.1 bt320.2.1 bt320.2.2 t323 bt324.2 t328 true)))) else (laws_FnFew.j0 k bt313.1 bt313.2 t315 bt316.1 bt316.2.1 bt316.2.2 t319 bt320.1 bt320.2.1 bt320.2.2 t323 bt324.2 t328 true))))))))))) = some r := by rw [if_neg (show ¬ (false = true) by decide)] at H; exact H
    clear H
    have H := H1
    clear H1
    replace H := Option.bind_eq_some_iff.mp H
    obtain ⟨⟨t313, t314⟩, A40, H⟩ := H
    replace H : ((impl_PairFrobenius.f k t313 t314).bind fun t315 => ((spec_DrawPairWays.f k l0).bind fun bt316 => ((impl_PairWays.f k bt316.1 bt316.2.1 bt316.2.2).bind fun t319 => ((spec_DrawRunFrobenius.f k l0).bind fun bt320 => ((impl_RunFrobenius.f k bt320.1 bt320.2.1 bt320.2.2).bind fun t323 => ((spec_DrawLeastInSum.f k l0).bind fun bt324 => ((impl_LeastInSum.f k bt324.1 bt324.2).bind fun t328 => ((spec_PairFrobenius.f k t313 t314).bind fun t331 => (if t315 = t331 then ((impl_PairGenus.f k t313 t314).bind fun t332 => ((spec_PairGenus.f k t313 t314).bind fun t333 => (if t332 = t333 then ((spec_PairWays.f k bt316.1 bt316.2.1 bt316.2.2).bind fun t334 => (if t319 = t334 then ((spec_RunFrobenius.f k bt320.1 bt320.2.1 bt320.2.2).bind fun t335 => (if t323 = t335 then ((spec_LeastInSum.f k bt324.1 bt324.2).bind fun t336 => ((laws_sameInts.f k t328 t336).bind fun t339 => (laws_FnFew.j0 k t313 t314 t315 bt316.1 bt316.2.1 bt316.2.2 t319 bt320.1 bt320.2.1 bt320.2.2 t323 bt324.2 t328 (!t339)))) else (laws_FnFew.j0 k t313 t314 t315 bt316.1 bt316.2.1 bt316.2.2 t319 bt320.1 bt320.2.1 bt320.2.2 t323 bt324.2 t328 true))) else (laws_FnFew.j0 k t313 t314 t315 bt316.1 bt316.2.1 bt316.2.2 t319 bt320.1 bt320.2.1 bt320.2.2 t323 bt324.2 t328 true))) else (laws_FnFew.j0 k t313 t314 t315 bt316.1 bt316.2.1 bt316.2.2 t319 bt320.1 bt320.2.1 bt320.2.2 t323 bt324.2 t328 true)))) else (laws_FnFew.j0 k t313 t314 t315 bt316.1 bt316.2.1 bt316.2.2 t319 bt320.1 bt320.2.1 bt320.2.2 t323 bt324.2 t328 true)))))))))) = some r := H
    have A4 := Aside0.mk A40
    clear A40
    replace H := Option.bind_eq_some_iff.mp H
    obtain ⟨t315, A50, H⟩ := H
    replace H : ((spec_DrawPairWays.f k l0).bind fun bt316 => ((impl_PairWays.f k bt316.1 bt316.2.1 bt316.2.2).bind fun t319 => ((spec_DrawRunFrobenius.f k l0).bind fun bt320 => ((impl_RunFrobenius.f k bt320.1 bt320.2.1 bt320.2.2).bind fun t323 => ((spec_DrawLeastInSum.f k l0).bind fun bt324 => ((impl_LeastInSum.f k bt324.1 bt324.2).bind fun t328 => ((spec_PairFrobenius.f k t313 t314).bind fun t331 => (if t315 = t331 then ((impl_PairGenus.f k t313 t314).bind fun t332 => ((spec_PairGenus.f k t313 t314).bind fun t333 => (if t332 = t333 then ((spec_PairWays.f k bt316.1 bt316.2.1 bt316.2.2).bind fun t334 => (if t319 = t334 then ((spec_RunFrobenius.f k bt320.1 bt320.2.1 bt320.2.2).bind fun t335 => (if t323 = t335 then ((spec_LeastInSum.f k bt324.1 bt324.2).bind fun t336 => ((laws_sameInts.f k t328 t336).bind fun t339 => (laws_FnFew.j0 k t313 t314 t315 bt316.1 bt316.2.1 bt316.2.2 t319 bt320.1 bt320.2.1 bt320.2.2 t323 bt324.2 t328 (!t339)))) else (laws_FnFew.j0 k t313 t314 t315 bt316.1 bt316.2.1 bt316.2.2 t319 bt320.1 bt320.2.1 bt320.2.2 t323 bt324.2 t328 true))) else (laws_FnFew.j0 k t313 t314 t315 bt316.1 bt316.2.1 bt316.2.2 t319 bt320.1 bt320.2.1 bt320.2.2 t323 bt324.2 t328 true))) else (laws_FnFew.j0 k t313 t314 t315 bt316.1 bt316.2.1 bt316.2.2 t319 bt320.1 bt320.2.1 bt320.2.2 t323 bt324.2 t328 true)))) else (laws_FnFew.j0 k t313 t314 t315 bt316.1 bt316.2.1 bt316.2.2 t319 bt320.1 bt320.2.1 bt320.2.2 t323 bt324.2 t328 true))))))))) = some r := H
    have A5 := Aside0.mk A50
    clear A50
    replace H := Option.bind_eq_some_iff.mp H
    obtain ⟨⟨t316, t317, t318⟩, A60, H⟩ := H
    replace H : ((impl_PairWays.f k t316 t317 t318).bind fun t319 => ((spec_DrawRunFrobenius.f k l0).bind fun bt320 => ((impl_RunFrobenius.f k bt320.1 bt320.2.1 bt320.2.2).bind fun t323 => ((spec_DrawLeastInSum.f k l0).bind fun bt324 => ((impl_LeastInSum.f k bt324.1 bt324.2).bind fun t328 => ((spec_PairFrobenius.f k t313 t314).bind fun t331 => (if t315 = t331 then ((impl_PairGenus.f k t313 t314).bind fun t332 => ((spec_PairGenus.f k t313 t314).bind fun t333 => (if t332 = t333 then ((spec_PairWays.f k t316 t317 t318).bind fun t334 => (if t319 = t334 then ((spec_RunFrobenius.f k bt320.1 bt320.2.1 bt320.2.2).bind fun t335 => (if t323 = t335 then ((spec_LeastInSum.f k bt324.1 bt324.2).bind fun t336 => ((laws_sameInts.f k t328 t336).bind fun t339 => (laws_FnFew.j0 k t313 t314 t315 t316 t317 t318 t319 bt320.1 bt320.2.1 bt320.2.2 t323 bt324.2 t328 (!t339)))) else (laws_FnFew.j0 k t313 t314 t315 t316 t317 t318 t319 bt320.1 bt320.2.1 bt320.2.2 t323 bt324.2 t328 true))) else (laws_FnFew.j0 k t313 t314 t315 t316 t317 t318 t319 bt320.1 bt320.2.1 bt320.2.2 t323 bt324.2 t328 true))) else (laws_FnFew.j0 k t313 t314 t315 t316 t317 t318 t319 bt320.1 bt320.2.1 bt320.2.2 t323 bt324.2 t328 true)))) else (laws_FnFew.j0 k t313 t314 t315 t316 t317 t318 t319 bt320.1 bt320.2.1 bt320.2.2 t323 bt324.2 t328 true)))))))) = some r := H
    have A6 := Aside0.mk A60
    clear A60
    replace H := Option.bind_eq_some_iff.mp H
    obtain ⟨t319, A70, H⟩ := H
    replace H : ((spec_DrawRunFrobenius.f k l0).bind fun bt320 => ((impl_RunFrobenius.f k bt320.1 bt320.2.1 bt320.2.2).bind fun t323 => ((spec_DrawLeastInSum.f k l0).bind fun bt324 => ((impl_LeastInSum.f k bt324.1 bt324.2).bind fun t328 => ((spec_PairFrobenius.f k t313 t314).bind fun t331 => (if t315 = t331 then ((impl_PairGenus.f k t313 t314).bind fun t332 => ((spec_PairGenus.f k t313 t314).bind fun t333 => (if t332 = t333 then ((spec_PairWays.f k t316 t317 t318).bind fun t334 => (if t319 = t334 then ((spec_RunFrobenius.f k bt320.1 bt320.2.1 bt320.2.2).bind fun t335 => (if t323 = t335 then ((spec_LeastInSum.f k bt324.1 bt324.2).bind fun t336 => ((laws_sameInts.f k t328 t336).bind fun t339 => (laws_FnFew.j0 k t313 t314 t315 t316 t317 t318 t319 bt320.1 bt320.2.1 bt320.2.2 t323 bt324.2 t328 (!t339)))) else (laws_FnFew.j0 k t313 t314 t315 t316 t317 t318 t319 bt320.1 bt320.2.1 bt320.2.2 t323 bt324.2 t328 true))) else (laws_FnFew.j0 k t313 t314 t315 t316 t317 t318 t319 bt320.1 bt320.2.1 bt320.2.2 t323 bt324.2 t328 true))) else (laws_FnFew.j0 k t313 t314 t315 t316 t317 t318 t319 bt320.1 bt320.2.1 bt320.2.2 t323 bt324.2 t328 true)))) else (laws_FnFew.j0 k t313 t314 t315 t316 t317 t318 t319 bt320.1 bt320.2.1 bt320.2.2 t323 bt324.2 t328 true))))))) = some r := H
    have A7 := Aside0.mk A70
    clear A70
    replace H := Option.bind_eq_some_iff.mp H
    obtain ⟨⟨t320, t321, t322⟩, A80, H⟩ := H
    replace H : ((impl_RunFrobenius.f k t320 t321 t322).bind fun t323 => ((spec_DrawLeastInSum.f k l0).bind fun bt324 => ((impl_LeastInSum.f k bt324.1 bt324.2).bind fun t328 => ((spec_PairFrobenius.f k t313 t314).bind fun t331 => (if t315 = t331 then ((impl_PairGenus.f k t313 t314).bind fun t332 => ((spec_PairGenus.f k t313 t314).bind fun t333 => (if t332 = t333 then ((spec_PairWays.f k t316 t317 t318).bind fun t334 => (if t319 = t334 then ((spec_RunFrobenius.f k t320 t321 t322).bind fun t335 => (if t323 = t335 then ((spec_LeastInSum.f k bt324.1 bt324.2).bind fun t336 => ((laws_sameInts.f k t328 t336).bind fun t339 => (laws_FnFew.j0 k t313 t314 t315 t316 t317 t318 t319 t320 t321 t322 t323 bt324.2 t328 (!t339)))) else (laws_FnFew.j0 k t313 t314 t315 t316 t317 t318 t319 t320 t321 t322 t323 bt324.2 t328 true))) else (laws_FnFew.j0 k t313 t314 t315 t316 t317 t318 t319 t320 t321 t322 t323 bt324.2 t328 true))) else (laws_FnFew.j0 k t313 t314 t315 t316 t317 t318 t319 t320 t321 t322 t323 bt324.2 t328 true)))) else (laws_FnFew.j0 k t313 t314 t315 t316 t317 t318 t319 t320 t321 t322 t323 bt324.2 t328 true)))))) = some r := H
    have A8 := Aside0.mk A80
    clear A80
    replace H := Option.bind_eq_some_iff.mp H
    obtain ⟨t323, A90, H⟩ := H
    replace H : ((spec_DrawLeastInSum.f k l0).bind fun bt324 => ((impl_LeastInSum.f k bt324.1 bt324.2).bind fun t328 => ((spec_PairFrobenius.f k t313 t314).bind fun t331 => (if t315 = t331 then ((impl_PairGenus.f k t313 t314).bind fun t332 => ((spec_PairGenus.f k t313 t314).bind fun t333 => (if t332 = t333 then ((spec_PairWays.f k t316 t317 t318).bind fun t334 => (if t319 = t334 then ((spec_RunFrobenius.f k t320 t321 t322).bind fun t335 => (if t323 = t335 then ((spec_LeastInSum.f k bt324.1 bt324.2).bind fun t336 => ((laws_sameInts.f k t328 t336).bind fun t339 => (laws_FnFew.j0 k t313 t314 t315 t316 t317 t318 t319 t320 t321 t322 t323 bt324.2 t328 (!t339)))) else (laws_FnFew.j0 k t313 t314 t315 t316 t317 t318 t319 t320 t321 t322 t323 bt324.2 t328 true))) else (laws_FnFew.j0 k t313 t314 t315 t316 t317 t318 t319 t320 t321 t322 t323 bt324.2 t328 true))) else (laws_FnFew.j0 k t313 t314 t315 t316 t317 t318 t319 t320 t321 t322 t323 bt324.2 t328 true)))) else (laws_FnFew.j0 k t313 t314 t315 t316 t317 t318 t319 t320 t321 t322 t323 bt324.2 t328 true))))) = some r := H
    have A9 := Aside0.mk A90
    clear A90
    replace H := Option.bind_eq_some_iff.mp H
    obtain ⟨⟨t324, t325⟩, A100, H⟩ := H
    replace H : ((impl_LeastInSum.f k t324 t325).bind fun t328 => ((spec_PairFrobenius.f k t313 t314).bind fun t331 => (if t315 = t331 then ((impl_PairGenus.f k t313 t314).bind fun t332 => ((spec_PairGenus.f k t313 t314).bind fun t333 => (if t332 = t333 then ((spec_PairWays.f k t316 t317 t318).bind fun t334 => (if t319 = t334 then ((spec_RunFrobenius.f k t320 t321 t322).bind fun t335 => (if t323 = t335 then ((spec_LeastInSum.f k t324 t325).bind fun t336 => ((laws_sameInts.f k t328 t336).bind fun t339 => (laws_FnFew.j0 k t313 t314 t315 t316 t317 t318 t319 t320 t321 t322 t323 t325 t328 (!t339)))) else (laws_FnFew.j0 k t313 t314 t315 t316 t317 t318 t319 t320 t321 t322 t323 t325 t328 true))) else (laws_FnFew.j0 k t313 t314 t315 t316 t317 t318 t319 t320 t321 t322 t323 t325 t328 true))) else (laws_FnFew.j0 k t313 t314 t315 t316 t317 t318 t319 t320 t321 t322 t323 t325 t328 true)))) else (laws_FnFew.j0 k t313 t314 t315 t316 t317 t318 t319 t320 t321 t322 t323 t325 t328 true)))) = some r := H
    have A10 := Aside0.mk A100
    clear A100
    replace H := Option.bind_eq_some_iff.mp H
    obtain ⟨t328, A110, H⟩ := H
    replace H : ((spec_PairFrobenius.f k t313 t314).bind fun t331 => (if t315 = t331 then ((impl_PairGenus.f k t313 t314).bind fun t332 => ((spec_PairGenus.f k t313 t314).bind fun t333 => (if t332 = t333 then ((spec_PairWays.f k t316 t317 t318).bind fun t334 => (if t319 = t334 then ((spec_RunFrobenius.f k t320 t321 t322).bind fun t335 => (if t323 = t335 then ((spec_LeastInSum.f k t324 t325).bind fun t336 => ((laws_sameInts.f k t328 t336).bind fun t339 => (laws_FnFew.j0 k t313 t314 t315 t316 t317 t318 t319 t320 t321 t322 t323 t325 t328 (!t339)))) else (laws_FnFew.j0 k t313 t314 t315 t316 t317 t318 t319 t320 t321 t322 t323 t325 t328 true))) else (laws_FnFew.j0 k t313 t314 t315 t316 t317 t318 t319 t320 t321 t322 t323 t325 t328 true))) else (laws_FnFew.j0 k t313 t314 t315 t316 t317 t318 t319 t320 t321 t322 t323 t325 t328 true)))) else (laws_FnFew.j0 k t313 t314 t315 t316 t317 t318 t319 t320 t321 t322 t323 t325 t328 true))) = some r := H
    have A11 := Aside0.mk A110
    clear A110
    have HC12 := Aside0.mk H
    clear H
    go_enter Try.func10, Try.ntmps10
    go_upto_region 11 with (first | ((with_reducible refine gate_callee (f := 36) rfl ?_); refine goesL_ (some 28) rfl rfl Try.func36 (by kernel_rfl) rfl #[.slice A0 l0.length c0] rfl (by (try simp only [List.map_toArray, List.map_cons, List.map_nil]); first | done | rfl | (simp only [List.length_drop, List.length_take]; rfl)) ?_; (with_reducible refine (laws_big.calls _ _ l0 false _ ?side1 ?side2 A2.out).mono ?_); (case side1 => repeat (first | exact HR0.out | (with_reducible refine Kd.C_alloc ?_ _) | (with_reducible refine Kd.C_drewN ?_ _) | (with_reducible refine Kd.C_drew ?_))); (case side2 => exact HC0.out); rintro e w' ⟨rfl, ⟨nd, rfl⟩⟩; refine ⟨_, rfl, ?_⟩) | ((with_reducible refine gate_callee (f := 37) rfl ?_); refine goesL_ (some 31) rfl rfl Try.func37 (by kernel_rfl) rfl #[.slice A0 l0.length c0] rfl (by (try simp only [List.map_toArray, List.map_cons, List.map_nil]); first | done | rfl | (simp only [List.length_drop, List.length_take]; rfl)) ?_; (with_reducible refine (spec_DrawPairFrobenius.calls k _ _ l0 t313 t314 _ ?side1 ?side2 A4.out).mono ?_); (case side1 => repeat (first | exact HR0.out | (with_reducible refine Kd.C_alloc ?_ _) | (with_reducible refine Kd.C_drewN ?_ _) | (with_reducible refine Kd.C_drew ?_))); (case side2 => exact HC0.out); rintro e w13 ⟨rfl, hb⟩; refine ⟨_, rfl, ?_⟩; have n0_ := Aside0.mk (below_step (by repeat (first | (with_reducible first | exact HB.out | apply below_alloc | apply pw_below_drewN | apply below_drew1) | exact HB.out)) hb); clear HB; have HB := n0_; clear n0_; (try clear hb); (try clear hb2); (try clear hk); (try clear hi)) | ((with_reducible refine gate_callee (f := 38) rfl ?_); refine goesL_ (some 36) rfl rfl Try.func38 (by kernel_rfl) rfl #[.int .i64 t313, .int .i64 t314] rfl (by (try simp only [List.map_toArray, List.map_cons, List.map_nil]); first | done | rfl | (simp only [List.length_drop, List.length_take]; rfl)) ?_; (with_reducible refine (impl_PairFrobenius.calls k t313 t314 t315 _ A5.out).mono ?_); rintro e w14 ⟨rfl, hb⟩; refine ⟨_, rfl, ?_⟩; have n0_ := Aside0.mk (below_step (by repeat (first | (with_reducible first | exact HB.out | apply below_alloc | apply pw_below_drewN | apply below_drew1) | exact HB.out)) hb); clear HB; have HB := n0_; clear n0_; (try clear hb); (try clear hb2); (try clear hk); (try clear hi)) | ((with_reducible refine gate_callee (f := 39) rfl ?_); refine goesL_ (some 39) rfl rfl Try.func39 (by kernel_rfl) rfl #[.slice A0 l0.length c0] rfl (by (try simp only [List.map_toArray, List.map_cons, List.map_nil]); first | done | rfl | (simp only [List.length_drop, List.length_take]; rfl)) ?_; (with_reducible refine (spec_DrawPairWays.calls k _ _ l0 t316 t317 t318 _ ?side1 ?side2 A6.out).mono ?_); (case side1 => repeat (first | exact (Kd.C_below HR0.out HB.out) | (with_reducible refine Kd.C_alloc ?_ _) | (with_reducible refine Kd.C_drewN ?_ _) | (with_reducible refine Kd.C_drew ?_))); (case side2 => exact HC0.out); rintro e w15 ⟨rfl, hb⟩; refine ⟨_, rfl, ?_⟩; have n0_ := Aside0.mk (below_step (by repeat (first | (with_reducible first | exact HB.out | apply below_alloc | apply pw_below_drewN | apply below_drew1) | exact HB.out)) hb); clear HB; have HB := n0_; clear n0_; (try clear hb); (try clear hb2); (try clear hk); (try clear hi)) | ((with_reducible refine gate_callee (f := 40) rfl ?_); refine goesL_ (some 46) rfl rfl Try.func40 (by kernel_rfl) rfl #[.int .i64 t316, .int .i64 t317, .int .i64 t318] rfl (by (try simp only [List.map_toArray, List.map_cons, List.map_nil]); first | done | rfl | (simp only [List.length_drop, List.length_take]; rfl)) ?_; (with_reducible refine (impl_PairWays.calls k t316 t317 t318 t319 _ A7.out).mono ?_); rintro e w16 ⟨rfl, hb⟩; refine ⟨_, rfl, ?_⟩; have n0_ := Aside0.mk (below_step (by repeat (first | (with_reducible first | exact HB.out | apply below_alloc | apply pw_below_drewN | apply below_drew1) | exact HB.out)) hb); clear HB; have HB := n0_; clear n0_; (try clear hb); (try clear hb2); (try clear hk); (try clear hi)) | ((with_reducible refine gate_callee (f := 41) rfl ?_); refine goesL_ (some 49) rfl rfl Try.func41 (by kernel_rfl) rfl #[.slice A0 l0.length c0] rfl (by (try simp only [List.map_toArray, List.map_cons, List.map_nil]); first | done | rfl | (simp only [List.length_drop, List.length_take]; rfl)) ?_; (with_reducible refine (spec_DrawRunFrobenius.calls k _ _ l0 t320 t321 t322 _ ?side1 ?side2 A8.out).mono ?_); (case side1 => repeat (first | exact (Kd.C_below HR0.out HB.out) | (with_reducible refine Kd.C_alloc ?_ _) | (with_reducible refine Kd.C_drewN ?_ _) | (with_reducible refine Kd.C_drew ?_))); (case side2 => exact HC0.out); rintro e w17 ⟨rfl, hb⟩; refine ⟨_, rfl, ?_⟩; have n0_ := Aside0.mk (below_step (by repeat (first | (with_reducible first | exact HB.out | apply below_alloc | apply pw_below_drewN | apply below_drew1) | exact HB.out)) hb); clear HB; have HB := n0_; clear n0_; (try clear hb); (try clear hb2); (try clear hk); (try clear hi)) | ((with_reducible refine gate_callee (f := 42) rfl ?_); refine goesL_ (some 56) rfl rfl Try.func42 (by kernel_rfl) rfl #[.int .i64 t320, .int .i64 t321, .int .i64 t322] rfl (by (try simp only [List.map_toArray, List.map_cons, List.map_nil]); first | done | rfl | (simp only [List.length_drop, List.length_take]; rfl)) ?_; (with_reducible refine (impl_RunFrobenius.calls k t320 t321 t322 t323 _ A9.out).mono ?_); rintro e w18 ⟨rfl, hb⟩; refine ⟨_, rfl, ?_⟩; have n0_ := Aside0.mk (below_step (by repeat (first | (with_reducible first | exact HB.out | apply below_alloc | apply pw_below_drewN | apply below_drew1) | exact HB.out)) hb); clear HB; have HB := n0_; clear n0_; (try clear hb); (try clear hb2); (try clear hk); (try clear hi)) | ((with_reducible refine gate_callee (f := 43) rfl ?_); refine goesL_ (some 59) rfl rfl Try.func43 (by kernel_rfl) rfl #[.slice A0 l0.length c0] rfl (by (try simp only [List.map_toArray, List.map_cons, List.map_nil]); first | done | rfl | (simp only [List.length_drop, List.length_take]; rfl)) ?_; (with_reducible refine (spec_DrawLeastInSum.calls k _ _ l0 t324 t325 _ ?side1 ?side2 A10.out).mono ?_); (case side1 => repeat (first | exact (Kd.C_below HR0.out HB.out) | (with_reducible refine Kd.C_alloc ?_ _) | (with_reducible refine Kd.C_drewN ?_ _) | (with_reducible refine Kd.C_drew ?_))); (case side2 => exact HC0.out); rintro e w19 ⟨v326, rfl, ho0, hb⟩; refine ⟨_, rfl, ?_⟩; have n0_ := Aside0.mk (Kd.R_lower ho0 (below_size (by repeat (first | (with_reducible first | exact HB.out | apply below_alloc | apply pw_below_drewN | apply below_drew1) | exact HB.out)))); have n1_ := Aside0.mk (below_step (by repeat (first | (with_reducible first | exact HB.out | apply below_alloc | apply pw_below_drewN | apply below_drew1) | exact HB.out)) hb); clear HB; have HO327 := n0_; have HB := n1_; clear n0_ n1_; (try clear hb); (try clear hb2); (try clear hk); (try clear hi); (try clear ho0); obtain ⟨Ao20, co20, eo20⟩ := Kd.R_slice HO327.out; subst eo20) | ((with_reducible refine gate_callee (f := 44) rfl ?_); refine goesL_ (some 64) rfl rfl Try.func44 (by kernel_rfl) rfl #[.slice Ao20 t324.length co20, .int .i64 t325] rfl (by (try simp only [List.map_toArray, List.map_cons, List.map_nil]); first | done | rfl | (simp only [List.length_drop, List.length_take]; rfl)) ?_; (with_reducible refine (impl_LeastInSum.calls k _ _ t324 t325 t328 _ ?side1 ?side2 A11.out).mono ?_); (case side1 => repeat (first | exact (Kd.R_reads' HO327.out).2.2 | (with_reducible refine Kd.C_alloc ?_ _) | (with_reducible refine Kd.C_drewN ?_ _) | (with_reducible refine Kd.C_drew ?_))); (case side2 => exact (Kd.R_reads' HO327.out).2.1); rintro e w21 ⟨v329, rfl, ho0, hb⟩; refine ⟨_, rfl, ?_⟩; have n0_ := Aside0.mk (Kd.R_elder' (by (with_reducible repeat (first | apply Kd.R_alloc | apply Kd.R_drewN | apply Kd.R_drew)); exact HO327.out) (Kd.R_base ho0) hb); have n1_ := Aside0.mk (Kd.R_lower (Kd.R_new' ho0 (Kd.R_lt (by (with_reducible repeat (first | apply Kd.R_alloc | apply Kd.R_drewN | apply Kd.R_drew)); exact HO327.out))) (below_size (by repeat (first | (with_reducible first | exact HB.out | apply below_alloc | apply pw_below_drewN | apply below_drew1) | exact HB.out)))); have n2_ := Aside0.mk (below_step (by repeat (first | (with_reducible first | exact HB.out | apply below_alloc | apply pw_below_drewN | apply below_drew1) | exact HB.out)) hb); clear HO327; clear HB; have HO327 := n0_; have HO330 := n1_; have HB := n2_; clear n0_ n1_ n2_; (try clear hb); (try clear hb2); (try clear hk); (try clear hi); (try clear ho0)))
    (try simp only [Act.put, List.setIfInBounds_toArray, List.set_cons_zero, List.set_cons_succ])
    go_cut [102] (fun v102 wc => ∃ (kq : Nat) (x102_11 : Bool), v102 = .bool x102_11 ∧ Aside0 (laws_FnFew.j0 kq t313 t314 t315 t316 t317 t318 t319 t320 t321 t322 t323 t325 t328 x102_11 = some r) ∧ Aside0 (kq ≤ k) ∧ Aside0 (Kd.R (Kd.int .i64) 3 wc w.heap.size (fun _ => True) v329 t328) ∧ Aside0 (Below w.heap.size w wc))
    case first =>
      have H := HC12.out
      clear HC12
      replace H := Option.bind_eq_some_iff.mp H
      obtain ⟨t331, A220, H⟩ := H
      replace H : (if t315 = t331 then ((impl_PairGenus.f k t313 t314).bind fun t332 => ((spec_PairGenus.f k t313 t314).bind fun t333 => (if t332 = t333 then ((spec_PairWays.f k t316 t317 t318).bind fun t334 => (if t319 = t334 then ((spec_RunFrobenius.f k t320 t321 t322).bind fun t335 => (if t323 = t335 then ((spec_LeastInSum.f k t324 t325).bind fun t336 => ((laws_sameInts.f k t328 t336).bind fun t339 => (laws_FnFew.j0 k t313 t314 t315 t316 t317 t318 t319 t320 t321 t322 t323 t325 t328 (!t339)))) else (laws_FnFew.j0 k t313 t314 t315 t316 t317 t318 t319 t320 t321 t322 t323 t325 t328 true))) else (laws_FnFew.j0 k t313 t314 t315 t316 t317 t318 t319 t320 t321 t322 t323 t325 t328 true))) else (laws_FnFew.j0 k t313 t314 t315 t316 t317 t318 t319 t320 t321 t322 t323 t325 t328 true)))) else (laws_FnFew.j0 k t313 t314 t315 t316 t317 t318 t319 t320 t321 t322 t323 t325 t328 true)) = some r := H
      have A22 := Aside0.mk A220
      clear A220
      by_cases c23 : t315 = t331
      · rw [if_pos c23] at H
        have c23b0 : (t315 == t331) = true := beq_iff_eq.mpr c23
        have c23b1 : (t315 != t331) = false := bne_eq_false_iff_eq.mpr c23
        clear c23
        (first | rw [c23b0] | (simp only [i64_w, i32_w]; rw [c23b0]) | skip)
        replace H := Option.bind_eq_some_iff.mp H
        obtain ⟨t332, A240, H⟩ := H
        replace H : ((spec_PairGenus.f k t313 t314).bind fun t333 => (if t332 = t333 then ((spec_PairWays.f k t316 t317 t318).bind fun t334 => (if t319 = t334 then ((spec_RunFrobenius.f k t320 t321 t322).bind fun t335 => (if t323 = t335 then ((spec_LeastInSum.f k t324 t325).bind fun t336 => ((laws_sameInts.f k t328 t336).bind fun t339 => (laws_FnFew.j0 k t313 t314 t315 t316 t317 t318 t319 t320 t321 t322 t323 t325 t328 (!t339)))) else (laws_FnFew.j0 k t313 t314 t315 t316 t317 t318 t319 t320 t321 t322 t323 t325 t328 true))) else (laws_FnFew.j0 k t313 t314 t315 t316 t317 t318 t319 t320 t321 t322 t323 t325 t328 true))) else (laws_FnFew.j0 k t313 t314 t315 t316 t317 t318 t319 t320 t321 t322 t323 t325 t328 true))) = some r := H
        have A24 := Aside0.mk A240
        clear A240
        replace H := Option.bind_eq_some_iff.mp H
        obtain ⟨t333, A250, H⟩ := H
        replace H : (if t332 = t333 then ((spec_PairWays.f k t316 t317 t318).bind fun t334 => (if t319 = t334 then ((spec_RunFrobenius.f k t320 t321 t322).bind fun t335 => (if t323 = t335 then ((spec_LeastInSum.f k t324 t325).bind fun t336 => ((laws_sameInts.f k t328 t336).bind fun t339 => (laws_FnFew.j0 k t313 t314 t315 t316 t317 t318 t319 t320 t321 t322 t323 t325 t328 (!t339)))) else (laws_FnFew.j0 k t313 t314 t315 t316 t317 t318 t319 t320 t321 t322 t323 t325 t328 true))) else (laws_FnFew.j0 k t313 t314 t315 t316 t317 t318 t319 t320 t321 t322 t323 t325 t328 true))) else (laws_FnFew.j0 k t313 t314 t315 t316 t317 t318 t319 t320 t321 t322 t323 t325 t328 true)) = some r := H
        have A25 := Aside0.mk A250
        clear A250
        by_cases c26 : t332 = t333
        · rw [if_pos c26] at H
          have c26b0 : (t332 == t333) = true := beq_iff_eq.mpr c26
          have c26b1 : (t332 != t333) = false := bne_eq_false_iff_eq.mpr c26
          clear c26
          replace H := Option.bind_eq_some_iff.mp H
          obtain ⟨t334, A270, H⟩ := H
          replace H : (if t319 = t334 then ((spec_RunFrobenius.f k t320 t321 t322).bind fun t335 => (if t323 = t335 then ((spec_LeastInSum.f k t324 t325).bind fun t336 => ((laws_sameInts.f k t328 t336).bind fun t339 => (laws_FnFew.j0 k t313 t314 t315 t316 t317 t318 t319 t320 t321 t322 t323 t325 t328 (!t339)))) else (laws_FnFew.j0 k t313 t314 t315 t316 t317 t318 t319 t320 t321 t322 t323 t325 t328 true))) else (laws_FnFew.j0 k t313 t314 t315 t316 t317 t318 t319 t320 t321 t322 t323 t325 t328 true)) = some r := H
          have A27 := Aside0.mk A270
          clear A270
          by_cases c28 : t319 = t334
          · rw [if_pos c28] at H
            have c28b0 : (t319 == t334) = true := beq_iff_eq.mpr c28
            have c28b1 : (t319 != t334) = false := bne_eq_false_iff_eq.mpr c28
            clear c28
            replace H := Option.bind_eq_some_iff.mp H
            obtain ⟨t335, A290, H⟩ := H
            replace H : (if t323 = t335 then ((spec_LeastInSum.f k t324 t325).bind fun t336 => ((laws_sameInts.f k t328 t336).bind fun t339 => (laws_FnFew.j0 k t313 t314 t315 t316 t317 t318 t319 t320 t321 t322 t323 t325 t328 (!t339)))) else (laws_FnFew.j0 k t313 t314 t315 t316 t317 t318 t319 t320 t321 t322 t323 t325 t328 true)) = some r := H
            have A29 := Aside0.mk A290
            clear A290
            by_cases c30 : t323 = t335
            · rw [if_pos c30] at H
              have c30b0 : (t323 == t335) = true := beq_iff_eq.mpr c30
              have c30b1 : (t323 != t335) = false := bne_eq_false_iff_eq.mpr c30
              clear c30
              replace H := Option.bind_eq_some_iff.mp H
              obtain ⟨t336, A310, H⟩ := H
              replace H : ((laws_sameInts.f k t328 t336).bind fun t339 => (laws_FnFew.j0 k t313 t314 t315 t316 t317 t318 t319 t320 t321 t322 t323 t325 t328 (!t339))) = some r := H
              have A31 := Aside0.mk A310
              clear A310
              replace H := Option.bind_eq_some_iff.mp H
              obtain ⟨t339, A320, H⟩ := H
              replace H : (laws_FnFew.j0 k t313 t314 t315 t316 t317 t318 t319 t320 t321 t322 t323 t325 t328 (!t339)) = some r := H
              have A32 := Aside0.mk A320
              clear A320
              as_aux_lemma =>
                have H' := Aside0.mk H
                clear H
                go_wp2_with (first | ((with_reducible refine gate_callee (f := 45) rfl ?_); refine goesL_ (some 68) rfl rfl Try.func45 (by kernel_rfl) rfl #[.int .i64 t313, .int .i64 t314] rfl (by (try simp only [List.map_toArray, List.map_cons, List.map_nil]); first | done | rfl | (simp only [List.length_drop, List.length_take]; rfl)) ?_; (with_reducible refine (spec_PairFrobenius.calls k t313 t314 t331 _ A22.out).mono ?_); rintro e w' ⟨rfl, ⟨nd, rfl⟩⟩; refine ⟨_, rfl, ?_⟩) | (go_at_call 46; (with_reducible refine (impl_PairGenus.calls k t313 t314 t332 _ A24.out).mono ?_); rintro e w33 ⟨rfl, hb⟩; have n0_ := Aside0.mk (Kd.R_below (by (with_reducible repeat (first | apply Kd.R_alloc | apply Kd.R_drewN | apply Kd.R_drew)); exact HO327.out) hb); have n1_ := Aside0.mk (Kd.R_below (by (with_reducible repeat (first | apply Kd.R_alloc | apply Kd.R_drewN | apply Kd.R_drew)); exact HO330.out) hb); have n2_ := Aside0.mk (below_step (by repeat (first | (with_reducible first | exact HB.out | apply below_alloc | apply pw_below_drewN | apply below_drew1) | exact HB.out)) hb); clear HO327; clear HO330; clear HB; have HO327 := n0_; have HO330 := n1_; have HB := n2_; clear n0_ n1_ n2_; (try clear hb); (try clear hb2); (try clear hk); (try clear hi)) | (go_at_call 47; (with_reducible refine (spec_PairGenus.calls k t313 t314 t333 _ A25.out).mono ?_); rintro e w' ⟨rfl, ⟨nd, rfl⟩⟩) | (go_at_call 48; (with_reducible refine (spec_PairWays.calls k t316 t317 t318 t334 _ A27.out).mono ?_); rintro e w' ⟨rfl, ⟨nd, rfl⟩⟩) | (go_at_call 49; (with_reducible refine (spec_RunFrobenius.calls k t320 t321 t322 t335 _ A29.out).mono ?_); rintro e w' ⟨rfl, ⟨nd, rfl⟩⟩) | (go_at_call 51; (with_reducible refine (spec_LeastInSum.calls k _ _ t324 t325 t336 _ ?side1 ?side2 A31.out).mono ?_); (case side1 => repeat (first | exact (Kd.R_reads' HO327.out).2.2 | (with_reducible refine Kd.C_alloc ?_ _) | (with_reducible refine Kd.C_drewN ?_ _) | (with_reducible refine Kd.C_drew ?_))); (case side2 => exact (Kd.R_reads' HO327.out).2.1); rintro e w34 ⟨v337, rfl, ho0, hb⟩; have n0_ := Aside0.mk (Kd.R_elder' (by (with_reducible repeat (first | apply Kd.R_alloc | apply Kd.R_drewN | apply Kd.R_drew)); exact HO327.out) (Kd.R_base ho0) hb); have n1_ := Aside0.mk (Kd.R_elder' (by (with_reducible repeat (first | apply Kd.R_alloc | apply Kd.R_drewN | apply Kd.R_drew)); exact HO330.out) (Kd.R_base ho0) hb); have n2_ := Aside0.mk (Kd.R_lower (Kd.R_new' (Kd.R_new' ho0 (Kd.R_lt (by (with_reducible repeat (first | apply Kd.R_alloc | apply Kd.R_drewN | apply Kd.R_drew)); exact HO327.out))) (Kd.R_lt (by (with_reducible repeat (first | apply Kd.R_alloc | apply Kd.R_drewN | apply Kd.R_drew)); exact HO330.out))) (below_size (by repeat (first | (with_reducible first | exact HB.out | apply below_alloc | apply pw_below_drewN | apply below_drew1) | exact HB.out)))); have n3_ := Aside0.mk (below_step (by repeat (first | (with_reducible first | exact HB.out | apply below_alloc | apply pw_below_drewN | apply below_drew1) | exact HB.out)) hb); clear HO327; clear HO330; clear HB; have HO327 := n0_; have HO330 := n1_; have HO338 := n2_; have HB := n3_; clear n0_ n1_ n2_ n3_; (try clear hb); (try clear hb2); (try clear hk); (try clear hi); (try clear ho0); obtain ⟨Ao35, co35, eo35⟩ := Kd.R_slice HO330.out; subst eo35; obtain ⟨Ao36, co36, eo36⟩ := Kd.R_slice HO338.out; subst eo36) | (go_at_call 50; (with_reducible refine (laws_sameInts.calls k _ _ t328 _ _ t336 t339 _ ?side1 ?side2 ?side3 ?side4 A32.out).mono ?_); (case side1 => repeat (first | exact (Kd.R_reads' HO330.out).2.2 | (with_reducible refine Kd.C_alloc ?_ _) | (with_reducible refine Kd.C_drewN ?_ _) | (with_reducible refine Kd.C_drew ?_))); (case side2 => exact (Kd.R_reads' HO330.out).2.1); (case side3 => repeat (first | exact (Kd.R_reads' HO338.out).2.2 | (with_reducible refine Kd.C_alloc ?_ _) | (with_reducible refine Kd.C_drewN ?_ _) | (with_reducible refine Kd.C_drew ?_))); (case side4 => exact (Kd.R_reads' HO338.out).2.1); rintro e w' ⟨rfl, ⟨nd, rfl⟩⟩))
                go_meet
                case rel => exact ⟨_, (!t339), (by first | rfl | (simp; done) | (simp [*]; done)), H', ⟨by first | omega | exact Nat.le_refl _⟩, ⟨by (with_reducible repeat (first | apply Kd.R_alloc | apply Kd.R_drewN | apply Kd.R_drew)); exact Kd.R_mono HO330.out (fun _ hk => trivial)⟩, ⟨by repeat (first | (with_reducible first | exact HB.out | apply below_alloc | apply pw_below_drewN | apply below_drew1) | exact HB.out)⟩⟩
            · rw [if_neg c30] at H
              have c30b0 : (t323 == t335) = false := beq_eq_false_iff_ne.mpr c30
              have c30b1 : (t323 != t335) = true := bne_iff_ne.mpr c30
              as_aux_lemma =>
                have H' := Aside0.mk H
                clear H
                go_wp2_with (first | ((with_reducible refine gate_callee (f := 45) rfl ?_); refine goesL_ (some 68) rfl rfl Try.func45 (by kernel_rfl) rfl #[.int .i64 t313, .int .i64 t314] rfl (by (try simp only [List.map_toArray, List.map_cons, List.map_nil]); first | done | rfl | (simp only [List.length_drop, List.length_take]; rfl)) ?_; (with_reducible refine (spec_PairFrobenius.calls k t313 t314 t331 _ A22.out).mono ?_); rintro e w' ⟨rfl, ⟨nd, rfl⟩⟩; refine ⟨_, rfl, ?_⟩) | (go_at_call 46; (with_reducible refine (impl_PairGenus.calls k t313 t314 t332 _ A24.out).mono ?_); rintro e w37 ⟨rfl, hb⟩; have n0_ := Aside0.mk (Kd.R_below (by (with_reducible repeat (first | apply Kd.R_alloc | apply Kd.R_drewN | apply Kd.R_drew)); exact HO327.out) hb); have n1_ := Aside0.mk (Kd.R_below (by (with_reducible repeat (first | apply Kd.R_alloc | apply Kd.R_drewN | apply Kd.R_drew)); exact HO330.out) hb); have n2_ := Aside0.mk (below_step (by repeat (first | (with_reducible first | exact HB.out | apply below_alloc | apply pw_below_drewN | apply below_drew1) | exact HB.out)) hb); clear HO327; clear HO330; clear HB; have HO327 := n0_; have HO330 := n1_; have HB := n2_; clear n0_ n1_ n2_; (try clear hb); (try clear hb2); (try clear hk); (try clear hi)) | (go_at_call 47; (with_reducible refine (spec_PairGenus.calls k t313 t314 t333 _ A25.out).mono ?_); rintro e w' ⟨rfl, ⟨nd, rfl⟩⟩) | (go_at_call 48; (with_reducible refine (spec_PairWays.calls k t316 t317 t318 t334 _ A27.out).mono ?_); rintro e w' ⟨rfl, ⟨nd, rfl⟩⟩) | (go_at_call 49; (with_reducible refine (spec_RunFrobenius.calls k t320 t321 t322 t335 _ A29.out).mono ?_); rintro e w' ⟨rfl, ⟨nd, rfl⟩⟩))
                go_meet
                case rel => exact ⟨_, (true), (by first | rfl | (simp; done) | (simp [*]; done)), H', ⟨by first | omega | exact Nat.le_refl _⟩, ⟨by (with_reducible repeat (first | apply Kd.R_alloc | apply Kd.R_drewN | apply Kd.R_drew)); exact Kd.R_mono HO330.out (fun _ hk => trivial)⟩, ⟨by repeat (first | (with_reducible first | exact HB.out | apply below_alloc | apply pw_below_drewN | apply below_drew1) | exact HB.out)⟩⟩
          · rw [if_neg c28] at H
            have c28b0 : (t319 == t334) = false := beq_eq_false_iff_ne.mpr c28
            have c28b1 : (t319 != t334) = true := bne_iff_ne.mpr c28
            as_aux_lemma =>
              have H' := Aside0.mk H
              clear H
              go_wp2_with (first | ((with_reducible refine gate_callee (f := 45) rfl ?_); refine goesL_ (some 68) rfl rfl Try.func45 (by kernel_rfl) rfl #[.int .i64 t313, .int .i64 t314] rfl (by (try simp only [List.map_toArray, List.map_cons, List.map_nil]); first | done | rfl | (simp only [List.length_drop, List.length_take]; rfl)) ?_; (with_reducible refine (spec_PairFrobenius.calls k t313 t314 t331 _ A22.out).mono ?_); rintro e w' ⟨rfl, ⟨nd, rfl⟩⟩; refine ⟨_, rfl, ?_⟩) | (go_at_call 46; (with_reducible refine (impl_PairGenus.calls k t313 t314 t332 _ A24.out).mono ?_); rintro e w38 ⟨rfl, hb⟩; have n0_ := Aside0.mk (Kd.R_below (by (with_reducible repeat (first | apply Kd.R_alloc | apply Kd.R_drewN | apply Kd.R_drew)); exact HO327.out) hb); have n1_ := Aside0.mk (Kd.R_below (by (with_reducible repeat (first | apply Kd.R_alloc | apply Kd.R_drewN | apply Kd.R_drew)); exact HO330.out) hb); have n2_ := Aside0.mk (below_step (by repeat (first | (with_reducible first | exact HB.out | apply below_alloc | apply pw_below_drewN | apply below_drew1) | exact HB.out)) hb); clear HO327; clear HO330; clear HB; have HO327 := n0_; have HO330 := n1_; have HB := n2_; clear n0_ n1_ n2_; (try clear hb); (try clear hb2); (try clear hk); (try clear hi)) | (go_at_call 47; (with_reducible refine (spec_PairGenus.calls k t313 t314 t333 _ A25.out).mono ?_); rintro e w' ⟨rfl, ⟨nd, rfl⟩⟩) | (go_at_call 48; (with_reducible refine (spec_PairWays.calls k t316 t317 t318 t334 _ A27.out).mono ?_); rintro e w' ⟨rfl, ⟨nd, rfl⟩⟩))
              go_meet
              case rel => exact ⟨_, (true), (by first | rfl | (simp; done) | (simp [*]; done)), H', ⟨by first | omega | exact Nat.le_refl _⟩, ⟨by (with_reducible repeat (first | apply Kd.R_alloc | apply Kd.R_drewN | apply Kd.R_drew)); exact Kd.R_mono HO330.out (fun _ hk => trivial)⟩, ⟨by repeat (first | (with_reducible first | exact HB.out | apply below_alloc | apply pw_below_drewN | apply below_drew1) | exact HB.out)⟩⟩
        · rw [if_neg c26] at H
          have c26b0 : (t332 == t333) = false := beq_eq_false_iff_ne.mpr c26
          have c26b1 : (t332 != t333) = true := bne_iff_ne.mpr c26
          as_aux_lemma =>
            have H' := Aside0.mk H
            clear H
            go_wp2_with (first | ((with_reducible refine gate_callee (f := 45) rfl ?_); refine goesL_ (some 68) rfl rfl Try.func45 (by kernel_rfl) rfl #[.int .i64 t313, .int .i64 t314] rfl (by (try simp only [List.map_toArray, List.map_cons, List.map_nil]); first | done | rfl | (simp only [List.length_drop, List.length_take]; rfl)) ?_; (with_reducible refine (spec_PairFrobenius.calls k t313 t314 t331 _ A22.out).mono ?_); rintro e w' ⟨rfl, ⟨nd, rfl⟩⟩; refine ⟨_, rfl, ?_⟩) | (go_at_call 46; (with_reducible refine (impl_PairGenus.calls k t313 t314 t332 _ A24.out).mono ?_); rintro e w39 ⟨rfl, hb⟩; have n0_ := Aside0.mk (Kd.R_below (by (with_reducible repeat (first | apply Kd.R_alloc | apply Kd.R_drewN | apply Kd.R_drew)); exact HO327.out) hb); have n1_ := Aside0.mk (Kd.R_below (by (with_reducible repeat (first | apply Kd.R_alloc | apply Kd.R_drewN | apply Kd.R_drew)); exact HO330.out) hb); have n2_ := Aside0.mk (below_step (by repeat (first | (with_reducible first | exact HB.out | apply below_alloc | apply pw_below_drewN | apply below_drew1) | exact HB.out)) hb); clear HO327; clear HO330; clear HB; have HO327 := n0_; have HO330 := n1_; have HB := n2_; clear n0_ n1_ n2_; (try clear hb); (try clear hb2); (try clear hk); (try clear hi)) | (go_at_call 47; (with_reducible refine (spec_PairGenus.calls k t313 t314 t333 _ A25.out).mono ?_); rintro e w' ⟨rfl, ⟨nd, rfl⟩⟩))
            go_meet
            case rel => exact ⟨_, (true), (by first | rfl | (simp; done) | (simp [*]; done)), H', ⟨by first | omega | exact Nat.le_refl _⟩, ⟨by (with_reducible repeat (first | apply Kd.R_alloc | apply Kd.R_drewN | apply Kd.R_drew)); exact Kd.R_mono HO330.out (fun _ hk => trivial)⟩, ⟨by repeat (first | (with_reducible first | exact HB.out | apply below_alloc | apply pw_below_drewN | apply below_drew1) | exact HB.out)⟩⟩
      · rw [if_neg c23] at H
        have c23b0 : (t315 == t331) = false := beq_eq_false_iff_ne.mpr c23
        have c23b1 : (t315 != t331) = true := bne_iff_ne.mpr c23
        (first | rw [c23b0] | (simp only [i64_w, i32_w]; rw [c23b0]) | skip)
        as_aux_lemma =>
          have H' := Aside0.mk H
          clear H
          go_wp2_with (first | ((with_reducible refine gate_callee (f := 45) rfl ?_); refine goesL_ (some 68) rfl rfl Try.func45 (by kernel_rfl) rfl #[.int .i64 t313, .int .i64 t314] rfl (by (try simp only [List.map_toArray, List.map_cons, List.map_nil]); first | done | rfl | (simp only [List.length_drop, List.length_take]; rfl)) ?_; (with_reducible refine (spec_PairFrobenius.calls k t313 t314 t331 _ A22.out).mono ?_); rintro e w' ⟨rfl, ⟨nd, rfl⟩⟩; refine ⟨_, rfl, ?_⟩))
          go_meet
          case rel => exact ⟨_, (true), (by first | rfl | (simp; done) | (simp [*]; done)), H', ⟨by first | omega | exact Nat.le_refl _⟩, ⟨by (with_reducible repeat (first | apply Kd.R_alloc | apply Kd.R_drewN | apply Kd.R_drew)); exact Kd.R_mono HO330.out (fun _ hk => trivial)⟩, ⟨by repeat (first | (with_reducible first | exact HB.out | apply below_alloc | apply pw_below_drewN | apply below_drew1) | exact HB.out)⟩⟩
    case rest =>
      clear HC12
      try clear c1
      try clear c2
      try clear p2
      try clear c3
      try clear c4
      try clear c10
      try clear c23
      try clear c23b0
      try clear c23b1
      try clear c26
      try clear c26b0
      try clear c26b1
      try clear c28
      try clear c28b0
      try clear c28b1
      try clear c30
      try clear c30b0
      try clear c30b1
      try clear c36
      try clear c37
      try clear c38
      try clear c39
      obtain ⟨kq, x102_11, rfl, HA, HJ11, HO_16, HB⟩ := hcut
      cases kq with
      | zero => exact absurd HA.out (by simp [laws_FnFew.j0])
      | succ kj11 =>
        have H := HA.out
        clear HA
        simp only [laws_FnFew.j0] at H
        by_cases c40 : x102_11 = true
        · subst c40
          have H1 : (some false) = some r := by rw [if_pos rfl] at H; exact H
          clear H
          have H := H1
          clear H1
          as_aux_lemma =>
            obtain rfl := Option.some.inj H
            go_wp2
            go_ret
            exact ⟨by first | rfl | (simp [errW_none, errW_some] <;> rfl) | (simp [*, errW_none, errW_some] <;> rfl), by repeat (first | (with_reducible first | exact HB.out | apply below_alloc | apply pw_below_drewN | apply below_drew1) | exact HB.out)⟩
        · replace c40 := Bool.eq_false_iff.mpr c40
          subst c40
          have H1 : (laws_FnFew.l0 kj11 t313 t314 t315 t316 t317 t318 t319 t320 t321 t322 t323 t325 t328 0) = some r := by rw [if_neg (show ¬ (false = true) by decide)] at H; exact H
          clear H
          have H := H1
          clear H1
          have H' := Aside0.mk H
          clear H
          go_wp2
          go_loopg [17] kj11 (fun kq v17 w' => ∃ (x17_2 : Int), v17 = .int .i64 x17_2 ∧ Aside0 (laws_FnFew.l0 kq t313 t314 t315 t316 t317 t318 t319 t320 t321 t322 t323 t325 t328 x17_2 = some r) ∧ Aside0 (kq ≤ kj11) ∧ Aside0 (Kd.R (Kd.int .i64) 3 w' w.heap.size (fun _ => True) v329 t328) ∧ Aside0 (Below w.heap.size w w'))
          case atStart => exact ⟨(0), (by first | rfl | (simp; done) | (simp [*]; done)), H', ⟨Nat.le_refl _⟩, ⟨by (with_reducible repeat (first | apply Kd.R_alloc | apply Kd.R_drewN | apply Kd.R_drew)); exact HO_16.out⟩, ⟨by repeat (first | (with_reducible first | exact HB.out | apply below_alloc | apply pw_below_drewN | apply below_drew1) | exact HB.out)⟩⟩
          case round =>
            clear H'
            try clear c1
            try clear c2
            try clear p2
            try clear c3
            try clear c4
            try clear c10
            try clear c23
            try clear c23b0
            try clear c23b1
            try clear c26
            try clear c26b0
            try clear c26b1
            try clear c28
            try clear c28b0
            try clear c28b1
            try clear c30
            try clear c30b0
            try clear c30b1
            try clear c36
            try clear c37
            try clear c38
            try clear c39
            try clear c40
            try clear p2
            obtain ⟨x17_2, rfl, HA, HK2, HO_16, HB⟩ := hrel
            cases gk with
            | zero => exact absurd HA.out (by simp [laws_FnFew.l0])
            | succ k2 =>
              have H := HA.out
              clear HA
              simp only [laws_FnFew.l0] at H
              by_cases c41 : x17_2 < (t328.length : Int)
              · rw [if_pos c41] at H
                have c41b0 : decide (x17_2 < (t328.length : Int)) = true := decide_eq_true c41
                clear c41
                by_cases c42 : 0 ≤ x17_2
                · rw [if_pos c42] at H
                  have c42b0 : decide (0 ≤ x17_2) = true := decide_eq_true c42
                  clear c42
                  by_cases c43 : (rd t328 x17_2) ≥ 0
                  · rw [if_pos c43] at H
                    have c43b0 : decide (0 ≤ (rd t328 x17_2)) = true := decide_eq_true c43
                    clear c43
                    by_cases c44 : t325 = 0
                    · rw [if_pos c44] at H
                      exact absurd H (by simp)
                    · rw [if_neg c44] at H
                      have c44b0 : (t325 == 0) = false := beq_eq_false_iff_ne.mpr c44
                      have c44b1 : (t325 != 0) = true := bne_iff_ne.mpr c44
                      by_cases c45 : (Int.tmod (rd t328 x17_2) t325) = x17_2
                      · rw [if_pos c45] at H
                        have c45b0 : ((Int.tmod (rd t328 x17_2) t325) == x17_2) = true := beq_iff_eq.mpr c45
                        have c45b1 : ((Int.tmod (rd t328 x17_2) t325) != x17_2) = false := bne_eq_false_iff_eq.mpr c45
                        clear c45
                        as_aux_lemma =>
                          have H' := Aside0.mk H
                          clear H
                          obtain ⟨Ao46, co46, eo46⟩ := Kd.R_slice HO_16.out
                          subst eo46
                          have p340 : 0 ≤ (x17_2 : Int) := of_decide_eq_true (by first | (with_reducible assumption) | assumption)
                          have q340 : x17_2 < (t328.length : Int) := of_decide_eq_true (by first | (with_reducible assumption) | assumption)
                          obtain ⟨ad340, e340, hx340_0⟩ := Kd.at_int (Kd.R_reads' HO_16.out).2.2 x17_2 p340 q340
                          cases e340
                          replace p340 := eq_true p340
                          replace q340 := eq_true q340
                          have p341 : 0 ≤ (x17_2 : Int) := of_decide_eq_true (by first | (with_reducible assumption) | assumption)
                          have q341 : x17_2 < (t328.length : Int) := of_decide_eq_true (by first | (with_reducible assumption) | assumption)
                          obtain ⟨ad341, e341, hx341_0⟩ := Kd.at_int (Kd.R_reads' HO_16.out).2.2 x17_2 p341 q341
                          obtain rfl : ad340 = ad341 := (by injection e341)
                          replace p341 := eq_true p341
                          replace q341 := eq_true q341
                          go_wp2
                          go_roundg k2
                          case measure => have := HJ11.out; have := HK2.out; omega
                          case rel => exact ⟨(wrap64 (x17_2 + 1)), (by first | rfl | (simp; done) | (simp [*]; done)), H', ⟨by have := HJ11.out; have := HK2.out; omega⟩, ⟨by (with_reducible repeat (first | apply Kd.R_alloc | apply Kd.R_drewN | apply Kd.R_drew)); exact HO_16.out⟩, ⟨by repeat (first | (with_reducible first | exact HB.out | apply below_alloc | apply pw_below_drewN | apply below_drew1) | exact HB.out)⟩⟩
                      · rw [if_neg c45] at H
                        have c45b0 : ((Int.tmod (rd t328 x17_2) t325) == x17_2) = false := beq_eq_false_iff_ne.mpr c45
                        have c45b1 : ((Int.tmod (rd t328 x17_2) t325) != x17_2) = true := bne_iff_ne.mpr c45
                        as_aux_lemma =>
                          obtain rfl := Option.some.inj H
                          obtain ⟨Ao47, co47, eo47⟩ := Kd.R_slice HO_16.out
                          subst eo47
                          have p340 : 0 ≤ (x17_2 : Int) := of_decide_eq_true (by first | (with_reducible assumption) | assumption)
                          have q340 : x17_2 < (t328.length : Int) := of_decide_eq_true (by first | (with_reducible assumption) | assumption)
                          obtain ⟨ad340, e340, hx340_0⟩ := Kd.at_int (Kd.R_reads' HO_16.out).2.2 x17_2 p340 q340
                          cases e340
                          replace p340 := eq_true p340
                          replace q340 := eq_true q340
                          have p341 : 0 ≤ (x17_2 : Int) := of_decide_eq_true (by first | (with_reducible assumption) | assumption)
                          have q341 : x17_2 < (t328.length : Int) := of_decide_eq_true (by first | (with_reducible assumption) | assumption)
                          obtain ⟨ad341, e341, hx341_0⟩ := Kd.at_int (Kd.R_reads' HO_16.out).2.2 x17_2 p341 q341
                          obtain rfl : ad340 = ad341 := (by injection e341)
                          replace p341 := eq_true p341
                          replace q341 := eq_true q341
                          go_wp2
                          go_ret
                          exact ⟨by first | rfl | (simp [errW_none, errW_some] <;> rfl) | (simp [*, errW_none, errW_some] <;> rfl), by repeat (first | (with_reducible first | exact HB.out | apply below_alloc | apply pw_below_drewN | apply below_drew1) | exact HB.out)⟩
                  · rw [if_neg c43] at H
                    have c43b0 : decide (0 ≤ (rd t328 x17_2)) = false := decide_eq_false c43
                    clear c43
                    as_aux_lemma =>
                      have H' := Aside0.mk H
                      clear H
                      obtain ⟨Ao48, co48, eo48⟩ := Kd.R_slice HO_16.out
                      subst eo48
                      have p340 : 0 ≤ (x17_2 : Int) := of_decide_eq_true (by first | (with_reducible assumption) | assumption)
                      have q340 : x17_2 < (t328.length : Int) := of_decide_eq_true (by first | (with_reducible assumption) | assumption)
                      obtain ⟨ad340, e340, hx340_0⟩ := Kd.at_int (Kd.R_reads' HO_16.out).2.2 x17_2 p340 q340
                      cases e340
                      replace p340 := eq_true p340
                      replace q340 := eq_true q340
                      go_wp2
                      go_roundg k2
                      case measure => have := HJ11.out; have := HK2.out; omega
                      case rel => exact ⟨(wrap64 (x17_2 + 1)), (by first | rfl | (simp; done) | (simp [*]; done)), H', ⟨by have := HJ11.out; have := HK2.out; omega⟩, ⟨by (with_reducible repeat (first | apply Kd.R_alloc | apply Kd.R_drewN | apply Kd.R_drew)); exact HO_16.out⟩, ⟨by repeat (first | (with_reducible first | exact HB.out | apply below_alloc | apply pw_below_drewN | apply below_drew1) | exact HB.out)⟩⟩
                · rw [if_neg c42] at H
                  exact absurd H (by simp)
              · rw [if_neg c41] at H
                have c41b0 : decide (x17_2 < (t328.length : Int)) = false := decide_eq_false c41
                clear c41
                have HC49 := Aside0.mk H
                clear H
                obtain ⟨Ao50, co50, eo50⟩ := Kd.R_slice HO_16.out
                subst eo50
                go_upto_region 18 with (fail)
                go_cut [143] (fun v143 wc => ∃ (kq : Nat) (x143_48 : Bool), v143 = .bool x143_48 ∧ Aside0 (laws_FnFew.j2 kq t313 t314 t315 t320 t321 t322 t323 x143_48 = some r) ∧ Aside0 (kq ≤ k2) ∧ Aside0 (Below w.heap.size w wc))
                case first =>
                  have H := HC49.out
                  clear HC49
                  by_cases c51 : t319 ≥ 0
                  · rw [if_pos c51] at H
                    have c51b0 : decide (0 ≤ t319) = true := decide_eq_true c51
                    clear c51
                    (first | rw [c51b0] | (simp only [i64_w, i32_w]; rw [c51b0]) | skip)
                    by_cases c52 : t316 ≤ 60
                    · rw [if_pos c52] at H
                      have c52b0 : decide (t316 ≤ 60) = true := decide_eq_true c52
                      clear c52
                      by_cases c53 : t317 ≤ 60
                      · rw [if_pos c53] at H
                        have c53b0 : decide (t317 ≤ 60) = true := decide_eq_true c53
                        clear c53
                        obtain ⟨y342, hy342⟩ : ∃ y_ : List Int, y_ = (([t316, t317] : List Int)) := ⟨_, rfl⟩
                        replace H : ((impl_Generates.f k2 y342 t318).bind fun t345 => (laws_FnFew.j2 k2 t313 t314 t315 t320 t321 t322 t323 ((decide (t319 > 0)) != t345))) = some r := by first | (rw [hy342]; with_reducible exact H) | (have H2_ := (Option.bind_some _ _).symm.trans H; rw [hy342]; with_reducible exact H2_) | (have H2_ := (Option.bind_some _ _).symm.trans H; with_reducible exact H2_) | with_reducible exact H | (rw [hy342]; exact H) | exact H
                        have Ny342 := Aside0.mk hy342
                        clear hy342
                        replace H := Option.bind_eq_some_iff.mp H
                        obtain ⟨t345, A540, H⟩ := H
                        replace H : (laws_FnFew.j2 k2 t313 t314 t315 t320 t321 t322 t323 ((decide (t319 > 0)) != t345)) = some r := H
                        have A54 := Aside0.mk A540
                        clear A540
                        as_aux_lemma =>
                          have H' := Aside0.mk H
                          clear H
                          go_wp2_with (first | ((with_reducible refine gate_dst (N := 139) rfl ?_); (try (refine gate_guard (by rfl) ?_; dsimp only)); refine Kd.R_lit (Kd.int .i64) _ 3 ?hg (N := 139) ?hd (xs := ([t316, t317] : List Int)) (inner := [.int .i64 t316, .int .i64 t317]) (ok := fun _ => True) (okp := fun _ => True) ?hr ?hp (fun _ hk => hk) trivial (Below.refl _ _) (Nat.le_refl _) (by simp) ?_; (case hd => rfl); (case hg => rfl); (case hr => first | (go_simp; done) | (go_simp; rfl)); (case hp => exact (Reps.one (show Kd.M (Kd.int .i64) _ _ _ t316 [.int .i64 t316] from rfl) (Reps.one (show Kd.M (Kd.int .i64) _ _ _ t317 [.int .i64 t317] from rfl) (Reps.none _ _)))); intro v343 w55 ho56 hb hg_ hnew_; clear hg_ hnew_; (first | rw [← Ny342.out] at ho56 | (simp only [Int.reduceToNat] at ho56; rw [← Ny342.out] at ho56)); have n0_ := Aside0.mk (Kd.R_elder' (by (with_reducible repeat (first | apply Kd.R_alloc | apply Kd.R_drewN | apply Kd.R_drew)); exact HO_16.out) (Kd.R_base ho56) hb); have n1_ := Aside0.mk (Kd.R_lower (Kd.R_new' ho56 (Kd.R_lt (by (with_reducible repeat (first | apply Kd.R_alloc | apply Kd.R_drewN | apply Kd.R_drew)); exact HO_16.out))) (below_size (by repeat (first | (with_reducible first | exact HB.out | apply below_alloc | apply pw_below_drewN | apply below_drew1) | exact HB.out)))); have n2_ := Aside0.mk (below_step (by repeat (first | (with_reducible first | exact HB.out | apply below_alloc | apply pw_below_drewN | apply below_drew1) | exact HB.out)) hb); clear HO_16; clear HB; have HO_16 := n0_; have HO344 := n1_; have HB := n2_; clear n0_ n1_ n2_; clear hb ho56; obtain ⟨Ao57, co57, eo57⟩ := Kd.R_slice HO344.out; subst eo57) | (go_at_call 52; (with_reducible refine (impl_Generates.calls k2 _ _ y342 t318 t345 _ ?side1 ?side2 A54.out).mono ?_); (case side1 => repeat (first | exact (Kd.R_reads' HO344.out).2.2 | (with_reducible refine Kd.C_alloc ?_ _) | (with_reducible refine Kd.C_drewN ?_ _) | (with_reducible refine Kd.C_drew ?_))); (case side2 => exact (Kd.R_reads' HO344.out).2.1); rintro e w58 ⟨rfl, hb⟩; have n0_ := Aside0.mk (Kd.R_below (by (with_reducible repeat (first | apply Kd.R_alloc | apply Kd.R_drewN | apply Kd.R_drew)); exact HO_16.out) hb); have n1_ := Aside0.mk (Kd.R_below (by (with_reducible repeat (first | apply Kd.R_alloc | apply Kd.R_drewN | apply Kd.R_drew)); exact HO344.out) hb); have n2_ := Aside0.mk (below_step (by repeat (first | (with_reducible first | exact HB.out | apply below_alloc | apply pw_below_drewN | apply below_drew1) | exact HB.out)) hb); clear HO_16; clear HO344; clear HB; have HO_16 := n0_; have HO344 := n1_; have HB := n2_; clear n0_ n1_ n2_; (try clear hb); (try clear hb2); (try clear hk); (try clear hi)))
                          go_meet
                          case rel => exact ⟨_, (((decide (t319 > 0)) != t345)), (by first | rfl | (simp; done) | (simp [*]; done)), H', ⟨by have := HJ11.out; have := HK2.out; first | omega | exact Nat.le_refl _⟩, ⟨by repeat (first | (with_reducible first | exact HB.out | apply below_alloc | apply pw_below_drewN | apply below_drew1) | exact HB.out)⟩⟩
                      · rw [if_neg c53] at H
                        have c53b0 : decide (t317 ≤ 60) = false := decide_eq_false c53
                        clear c53
                        as_aux_lemma =>
                          have H' := Aside0.mk H
                          clear H
                          go_wp2
                          go_meet
                          case rel => exact ⟨_, (false), (by first | rfl | (simp; done) | (simp [*]; done)), H', ⟨by have := HJ11.out; have := HK2.out; first | omega | exact Nat.le_refl _⟩, ⟨by repeat (first | (with_reducible first | exact HB.out | apply below_alloc | apply pw_below_drewN | apply below_drew1) | exact HB.out)⟩⟩
                    · rw [if_neg c52] at H
                      have c52b0 : decide (t316 ≤ 60) = false := decide_eq_false c52
                      clear c52
                      as_aux_lemma =>
                        have H' := Aside0.mk H
                        clear H
                        go_wp2
                        go_meet
                        case rel => exact ⟨_, (false), (by first | rfl | (simp; done) | (simp [*]; done)), H', ⟨by have := HJ11.out; have := HK2.out; first | omega | exact Nat.le_refl _⟩, ⟨by repeat (first | (with_reducible first | exact HB.out | apply below_alloc | apply pw_below_drewN | apply below_drew1) | exact HB.out)⟩⟩
                  · rw [if_neg c51] at H
                    have c51b0 : decide (0 ≤ t319) = false := decide_eq_false c51
                    clear c51
                    (first | rw [c51b0] | (simp only [i64_w, i32_w]; rw [c51b0]) | skip)
                    as_aux_lemma =>
                      have H' := Aside0.mk H
                      clear H
                      go_wp2
                      go_meet
                      case rel => exact ⟨_, (false), (by first | rfl | (simp; done) | (simp [*]; done)), H', ⟨by have := HJ11.out; have := HK2.out; first | omega | exact Nat.le_refl _⟩, ⟨by repeat (first | (with_reducible first | exact HB.out | apply below_alloc | apply pw_below_drewN | apply below_drew1) | exact HB.out)⟩⟩
                case rest =>
                  clear HC49
                  try clear c1
                  try clear c2
                  try clear p2
                  try clear c3
                  try clear p3
                  try clear q3
                  try clear hx3
                  try clear c4
                  try clear c5
                  try clear p6
                  try clear c10
                  try clear c23
                  try clear c23b0
                  try clear c23b1
                  try clear c26
                  try clear c26b0
                  try clear c26b1
                  try clear c28
                  try clear c28b0
                  try clear c28b1
                  try clear c30
                  try clear c30b0
                  try clear c30b1
                  try clear p34
                  try clear q34
                  try clear hx34
                  try clear c36
                  try clear c37
                  try clear c38
                  try clear c39
                  try clear c40
                  try clear c41
                  try clear c41b0
                  try clear c42
                  try clear c42b0
                  try clear c43
                  try clear c43b0
                  try clear c44
                  try clear c44b0
                  try clear c44b1
                  try clear c45
                  try clear c45b0
                  try clear c45b1
                  try clear c51
                  try clear c51b0
                  try clear c52
                  try clear c52b0
                  try clear c53
                  try clear c53b0
                  try clear hx340_0
                  try clear hx341_0
                  try clear p2
                  try clear p340
                  try clear p341
                  try clear q340
                  try clear q341
                  obtain ⟨kq, x143_48, rfl, HA, HJ48, HB⟩ := hcut
                  cases kq with
                  | zero => exact absurd HA.out (by simp [laws_FnFew.j2])
                  | succ kj48 =>
                    have H := HA.out
                    clear HA
                    simp only [laws_FnFew.j2] at H
                    by_cases c59 : x143_48 = true
                    · subst c59
                      have H1 : (some false) = some r := by rw [if_pos rfl] at H; exact H
                      clear H
                      have H := H1
                      clear H1
                      as_aux_lemma =>
                        obtain rfl := Option.some.inj H
                        go_wp2
                        go_ret
                        exact ⟨by first | rfl | (simp [errW_none, errW_some] <;> rfl) | (simp [*, errW_none, errW_some] <;> rfl), by repeat (first | (with_reducible first | exact HB.out | apply below_alloc | apply pw_below_drewN | apply below_drew1) | exact HB.out)⟩
                    · replace c59 := Bool.eq_false_iff.mpr c59
                      subst c59
                      have H1 : ((impl_PairGenus.f kj48 t313 t314).bind fun t346 => (if t346 ≥ 0 then (if t313 ≤ 200 then (laws_FnFew.j3 kj48 t313 t314 t315 t320 t321 t322 t323 (decide (t314 ≤ 1000))) else (laws_FnFew.j3 kj48 t313 t314 t315 t320 t321 t322 t323 false)) else (laws_FnFew.j3 kj48 t313 t314 t315 t320 t321 t322 t323 false))) = some r := by rw [if_neg (show ¬ (false = true) by decide)] at H; exact H
                      clear H
                      have H := H1
                      clear H1
                      have HC60 := Aside0.mk H
                      clear H
                      go_upto_region 20 with (fail)
                      go_cut [155] (fun v155 wc => ∃ (kq : Nat) (x155_59 : Bool), v155 = .bool x155_59 ∧ Aside0 (laws_FnFew.j3 kq t313 t314 t315 t320 t321 t322 t323 x155_59 = some r) ∧ Aside0 (kq ≤ kj48) ∧ Aside0 (Below w.heap.size w wc))
                      case first =>
                        have H := HC60.out
                        clear HC60
                        replace H := Option.bind_eq_some_iff.mp H
                        obtain ⟨t346, A610, H⟩ := H
                        replace H : (if t346 ≥ 0 then (if t313 ≤ 200 then (laws_FnFew.j3 kj48 t313 t314 t315 t320 t321 t322 t323 (decide (t314 ≤ 1000))) else (laws_FnFew.j3 kj48 t313 t314 t315 t320 t321 t322 t323 false)) else (laws_FnFew.j3 kj48 t313 t314 t315 t320 t321 t322 t323 false)) = some r := H
                        have A61 := Aside0.mk A610
                        clear A610
                        by_cases c62 : t346 ≥ 0
                        · rw [if_pos c62] at H
                          have c62b0 : decide (0 ≤ t346) = true := decide_eq_true c62
                          clear c62
                          (first | rw [c62b0] | (simp only [i64_w, i32_w]; rw [c62b0]) | skip)
                          by_cases c63 : t313 ≤ 200
                          · rw [if_pos c63] at H
                            have c63b0 : decide (t313 ≤ 200) = true := decide_eq_true c63
                            clear c63
                            as_aux_lemma =>
                              have H' := Aside0.mk H
                              clear H
                              go_wp2_with (first | ((with_reducible refine gate_callee (f := 46) rfl ?_); refine goesL_ (some 146) rfl rfl Try.func46 (by kernel_rfl) rfl #[.int .i64 t313, .int .i64 t314] rfl (by (try simp only [List.map_toArray, List.map_cons, List.map_nil]); first | done | rfl | (simp only [List.length_drop, List.length_take]; rfl)) ?_; (with_reducible refine (impl_PairGenus.calls kj48 t313 t314 t346 _ A61.out).mono ?_); rintro e w64 ⟨rfl, hb⟩; refine ⟨_, rfl, ?_⟩; have n0_ := Aside0.mk (below_step (by repeat (first | (with_reducible first | exact HB.out | apply below_alloc | apply pw_below_drewN | apply below_drew1) | exact HB.out)) hb); clear HB; have HB := n0_; clear n0_; (try clear hb); (try clear hb2); (try clear hk); (try clear hi)))
                              go_meet
                              case rel => exact ⟨_, (decide (t314 ≤ 1000)), (by first | rfl | (simp; done) | (simp [*]; done)), H', ⟨by have := HJ11.out; have := HK2.out; have := HJ48.out; first | omega | exact Nat.le_refl _⟩, ⟨by repeat (first | (with_reducible first | exact HB.out | apply below_alloc | apply pw_below_drewN | apply below_drew1) | exact HB.out)⟩⟩
                          · rw [if_neg c63] at H
                            have c63b0 : decide (t313 ≤ 200) = false := decide_eq_false c63
                            clear c63
                            as_aux_lemma =>
                              have H' := Aside0.mk H
                              clear H
                              go_wp2_with (first | ((with_reducible refine gate_callee (f := 46) rfl ?_); refine goesL_ (some 146) rfl rfl Try.func46 (by kernel_rfl) rfl #[.int .i64 t313, .int .i64 t314] rfl (by (try simp only [List.map_toArray, List.map_cons, List.map_nil]); first | done | rfl | (simp only [List.length_drop, List.length_take]; rfl)) ?_; (with_reducible refine (impl_PairGenus.calls kj48 t313 t314 t346 _ A61.out).mono ?_); rintro e w65 ⟨rfl, hb⟩; refine ⟨_, rfl, ?_⟩; have n0_ := Aside0.mk (below_step (by repeat (first | (with_reducible first | exact HB.out | apply below_alloc | apply pw_below_drewN | apply below_drew1) | exact HB.out)) hb); clear HB; have HB := n0_; clear n0_; (try clear hb); (try clear hb2); (try clear hk); (try clear hi)))
                              go_meet
                              case rel => exact ⟨_, (false), (by first | rfl | (simp; done) | (simp [*]; done)), H', ⟨by have := HJ11.out; have := HK2.out; have := HJ48.out; first | omega | exact Nat.le_refl _⟩, ⟨by repeat (first | (with_reducible first | exact HB.out | apply below_alloc | apply pw_below_drewN | apply below_drew1) | exact HB.out)⟩⟩
                        · rw [if_neg c62] at H
                          have c62b0 : decide (0 ≤ t346) = false := decide_eq_false c62
                          clear c62
                          (first | rw [c62b0] | (simp only [i64_w, i32_w]; rw [c62b0]) | skip)
                          as_aux_lemma =>
                            have H' := Aside0.mk H
                            clear H
                            go_wp2_with (first | ((with_reducible refine gate_callee (f := 46) rfl ?_); refine goesL_ (some 146) rfl rfl Try.func46 (by kernel_rfl) rfl #[.int .i64 t313, .int .i64 t314] rfl (by (try simp only [List.map_toArray, List.map_cons, List.map_nil]); first | done | rfl | (simp only [List.length_drop, List.length_take]; rfl)) ?_; (with_reducible refine (impl_PairGenus.calls kj48 t313 t314 t346 _ A61.out).mono ?_); rintro e w66 ⟨rfl, hb⟩; refine ⟨_, rfl, ?_⟩; have n0_ := Aside0.mk (below_step (by repeat (first | (with_reducible first | exact HB.out | apply below_alloc | apply pw_below_drewN | apply below_drew1) | exact HB.out)) hb); clear HB; have HB := n0_; clear n0_; (try clear hb); (try clear hb2); (try clear hk); (try clear hi)))
                            go_meet
                            case rel => exact ⟨_, (false), (by first | rfl | (simp; done) | (simp [*]; done)), H', ⟨by have := HJ11.out; have := HK2.out; have := HJ48.out; first | omega | exact Nat.le_refl _⟩, ⟨by repeat (first | (with_reducible first | exact HB.out | apply below_alloc | apply pw_below_drewN | apply below_drew1) | exact HB.out)⟩⟩
                      case rest =>
                        clear HC60
                        try clear c1
                        try clear c2
                        try clear p2
                        try clear c3
                        try clear p3
                        try clear q3
                        try clear hx3
                        try clear c4
                        try clear c5
                        try clear c6
                        try clear p6
                        try clear c10
                        try clear c23
                        try clear c23b0
                        try clear c23b1
                        try clear c26
                        try clear c26b0
                        try clear c26b1
                        try clear c28
                        try clear c28b0
                        try clear c28b1
                        try clear c30
                        try clear c30b0
                        try clear c30b1
                        try clear p34
                        try clear q34
                        try clear hx34
                        try clear c36
                        try clear c37
                        try clear c38
                        try clear c39
                        try clear c40
                        try clear c41
                        try clear c41b0
                        try clear c42
                        try clear c42b0
                        try clear c43
                        try clear c43b0
                        try clear c44
                        try clear c44b0
                        try clear c44b1
                        try clear c45
                        try clear c45b0
                        try clear c45b1
                        try clear c46
                        try clear c51
                        try clear c51b0
                        try clear c52
                        try clear c52b0
                        try clear c53
                        try clear c53b0
                        try clear c59
                        try clear c62
                        try clear c62b0
                        try clear c63
                        try clear c63b0
                        try clear p64
                        try clear hx340_0
                        try clear hx341_0
                        try clear p2
                        try clear p3
                        try clear p34
                        try clear p340
                        try clear p341
                        try clear p6
                        try clear q3
                        try clear q34
                        try clear q340
                        try clear q341
                        obtain ⟨kq, x155_59, rfl, HA, HJ59, HB⟩ := hcut
                        cases kq with
                        | zero => exact absurd HA.out (by simp [laws_FnFew.j3])
                        | succ kj59 =>
                          have H := HA.out
                          clear HA
                          simp only [laws_FnFew.j3] at H
                          have HC67 := Aside0.mk H
                          clear H
                          go_upto_if 155 with (fail)
                          go_cut [] (fun wc => ∃ (kq : Nat), Aside0 (laws_FnFew.j5 kq t320 t321 t322 t323 = some r) ∧ Aside0 (kq ≤ kj59) ∧ Aside0 (Below w.heap.size w wc))
                          case first =>
                            have H := HC67.out
                            clear HC67
                            by_cases c68 : x155_59 = true
                            · subst c68
                              have H1 : ((impl_LeastInSum.f kj59 (([t314] : List Int)) t313).bind fun t350 => (laws_FnFew.l1 kj59 t313 t314 t315 t320 t321 t322 t323 t350 0 0 0)) = some r := by rw [if_pos rfl] at H; exact H
                              clear H
                              have H := H1
                              clear H1
                              obtain ⟨y347, hy347⟩ : ∃ y_ : List Int, y_ = (([t314] : List Int)) := ⟨_, rfl⟩
                              replace H : ((impl_LeastInSum.f kj59 y347 t313).bind fun t350 => (laws_FnFew.l1 kj59 t313 t314 t315 t320 t321 t322 t323 t350 0 0 0)) = some r := by first | (rw [hy347]; with_reducible exact H) | (have H2_ := (Option.bind_some _ _).symm.trans H; rw [hy347]; with_reducible exact H2_) | (have H2_ := (Option.bind_some _ _).symm.trans H; with_reducible exact H2_) | with_reducible exact H | (rw [hy347]; exact H) | exact H
                              have Ny347 := Aside0.mk hy347
                              clear hy347
                              replace H := Option.bind_eq_some_iff.mp H
                              obtain ⟨t350, A690, H⟩ := H
                              replace H : (laws_FnFew.l1 kj59 t313 t314 t315 t320 t321 t322 t323 t350 0 0 0) = some r := H
                              have A69 := Aside0.mk A690
                              clear A690
                              have H' := Aside0.mk H
                              clear H
                              go_wp2_with (first | ((with_reducible refine gate_dst (N := 157) rfl ?_); (try (refine gate_guard (by rfl) ?_; dsimp only)); refine Kd.R_lit (Kd.int .i64) _ 3 ?hg (N := 157) ?hd (xs := ([t314] : List Int)) (inner := [.int .i64 t314]) (ok := fun _ => True) (okp := fun _ => True) ?hr ?hp (fun _ hk => hk) trivial (Below.refl _ _) (Nat.le_refl _) (by simp) ?_; (case hd => rfl); (case hg => rfl); (case hr => first | (go_simp; done) | (go_simp; rfl)); (case hp => exact (Reps.one (show Kd.M (Kd.int .i64) _ _ _ t314 [.int .i64 t314] from rfl) (Reps.none _ _))); intro v348 w70 ho71 hb hg_ hnew_; clear hg_ hnew_; (first | rw [← Ny347.out] at ho71 | (simp only [Int.reduceToNat] at ho71; rw [← Ny347.out] at ho71)); have n0_ := Aside0.mk (Kd.R_lower ho71 (below_size (by repeat (first | (with_reducible first | exact HB.out | apply below_alloc | apply pw_below_drewN | apply below_drew1) | exact HB.out)))); have n1_ := Aside0.mk (below_step (by repeat (first | (with_reducible first | exact HB.out | apply below_alloc | apply pw_below_drewN | apply below_drew1) | exact HB.out)) hb); clear HB; have HO349 := n0_; have HB := n1_; clear n0_ n1_; clear hb ho71; obtain ⟨Ao72, co72, eo72⟩ := Kd.R_slice HO349.out; subst eo72) | ((with_reducible refine gate_callee (f := 44) rfl ?_); refine goesL_ (some 159) rfl rfl Try.func44 (by kernel_rfl) rfl #[.slice Ao72 y347.length co72, .int .i64 t313] rfl (by (try simp only [List.map_toArray, List.map_cons, List.map_nil]); first | done | rfl | (simp only [List.length_drop, List.length_take]; rfl)) ?_; (with_reducible refine (impl_LeastInSum.calls kj59 _ _ y347 t313 t350 _ ?side1 ?side2 A69.out).mono ?_); (case side1 => repeat (first | exact (Kd.R_reads' HO349.out).2.2 | (with_reducible refine Kd.C_alloc ?_ _) | (with_reducible refine Kd.C_drewN ?_ _) | (with_reducible refine Kd.C_drew ?_))); (case side2 => exact (Kd.R_reads' HO349.out).2.1); rintro e w73 ⟨v351, rfl, ho0, hb⟩; refine ⟨_, rfl, ?_⟩; have n0_ := Aside0.mk (Kd.R_elder' (by (with_reducible repeat (first | apply Kd.R_alloc | apply Kd.R_drewN | apply Kd.R_drew)); exact HO349.out) (Kd.R_base ho0) hb); have n1_ := Aside0.mk (Kd.R_lower (Kd.R_new' ho0 (Kd.R_lt (by (with_reducible repeat (first | apply Kd.R_alloc | apply Kd.R_drewN | apply Kd.R_drew)); exact HO349.out))) (below_size (by repeat (first | (with_reducible first | exact HB.out | apply below_alloc | apply pw_below_drewN | apply below_drew1) | exact HB.out)))); have n2_ := Aside0.mk (below_step (by repeat (first | (with_reducible first | exact HB.out | apply below_alloc | apply pw_below_drewN | apply below_drew1) | exact HB.out)) hb); clear HO349; clear HB; have HO349 := n0_; have HO352 := n1_; have HB := n2_; clear n0_ n1_ n2_; (try clear hb); (try clear hb2); (try clear hk); (try clear hi); (try clear ho0)))
                              go_loopg [19, 20, 21] kj59 (fun kq v19 v20 v21 w' => ∃ (x19_5 : Int) (x20_5 : Int) (x21_5 : Int), v19 = .int .i64 x19_5 ∧ v20 = .int .i64 x20_5 ∧ v21 = .int .i64 x21_5 ∧ Aside0 (laws_FnFew.l1 kq t313 t314 t315 t320 t321 t322 t323 t350 x19_5 x20_5 x21_5 = some r) ∧ Aside0 (kq ≤ kj59) ∧ Aside0 (Kd.R (Kd.int .i64) 3 w' w.heap.size (fun _ => True) v351 t350) ∧ Aside0 (Below w.heap.size w w'))
                              case atStart => exact ⟨(0), (0), (0), (by first | rfl | (simp; done) | (simp [*]; done)), (by first | rfl | (simp; done) | (simp [*]; done)), (by first | rfl | (simp; done) | (simp [*]; done)), H', ⟨Nat.le_refl _⟩, ⟨by (with_reducible repeat (first | apply Kd.R_alloc | apply Kd.R_drewN | apply Kd.R_drew)); exact Kd.R_mono HO352.out (fun _ hk => trivial)⟩, ⟨by repeat (first | (with_reducible first | exact HB.out | apply below_alloc | apply pw_below_drewN | apply below_drew1) | exact HB.out)⟩⟩
                              case round =>
                                clear H'
                                try clear c1
                                try clear c2
                                try clear p2
                                try clear c3
                                try clear p3
                                try clear q3
                                try clear hx3
                                try clear c4
                                try clear c5
                                try clear c6
                                try clear p6
                                try clear c10
                                try clear c23
                                try clear c23b0
                                try clear c23b1
                                try clear c26
                                try clear c26b0
                                try clear c26b1
                                try clear c28
                                try clear c28b0
                                try clear c28b1
                                try clear c30
                                try clear c30b0
                                try clear c30b1
                                try clear p34
                                try clear q34
                                try clear hx34
                                try clear c36
                                try clear c37
                                try clear c38
                                try clear c39
                                try clear c40
                                try clear c41
                                try clear c41b0
                                try clear c42
                                try clear c42b0
                                try clear c43
                                try clear c43b0
                                try clear c44
                                try clear c44b0
                                try clear c44b1
                                try clear c45
                                try clear c45b0
                                try clear c45b1
                                try clear c46
                                try clear c51
                                try clear c51b0
                                try clear c52
                                try clear c52b0
                                try clear c53
                                try clear c53b0
                                try clear c59
                                try clear c62
                                try clear c62b0
                                try clear c63
                                try clear c63b0
                                try clear p64
                                try clear c68
                                try clear hx340_0
                                try clear hx341_0
                                try clear p2
                                try clear p3
                                try clear p34
                                try clear p340
                                try clear p341
                                try clear p6
                                try clear p64
                                try clear q3
                                try clear q34
                                try clear q340
                                try clear q341
                                obtain ⟨x19_5, x20_5, x21_5, rfl, rfl, rfl, HA, HK5, HO_18, HB⟩ := hrel
                                cases gk with
                                | zero => exact absurd HA.out (by simp [laws_FnFew.l1])
                                | succ k5 =>
                                  have H := HA.out
                                  clear HA
                                  simp only [laws_FnFew.l1] at H
                                  by_cases c74 : x21_5 < (t350.length : Int)
                                  · rw [if_pos c74] at H
                                    have c74b0 : decide (x21_5 < (t350.length : Int)) = true := decide_eq_true c74
                                    clear c74
                                    (first | rw [c74b0] | (simp only [i64_w, i32_w]; rw [c74b0]) | skip)
                                    by_cases c75 : 0 ≤ x21_5
                                    · rw [if_pos c75] at H
                                      have c75b0 : decide (0 ≤ x21_5) = true := decide_eq_true c75
                                      clear c75
                                      obtain ⟨ji76, hji76⟩ : ∃ j_ : Int, (mx x19_5 (rd t350 x21_5)) = j_ := ⟨_, rfl⟩
                                      replace H : (if t313 = 0 then (none) else (laws_FnFew.l1 k5 t313 t314 t315 t320 t321 t322 t323 t350 ji76 (wrap64 (x20_5 + (wrap64 (Int.tdiv (rd t350 x21_5) t313)))) (wrap64 (x21_5 + 1)))) = some r := by first | (rw [hji76] at H; exact H) | (simp only [hji76] at H ⊢; exact H)
                                      have hji76_ : (if x19_5 < (rd t350 x21_5) then (rd t350 x21_5) else x19_5) = ji76 := hji76
                                      by_cases c77 : t313 = 0
                                      · rw [if_pos c77] at H
                                        exact absurd H (by simp)
                                      · rw [if_neg c77] at H
                                        have c77b0 : (t313 == 0) = false := beq_eq_false_iff_ne.mpr c77
                                        have c77b1 : (t313 != 0) = true := bne_iff_ne.mpr c77
                                        as_aux_lemma =>
                                          have H' := Aside0.mk H
                                          clear H
                                          obtain ⟨Ao78, co78, eo78⟩ := Kd.R_slice HO_18.out
                                          subst eo78
                                          have p353 : 0 ≤ (x21_5 : Int) := of_decide_eq_true (by first | (with_reducible assumption) | assumption)
                                          have q353 : x21_5 < (t350.length : Int) := of_decide_eq_true (by first | (with_reducible assumption) | assumption)
                                          obtain ⟨ad353, e353, hx353_0⟩ := Kd.at_int (Kd.R_reads' HO_18.out).2.2 x21_5 p353 q353
                                          cases e353
                                          replace p353 := eq_true p353
                                          replace q353 := eq_true q353
                                          have p354 : 0 ≤ (x21_5 : Int) := of_decide_eq_true (by first | (with_reducible assumption) | assumption)
                                          have q354 : x21_5 < (t350.length : Int) := of_decide_eq_true (by first | (with_reducible assumption) | assumption)
                                          obtain ⟨ad354, e354, hx354_0⟩ := Kd.at_int (Kd.R_reads' HO_18.out).2.2 x21_5 p354 q354
                                          obtain rfl : ad353 = ad354 := (by injection e354)
                                          replace p354 := eq_true p354
                                          replace q354 := eq_true q354
                                          go_wp2
                                          go_roundg k5
                                          case measure => have := HJ11.out; have := HK2.out; have := HJ48.out; have := HJ59.out; have := HK5.out; omega
                                          case rel => exact ⟨(ji76), (wrap64 (x20_5 + (wrap64 (Int.tdiv (rd t350 x21_5) t313)))), (wrap64 (x21_5 + 1)), (by first | rfl | (simp; done) | (simp only [← hji76] <;> (first | rfl | simp)) | (simp [*]; done)), (by first | rfl | (simp; done) | (simp [*]; done)), (by first | rfl | (simp; done) | (simp [*]; done)), H', ⟨by have := HJ11.out; have := HK2.out; have := HJ48.out; have := HJ59.out; have := HK5.out; omega⟩, ⟨by (with_reducible repeat (first | apply Kd.R_alloc | apply Kd.R_drewN | apply Kd.R_drew)); exact HO_18.out⟩, ⟨by repeat (first | (with_reducible first | exact HB.out | apply below_alloc | apply pw_below_drewN | apply below_drew1) | exact HB.out)⟩⟩
                                    · rw [if_neg c75] at H
                                      exact absurd H (by simp)
                                  · rw [if_neg c74] at H
                                    have c74b0 : decide (x21_5 < (t350.length : Int)) = false := decide_eq_false c74
                                    clear c74
                                    (first | rw [c74b0] | (simp only [i64_w, i32_w]; rw [c74b0]) | skip)
                                    by_cases c79 : (wrap64 (x19_5 - t313)) = t315
                                    · rw [if_pos c79] at H
                                      have c79b0 : ((wrap64 (x19_5 - t313)) == t315) = true := beq_iff_eq.mpr c79
                                      have c79b1 : ((wrap64 (x19_5 - t313)) != t315) = false := bne_eq_false_iff_eq.mpr c79
                                      clear c79
                                      replace H := Option.bind_eq_some_iff.mp H
                                      obtain ⟨t355, A800, H⟩ := H
                                      replace H : (if x20_5 = t355 then (laws_FnFew.j5 k5 t320 t321 t322 t323) else (some false)) = some r := H
                                      have A80 := Aside0.mk A800
                                      clear A800
                                      by_cases c81 : x20_5 = t355
                                      · rw [if_pos c81] at H
                                        have c81b0 : (x20_5 == t355) = true := beq_iff_eq.mpr c81
                                        have c81b1 : (x20_5 != t355) = false := bne_eq_false_iff_eq.mpr c81
                                        clear c81
                                        as_aux_lemma =>
                                          have H' := Aside0.mk H
                                          clear H
                                          obtain ⟨Ao82, co82, eo82⟩ := Kd.R_slice HO_18.out
                                          subst eo82
                                          go_wp2_with (first | (go_at_call 46; (with_reducible refine (impl_PairGenus.calls k5 t313 t314 t355 _ A80.out).mono ?_); rintro e w83 ⟨rfl, hb⟩; have n0_ := Aside0.mk (Kd.R_below (by (with_reducible repeat (first | apply Kd.R_alloc | apply Kd.R_drewN | apply Kd.R_drew)); exact HO_18.out) hb); have n1_ := Aside0.mk (below_step (by repeat (first | (with_reducible first | exact HB.out | apply below_alloc | apply pw_below_drewN | apply below_drew1) | exact HB.out)) hb); clear HO_18; clear HB; have HO_18 := n0_; have HB := n1_; clear n0_ n1_; (try clear hb); (try clear hb2); (try clear hk); (try clear hi)))
                                          go_meet
                                          case rel => exact ⟨_, H', ⟨by have := HJ11.out; have := HK2.out; have := HJ48.out; have := HJ59.out; have := HK5.out; first | omega | exact Nat.le_refl _⟩, ⟨by repeat (first | (with_reducible first | exact HB.out | apply below_alloc | apply pw_below_drewN | apply below_drew1) | exact HB.out)⟩⟩
                                      · rw [if_neg c81] at H
                                        have c81b0 : (x20_5 == t355) = false := beq_eq_false_iff_ne.mpr c81
                                        have c81b1 : (x20_5 != t355) = true := bne_iff_ne.mpr c81
                                        as_aux_lemma =>
                                          obtain rfl := Option.some.inj H
                                          obtain ⟨Ao84, co84, eo84⟩ := Kd.R_slice HO_18.out
                                          subst eo84
                                          go_wp2_with (first | (go_at_call 46; (with_reducible refine (impl_PairGenus.calls k5 t313 t314 t355 _ A80.out).mono ?_); rintro e w85 ⟨rfl, hb⟩; have n0_ := Aside0.mk (Kd.R_below (by (with_reducible repeat (first | apply Kd.R_alloc | apply Kd.R_drewN | apply Kd.R_drew)); exact HO_18.out) hb); have n1_ := Aside0.mk (below_step (by repeat (first | (with_reducible first | exact HB.out | apply below_alloc | apply pw_below_drewN | apply below_drew1) | exact HB.out)) hb); clear HO_18; clear HB; have HO_18 := n0_; have HB := n1_; clear n0_ n1_; (try clear hb); (try clear hb2); (try clear hk); (try clear hi)))
                                          go_ret
                                          exact ⟨by first | rfl | (simp [errW_none, errW_some] <;> rfl) | (simp [*, errW_none, errW_some] <;> rfl), by repeat (first | (with_reducible first | exact HB.out | apply below_alloc | apply pw_below_drewN | apply below_drew1) | exact HB.out)⟩
                                    · rw [if_neg c79] at H
                                      have c79b0 : ((wrap64 (x19_5 - t313)) == t315) = false := beq_eq_false_iff_ne.mpr c79
                                      have c79b1 : ((wrap64 (x19_5 - t313)) != t315) = true := bne_iff_ne.mpr c79
                                      as_aux_lemma =>
                                        obtain rfl := Option.some.inj H
                                        obtain ⟨Ao86, co86, eo86⟩ := Kd.R_slice HO_18.out
                                        subst eo86
                                        go_wp2
                                        go_ret
                                        exact ⟨by first | rfl | (simp [errW_none, errW_some] <;> rfl) | (simp [*, errW_none, errW_some] <;> rfl), by repeat (first | (with_reducible first | exact HB.out | apply below_alloc | apply pw_below_drewN | apply below_drew1) | exact HB.out)⟩
                            · replace c68 := Bool.eq_false_iff.mpr c68
                              subst c68
                              have H1 : (laws_FnFew.j5 kj59 t320 t321 t322 t323) = some r := by rw [if_neg (show ¬ (false = true) by decide)] at H; exact H
                              clear H
                              have H := H1
                              clear H1
                              as_aux_lemma =>
                                have H' := Aside0.mk H
                                clear H
                                go_wp2
                                go_meet
                                case rel => exact ⟨_, H', ⟨by have := HJ11.out; have := HK2.out; have := HJ48.out; have := HJ59.out; first | omega | exact Nat.le_refl _⟩, ⟨by repeat (first | (with_reducible first | exact HB.out | apply below_alloc | apply pw_below_drewN | apply below_drew1) | exact HB.out)⟩⟩
                          case rest =>
                            clear HC67
                            try clear c1
                            try clear c2
                            try clear p2
                            try clear c3
                            try clear p3
                            try clear q3
                            try clear hx3
                            try clear c4
                            try clear c5
                            try clear c6
                            try clear p6
                            try clear c7
                            try clear c8
                            try clear c10
                            try clear c23
                            try clear c23b0
                            try clear c23b1
                            try clear c26
                            try clear c26b0
                            try clear c26b1
                            try clear c28
                            try clear c28b0
                            try clear c28b1
                            try clear c30
                            try clear c30b0
                            try clear c30b1
                            try clear p34
                            try clear q34
                            try clear hx34
                            try clear p35
                            try clear q35
                            try clear hx35
                            try clear c36
                            try clear c37
                            try clear c38
                            try clear c39
                            try clear c40
                            try clear c41
                            try clear c41b0
                            try clear c42
                            try clear c42b0
                            try clear c43
                            try clear c43b0
                            try clear c44
                            try clear c44b0
                            try clear c44b1
                            try clear c45
                            try clear c45b0
                            try clear c45b1
                            try clear c46
                            try clear c51
                            try clear c51b0
                            try clear c52
                            try clear c52b0
                            try clear c53
                            try clear c53b0
                            try clear c59
                            try clear c62
                            try clear c62b0
                            try clear c63
                            try clear c63b0
                            try clear p64
                            try clear c68
                            try clear c74
                            try clear c74b0
                            try clear c75
                            try clear c75b0
                            try clear c77
                            try clear c77b0
                            try clear c77b1
                            try clear c79
                            try clear c79b0
                            try clear c79b1
                            try clear c81
                            try clear c81b0
                            try clear c81b1
                            try clear hx340_0
                            try clear hx341_0
                            try clear hx353_0
                            try clear hx354_0
                            try clear p2
                            try clear p3
                            try clear p34
                            try clear p340
                            try clear p341
                            try clear p353
                            try clear p354
                            try clear p6
                            try clear p64
                            try clear q3
                            try clear q34
                            try clear q340
                            try clear q341
                            try clear q353
                            try clear q354
                            obtain ⟨kq, HA, HJ66, HB⟩ := hcut
                            cases kq with
                            | zero => exact absurd HA.out (by simp [laws_FnFew.j5])
                            | succ kj66 =>
                              have H := HA.out
                              clear HA
                              simp only [laws_FnFew.j5] at H
                              have HC87 := Aside0.mk H
                              clear H
                              go_upto_region 31 with (fail)
                              go_cut [246] (fun v246 wc => ∃ (kq : Nat) (x246_86 : Bool), v246 = .bool x246_86 ∧ Aside0 (laws_FnFew.j6 kq t320 t321 t322 t323 x246_86 = some r) ∧ Aside0 (kq ≤ kj66) ∧ Aside0 (Below w.heap.size w wc))
                              case first =>
                                have H := HC87.out
                                clear HC87
                                by_cases c88 : t323 = (-1)
                                · rw [if_pos c88] at H
                                  have c88b0 : (t323 == (-1)) = true := beq_iff_eq.mpr c88
                                  have c88b1 : (t323 != (-1)) = false := bne_eq_false_iff_eq.mpr c88
                                  clear c88
                                  (first | rw [c88b0] | (simp only [i64_w, i32_w]; rw [c88b0]) | skip)
                                  by_cases c89 : t320 ≥ 2
                                  · rw [if_pos c89] at H
                                    have c89b0 : decide (2 ≤ t320) = true := decide_eq_true c89
                                    clear c89
                                    by_cases c90 : t321 ≥ 1
                                    · rw [if_pos c90] at H
                                      have c90b0 : decide (1 ≤ t321) = true := decide_eq_true c90
                                      clear c90
                                      by_cases c91 : t322 ≥ 1
                                      · rw [if_pos c91] at H
                                        have c91b0 : decide (1 ≤ t322) = true := decide_eq_true c91
                                        clear c91
                                        by_cases c92 : t320 > 200
                                        · rw [if_pos c92] at H
                                          have c92b0 : decide (200 < t320) = true := decide_eq_true c92
                                          clear c92
                                          as_aux_lemma =>
                                            have H' := Aside0.mk H
                                            clear H
                                            go_wp2
                                            go_meet
                                            case rel => exact ⟨_, (true), (by first | rfl | (simp; done) | (simp [*]; done)), H', ⟨by have := HJ11.out; have := HK2.out; have := HJ48.out; have := HJ59.out; have := HJ66.out; first | omega | exact Nat.le_refl _⟩, ⟨by repeat (first | (with_reducible first | exact HB.out | apply below_alloc | apply pw_below_drewN | apply below_drew1) | exact HB.out)⟩⟩
                                        · rw [if_neg c92] at H
                                          have c92b0 : decide (200 < t320) = false := decide_eq_false c92
                                          clear c92
                                          by_cases c93 : t320 < 2
                                          · rw [if_pos c93] at H
                                            have c93b0 : decide (t320 < 2) = true := decide_eq_true c93
                                            clear c93
                                            as_aux_lemma =>
                                              have H' := Aside0.mk H
                                              clear H
                                              go_wp2
                                              go_meet
                                              case rel => exact ⟨_, (true), (by first | rfl | (simp; done) | (simp [*]; done)), H', ⟨by have := HJ11.out; have := HK2.out; have := HJ48.out; have := HJ59.out; have := HJ66.out; first | omega | exact Nat.le_refl _⟩, ⟨by repeat (first | (with_reducible first | exact HB.out | apply below_alloc | apply pw_below_drewN | apply below_drew1) | exact HB.out)⟩⟩
                                          · rw [if_neg c93] at H
                                            have c93b0 : decide (t320 < 2) = false := decide_eq_false c93
                                            clear c93
                                            by_cases c94 : t321 < 1
                                            · rw [if_pos c94] at H
                                              have c94b0 : decide (t321 < 1) = true := decide_eq_true c94
                                              clear c94
                                              as_aux_lemma =>
                                                have H' := Aside0.mk H
                                                clear H
                                                go_wp2
                                                go_meet
                                                case rel => exact ⟨_, (true), (by first | rfl | (simp; done) | (simp [*]; done)), H', ⟨by have := HJ11.out; have := HK2.out; have := HJ48.out; have := HJ59.out; have := HJ66.out; first | omega | exact Nat.le_refl _⟩, ⟨by repeat (first | (with_reducible first | exact HB.out | apply below_alloc | apply pw_below_drewN | apply below_drew1) | exact HB.out)⟩⟩
                                            · rw [if_neg c94] at H
                                              have c94b0 : decide (t321 < 1) = false := decide_eq_false c94
                                              clear c94
                                              by_cases c95 : t322 < 1
                                              · rw [if_pos c95] at H
                                                have c95b0 : decide (t322 < 1) = true := decide_eq_true c95
                                                clear c95
                                                as_aux_lemma =>
                                                  have H' := Aside0.mk H
                                                  clear H
                                                  go_wp2
                                                  go_meet
                                                  case rel => exact ⟨_, (true), (by first | rfl | (simp; done) | (simp [*]; done)), H', ⟨by have := HJ11.out; have := HK2.out; have := HJ48.out; have := HJ59.out; have := HJ66.out; first | omega | exact Nat.le_refl _⟩, ⟨by repeat (first | (with_reducible first | exact HB.out | apply below_alloc | apply pw_below_drewN | apply below_drew1) | exact HB.out)⟩⟩
                                              · rw [if_neg c95] at H
                                                have c95b0 : decide (t322 < 1) = false := decide_eq_false c95
                                                clear c95
                                                by_cases c96 : t322 > (wrap64 (t320 - 1))
                                                · rw [if_pos c96] at H
                                                  have c96b0 : decide ((wrap64 (t320 - 1)) < t322) = true := decide_eq_true c96
                                                  clear c96
                                                  as_aux_lemma =>
                                                    have H' := Aside0.mk H
                                                    clear H
                                                    go_wp2
                                                    go_meet
                                                    case rel => exact ⟨_, (true), (by first | rfl | (simp; done) | (simp [*]; done)), H', ⟨by have := HJ11.out; have := HK2.out; have := HJ48.out; have := HJ59.out; have := HJ66.out; first | omega | exact Nat.le_refl _⟩, ⟨by repeat (first | (with_reducible first | exact HB.out | apply below_alloc | apply pw_below_drewN | apply below_drew1) | exact HB.out)⟩⟩
                                                · rw [if_neg c96] at H
                                                  have c96b0 : decide ((wrap64 (t320 - 1)) < t322) = false := decide_eq_false c96
                                                  clear c96
                                                  by_cases c97 : t322 > 18
                                                  · rw [if_pos c97] at H
                                                    have c97b0 : decide (18 < t322) = true := decide_eq_true c97
                                                    clear c97
                                                    as_aux_lemma =>
                                                      have H' := Aside0.mk H
                                                      clear H
                                                      go_wp2
                                                      go_meet
                                                      case rel => exact ⟨_, (true), (by first | rfl | (simp; done) | (simp [*]; done)), H', ⟨by have := HJ11.out; have := HK2.out; have := HJ48.out; have := HJ59.out; have := HJ66.out; first | omega | exact Nat.le_refl _⟩, ⟨by repeat (first | (with_reducible first | exact HB.out | apply below_alloc | apply pw_below_drewN | apply below_drew1) | exact HB.out)⟩⟩
                                                  · rw [if_neg c97] at H
                                                    have c97b0 : decide (18 < t322) = false := decide_eq_false c97
                                                    clear c97
                                                    by_cases c98 : (wrap64 (t320 + (wrap64 (t322 * t321)))) > 1000
                                                    · rw [if_pos c98] at H
                                                      have c98b0 : decide (1000 < (wrap64 (t320 + (wrap64 (t322 * t321))))) = true := decide_eq_true c98
                                                      clear c98
                                                      as_aux_lemma =>
                                                        have H' := Aside0.mk H
                                                        clear H
                                                        go_wp2
                                                        go_meet
                                                        case rel => exact ⟨_, (true), (by first | rfl | (simp; done) | (simp [*]; done)), H', ⟨by have := HJ11.out; have := HK2.out; have := HJ48.out; have := HJ59.out; have := HJ66.out; first | omega | exact Nat.le_refl _⟩, ⟨by repeat (first | (with_reducible first | exact HB.out | apply below_alloc | apply pw_below_drewN | apply below_drew1) | exact HB.out)⟩⟩
                                                    · rw [if_neg c98] at H
                                                      have c98b0 : decide (1000 < (wrap64 (t320 + (wrap64 (t322 * t321))))) = false := decide_eq_false c98
                                                      clear c98
                                                      replace H := Option.bind_eq_some_iff.mp H
                                                      obtain ⟨t356, A990, H⟩ := H
                                                      replace H : (laws_FnFew.j6 kj66 t320 t321 t322 t323 (t356 != 1)) = some r := H
                                                      have A99 := Aside0.mk A990
                                                      clear A990
                                                      as_aux_lemma =>
                                                        have H' := Aside0.mk H
                                                        clear H
                                                        go_wp2_with (first | (go_at_call 53; (with_reducible refine (spec_GcdOf.calls kj66 t320 t321 t356 _ A99.out).mono ?_); rintro e w' ⟨rfl, ⟨nd, rfl⟩⟩))
                                                        go_meet
                                                        case rel => exact ⟨_, ((t356 != 1)), (by first | rfl | (simp; done) | (simp [*]; done)), H', ⟨by have := HJ11.out; have := HK2.out; have := HJ48.out; have := HJ59.out; have := HJ66.out; first | omega | exact Nat.le_refl _⟩, ⟨by repeat (first | (with_reducible first | exact HB.out | apply below_alloc | apply pw_below_drewN | apply below_drew1) | exact HB.out)⟩⟩
                                      · rw [if_neg c91] at H
                                        have c91b0 : decide (1 ≤ t322) = false := decide_eq_false c91
                                        clear c91
                                        as_aux_lemma =>
                                          have H' := Aside0.mk H
                                          clear H
                                          go_wp2
                                          go_meet
                                          case rel => exact ⟨_, (true), (by first | rfl | (simp; done) | (simp [*]; done)), H', ⟨by have := HJ11.out; have := HK2.out; have := HJ48.out; have := HJ59.out; have := HJ66.out; first | omega | exact Nat.le_refl _⟩, ⟨by repeat (first | (with_reducible first | exact HB.out | apply below_alloc | apply pw_below_drewN | apply below_drew1) | exact HB.out)⟩⟩
                                    · rw [if_neg c90] at H
                                      have c90b0 : decide (1 ≤ t321) = false := decide_eq_false c90
                                      clear c90
                                      as_aux_lemma =>
                                        have H' := Aside0.mk H
                                        clear H
                                        go_wp2
                                        go_meet
                                        case rel => exact ⟨_, (true), (by first | rfl | (simp; done) | (simp [*]; done)), H', ⟨by have := HJ11.out; have := HK2.out; have := HJ48.out; have := HJ59.out; have := HJ66.out; first | omega | exact Nat.le_refl _⟩, ⟨by repeat (first | (with_reducible first | exact HB.out | apply below_alloc | apply pw_below_drewN | apply below_drew1) | exact HB.out)⟩⟩
                                  · rw [if_neg c89] at H
                                    have c89b0 : decide (2 ≤ t320) = false := decide_eq_false c89
                                    clear c89
                                    as_aux_lemma =>
                                      have H' := Aside0.mk H
                                      clear H
                                      go_wp2
                                      go_meet
                                      case rel => exact ⟨_, (true), (by first | rfl | (simp; done) | (simp [*]; done)), H', ⟨by have := HJ11.out; have := HK2.out; have := HJ48.out; have := HJ59.out; have := HJ66.out; first | omega | exact Nat.le_refl _⟩, ⟨by repeat (first | (with_reducible first | exact HB.out | apply below_alloc | apply pw_below_drewN | apply below_drew1) | exact HB.out)⟩⟩
                                · rw [if_neg c88] at H
                                  have c88b0 : (t323 == (-1)) = false := beq_eq_false_iff_ne.mpr c88
                                  have c88b1 : (t323 != (-1)) = true := bne_iff_ne.mpr c88
                                  (first | rw [c88b0] | (simp only [i64_w, i32_w]; rw [c88b0]) | skip)
                                  by_cases c100 : t320 > 200
                                  · rw [if_pos c100] at H
                                    have c100b0 : decide (200 < t320) = true := decide_eq_true c100
                                    clear c100
                                    as_aux_lemma =>
                                      have H' := Aside0.mk H
                                      clear H
                                      go_wp2
                                      go_meet
                                      case rel => exact ⟨_, (true), (by first | rfl | (simp; done) | (simp [*]; done)), H', ⟨by have := HJ11.out; have := HK2.out; have := HJ48.out; have := HJ59.out; have := HJ66.out; first | omega | exact Nat.le_refl _⟩, ⟨by repeat (first | (with_reducible first | exact HB.out | apply below_alloc | apply pw_below_drewN | apply below_drew1) | exact HB.out)⟩⟩
                                  · rw [if_neg c100] at H
                                    have c100b0 : decide (200 < t320) = false := decide_eq_false c100
                                    clear c100
                                    by_cases c101 : t320 < 2
                                    · rw [if_pos c101] at H
                                      have c101b0 : decide (t320 < 2) = true := decide_eq_true c101
                                      clear c101
                                      as_aux_lemma =>
                                        have H' := Aside0.mk H
                                        clear H
                                        go_wp2
                                        go_meet
                                        case rel => exact ⟨_, (true), (by first | rfl | (simp; done) | (simp [*]; done)), H', ⟨by have := HJ11.out; have := HK2.out; have := HJ48.out; have := HJ59.out; have := HJ66.out; first | omega | exact Nat.le_refl _⟩, ⟨by repeat (first | (with_reducible first | exact HB.out | apply below_alloc | apply pw_below_drewN | apply below_drew1) | exact HB.out)⟩⟩
                                    · rw [if_neg c101] at H
                                      have c101b0 : decide (t320 < 2) = false := decide_eq_false c101
                                      clear c101
                                      by_cases c102 : t321 < 1
                                      · rw [if_pos c102] at H
                                        have c102b0 : decide (t321 < 1) = true := decide_eq_true c102
                                        clear c102
                                        as_aux_lemma =>
                                          have H' := Aside0.mk H
                                          clear H
                                          go_wp2
                                          go_meet
                                          case rel => exact ⟨_, (true), (by first | rfl | (simp; done) | (simp [*]; done)), H', ⟨by have := HJ11.out; have := HK2.out; have := HJ48.out; have := HJ59.out; have := HJ66.out; first | omega | exact Nat.le_refl _⟩, ⟨by repeat (first | (with_reducible first | exact HB.out | apply below_alloc | apply pw_below_drewN | apply below_drew1) | exact HB.out)⟩⟩
                                      · rw [if_neg c102] at H
                                        have c102b0 : decide (t321 < 1) = false := decide_eq_false c102
                                        clear c102
                                        by_cases c103 : t322 < 1
                                        · rw [if_pos c103] at H
                                          have c103b0 : decide (t322 < 1) = true := decide_eq_true c103
                                          clear c103
                                          as_aux_lemma =>
                                            have H' := Aside0.mk H
                                            clear H
                                            go_wp2
                                            go_meet
                                            case rel => exact ⟨_, (true), (by first | rfl | (simp; done) | (simp [*]; done)), H', ⟨by have := HJ11.out; have := HK2.out; have := HJ48.out; have := HJ59.out; have := HJ66.out; first | omega | exact Nat.le_refl _⟩, ⟨by repeat (first | (with_reducible first | exact HB.out | apply below_alloc | apply pw_below_drewN | apply below_drew1) | exact HB.out)⟩⟩
                                        · rw [if_neg c103] at H
                                          have c103b0 : decide (t322 < 1) = false := decide_eq_false c103
                                          clear c103
                                          by_cases c104 : t322 > (wrap64 (t320 - 1))
                                          · rw [if_pos c104] at H
                                            have c104b0 : decide ((wrap64 (t320 - 1)) < t322) = true := decide_eq_true c104
                                            clear c104
                                            as_aux_lemma =>
                                              have H' := Aside0.mk H
                                              clear H
                                              go_wp2
                                              go_meet
                                              case rel => exact ⟨_, (true), (by first | rfl | (simp; done) | (simp [*]; done)), H', ⟨by have := HJ11.out; have := HK2.out; have := HJ48.out; have := HJ59.out; have := HJ66.out; first | omega | exact Nat.le_refl _⟩, ⟨by repeat (first | (with_reducible first | exact HB.out | apply below_alloc | apply pw_below_drewN | apply below_drew1) | exact HB.out)⟩⟩
                                          · rw [if_neg c104] at H
                                            have c104b0 : decide ((wrap64 (t320 - 1)) < t322) = false := decide_eq_false c104
                                            clear c104
                                            by_cases c105 : t322 > 18
                                            · rw [if_pos c105] at H
                                              have c105b0 : decide (18 < t322) = true := decide_eq_true c105
                                              clear c105
                                              as_aux_lemma =>
                                                have H' := Aside0.mk H
                                                clear H
                                                go_wp2
                                                go_meet
                                                case rel => exact ⟨_, (true), (by first | rfl | (simp; done) | (simp [*]; done)), H', ⟨by have := HJ11.out; have := HK2.out; have := HJ48.out; have := HJ59.out; have := HJ66.out; first | omega | exact Nat.le_refl _⟩, ⟨by repeat (first | (with_reducible first | exact HB.out | apply below_alloc | apply pw_below_drewN | apply below_drew1) | exact HB.out)⟩⟩
                                            · rw [if_neg c105] at H
                                              have c105b0 : decide (18 < t322) = false := decide_eq_false c105
                                              clear c105
                                              by_cases c106 : (wrap64 (t320 + (wrap64 (t322 * t321)))) > 1000
                                              · rw [if_pos c106] at H
                                                have c106b0 : decide (1000 < (wrap64 (t320 + (wrap64 (t322 * t321))))) = true := decide_eq_true c106
                                                clear c106
                                                as_aux_lemma =>
                                                  have H' := Aside0.mk H
                                                  clear H
                                                  go_wp2
                                                  go_meet
                                                  case rel => exact ⟨_, (true), (by first | rfl | (simp; done) | (simp [*]; done)), H', ⟨by have := HJ11.out; have := HK2.out; have := HJ48.out; have := HJ59.out; have := HJ66.out; first | omega | exact Nat.le_refl _⟩, ⟨by repeat (first | (with_reducible first | exact HB.out | apply below_alloc | apply pw_below_drewN | apply below_drew1) | exact HB.out)⟩⟩
                                              · rw [if_neg c106] at H
                                                have c106b0 : decide (1000 < (wrap64 (t320 + (wrap64 (t322 * t321))))) = false := decide_eq_false c106
                                                clear c106
                                                replace H := Option.bind_eq_some_iff.mp H
                                                obtain ⟨t357, A1070, H⟩ := H
                                                replace H : (laws_FnFew.j6 kj66 t320 t321 t322 t323 (t357 != 1)) = some r := H
                                                have A107 := Aside0.mk A1070
                                                clear A1070
                                                as_aux_lemma =>
                                                  have H' := Aside0.mk H
                                                  clear H
                                                  go_wp2_with (first | (go_at_call 53; (with_reducible refine (spec_GcdOf.calls kj66 t320 t321 t357 _ A107.out).mono ?_); rintro e w' ⟨rfl, ⟨nd, rfl⟩⟩))
                                                  go_meet
                                                  case rel => exact ⟨_, ((t357 != 1)), (by first | rfl | (simp; done) | (simp [*]; done)), H', ⟨by have := HJ11.out; have := HK2.out; have := HJ48.out; have := HJ59.out; have := HJ66.out; first | omega | exact Nat.le_refl _⟩, ⟨by repeat (first | (with_reducible first | exact HB.out | apply below_alloc | apply pw_below_drewN | apply below_drew1) | exact HB.out)⟩⟩
                              case rest =>
                                clear HC87
                                try clear c1
                                try clear c2
                                try clear p2
                                try clear c3
                                try clear p3
                                try clear q3
                                try clear hx3
                                try clear c4
                                try clear c5
                                try clear c6
                                try clear p6
                                try clear c7
                                try clear c8
                                try clear c9
                                try clear c10
                                try clear c23
                                try clear c23b0
                                try clear c23b1
                                try clear c26
                                try clear c26b0
                                try clear c26b1
                                try clear c28
                                try clear c28b0
                                try clear c28b1
                                try clear c30
                                try clear c30b0
                                try clear c30b1
                                try clear p34
                                try clear q34
                                try clear hx34
                                try clear p35
                                try clear q35
                                try clear hx35
                                try clear c36
                                try clear c37
                                try clear c38
                                try clear c39
                                try clear c40
                                try clear c41
                                try clear c41b0
                                try clear c42
                                try clear c42b0
                                try clear c43
                                try clear c43b0
                                try clear c44
                                try clear c44b0
                                try clear c44b1
                                try clear c45
                                try clear c45b0
                                try clear c45b1
                                try clear c46
                                try clear c51
                                try clear c51b0
                                try clear c52
                                try clear c52b0
                                try clear c53
                                try clear c53b0
                                try clear c59
                                try clear c62
                                try clear c62b0
                                try clear c63
                                try clear c63b0
                                try clear p64
                                try clear c68
                                try clear c74
                                try clear c74b0
                                try clear c75
                                try clear c75b0
                                try clear c77
                                try clear c77b0
                                try clear c77b1
                                try clear c79
                                try clear c79b0
                                try clear c79b1
                                try clear c81
                                try clear c81b0
                                try clear c81b1
                                try clear c88
                                try clear c88b0
                                try clear c88b1
                                try clear c89
                                try clear c89b0
                                try clear c90
                                try clear c90b0
                                try clear c91
                                try clear c91b0
                                try clear c92
                                try clear c92b0
                                try clear c93
                                try clear c93b0
                                try clear c94
                                try clear c94b0
                                try clear c95
                                try clear c95b0
                                try clear c96
                                try clear c96b0
                                try clear c97
                                try clear c97b0
                                try clear c98
                                try clear c98b0
                                try clear c100
                                try clear c100b0
                                try clear c101
                                try clear c101b0
                                try clear c102
                                try clear c102b0
                                try clear c103
                                try clear c103b0
                                try clear c104
                                try clear c104b0
                                try clear c105
                                try clear c105b0
                                try clear c106
                                try clear c106b0
                                try clear hx340_0
                                try clear hx341_0
                                try clear hx353_0
                                try clear hx354_0
                                try clear p2
                                try clear p3
                                try clear p34
                                try clear p340
                                try clear p341
                                try clear p35
                                try clear p353
                                try clear p354
                                try clear p6
                                try clear p64
                                try clear q3
                                try clear q34
                                try clear q340
                                try clear q341
                                try clear q35
                                try clear q353
                                try clear q354
                                obtain ⟨kq, x246_86, rfl, HA, HJ86, HB⟩ := hcut
                                cases kq with
                                | zero => exact absurd HA.out (by simp [laws_FnFew.j6])
                                | succ kj86 =>
                                  have H := HA.out
                                  clear HA
                                  simp only [laws_FnFew.j6] at H
                                  by_cases c108 : x246_86 = true
                                  · subst c108
                                    have H1 : (some true) = some r := by rw [if_pos rfl] at H; exact H
                                    clear H
                                    have H := H1
                                    clear H1
                                    as_aux_lemma =>
                                      obtain rfl := Option.some.inj H
                                      go_wp2
                                      go_ret
                                      exact ⟨by first | rfl | (simp [errW_none, errW_some] <;> rfl) | (simp [*, errW_none, errW_some] <;> rfl), by repeat (first | (with_reducible first | exact HB.out | apply below_alloc | apply pw_below_drewN | apply below_drew1) | exact HB.out)⟩
                                  · replace c108 := Bool.eq_false_iff.mpr c108
                                    subst c108
                                    have H1 : (laws_FnFew.l2 kj86 t320 t321 t322 t323 (([t320] : List Int)) 1) = some r := by rw [if_neg (show ¬ (false = true) by decide)] at H; exact H
                                    clear H
                                    have H := H1
                                    clear H1
                                    obtain ⟨y358, hy358⟩ : ∃ y_ : List Int, y_ = (([t320] : List Int)) := ⟨_, rfl⟩
                                    replace H : (laws_FnFew.l2 kj86 t320 t321 t322 t323 y358 1) = some r := by first | (rw [hy358]; with_reducible exact H) | (have H2_ := (Option.bind_some _ _).symm.trans H; rw [hy358]; with_reducible exact H2_) | (have H2_ := (Option.bind_some _ _).symm.trans H; with_reducible exact H2_) | with_reducible exact H | (rw [hy358]; exact H) | exact H
                                    have Ny358 := Aside0.mk hy358
                                    clear hy358
                                    have H' := Aside0.mk H
                                    clear H
                                    go_wp2_with (first | ((with_reducible refine gate_dst (N := 248) rfl ?_); (try (refine gate_guard (by rfl) ?_; dsimp only)); refine Kd.R_lit (Kd.int .i64) _ 3 ?hg (N := 248) ?hd (xs := ([t320] : List Int)) (inner := [.int .i64 t320]) (ok := fun _ => True) (okp := fun _ => True) ?hr ?hp (fun _ hk => hk) trivial (Below.refl _ _) (Nat.le_refl _) (by simp) ?_; (case hd => rfl); (case hg => rfl); (case hr => first | (go_simp; done) | (go_simp; rfl)); (case hp => exact (Reps.one (show Kd.M (Kd.int .i64) _ _ _ t320 [.int .i64 t320] from rfl) (Reps.none _ _))); intro v359 w109 ho110 hb hg_ hnew_; clear hg_ hnew_; (first | rw [← Ny358.out] at ho110 | (simp only [Int.reduceToNat] at ho110; rw [← Ny358.out] at ho110)); have n0_ := Aside0.mk (Kd.R_lower ho110 (below_size (by repeat (first | (with_reducible first | exact HB.out | apply below_alloc | apply pw_below_drewN | apply below_drew1) | exact HB.out)))); have n1_ := Aside0.mk (below_step (by repeat (first | (with_reducible first | exact HB.out | apply below_alloc | apply pw_below_drewN | apply below_drew1) | exact HB.out)) hb); clear HB; have HO360 := n0_; have HB := n1_; clear n0_ n1_; clear hb ho110))
                                    go_loopg [22, 23] kj86 (fun kq v22 v23 w' => ∃ (x22_7 : List Int) (x23_7 : Int), v23 = .int .i64 x23_7 ∧ Aside0 (laws_FnFew.l2 kq t320 t321 t322 t323 x22_7 x23_7 = some r) ∧ Aside0 (kq ≤ kj86) ∧ Aside0 (Kd.R (Kd.int .i64) 3 w' w.heap.size (fun _ => True) v22 x22_7) ∧ Aside0 (Below w.heap.size w w'))
                                    case atStart => exact ⟨(y358), (1), (by first | rfl | (simp; done) | (simp [*]; done)), H', ⟨Nat.le_refl _⟩, ⟨by (with_reducible repeat (first | apply Kd.R_alloc | apply Kd.R_drewN | apply Kd.R_drew)); exact HO360.out⟩, ⟨by repeat (first | (with_reducible first | exact HB.out | apply below_alloc | apply pw_below_drewN | apply below_drew1) | exact HB.out)⟩⟩
                                    case round =>
                                      clear H'
                                      try clear c1
                                      try clear c2
                                      try clear p2
                                      try clear c3
                                      try clear p3
                                      try clear q3
                                      try clear hx3
                                      try clear c4
                                      try clear c5
                                      try clear c6
                                      try clear p6
                                      try clear c7
                                      try clear c8
                                      try clear c9
                                      try clear c10
                                      try clear c23
                                      try clear c23b0
                                      try clear c23b1
                                      try clear c26
                                      try clear c26b0
                                      try clear c26b1
                                      try clear c28
                                      try clear c28b0
                                      try clear c28b1
                                      try clear c30
                                      try clear c30b0
                                      try clear c30b1
                                      try clear p34
                                      try clear q34
                                      try clear hx34
                                      try clear p35
                                      try clear q35
                                      try clear hx35
                                      try clear c36
                                      try clear c37
                                      try clear c38
                                      try clear c39
                                      try clear c40
                                      try clear c41
                                      try clear c41b0
                                      try clear c42
                                      try clear c42b0
                                      try clear c43
                                      try clear c43b0
                                      try clear c44
                                      try clear c44b0
                                      try clear c44b1
                                      try clear c45
                                      try clear c45b0
                                      try clear c45b1
                                      try clear c46
                                      try clear c51
                                      try clear c51b0
                                      try clear c52
                                      try clear c52b0
                                      try clear c53
                                      try clear c53b0
                                      try clear c59
                                      try clear c62
                                      try clear c62b0
                                      try clear c63
                                      try clear c63b0
                                      try clear p64
                                      try clear c68
                                      try clear c74
                                      try clear c74b0
                                      try clear c75
                                      try clear c75b0
                                      try clear c77
                                      try clear c77b0
                                      try clear c77b1
                                      try clear c79
                                      try clear c79b0
                                      try clear c79b1
                                      try clear c81
                                      try clear c81b0
                                      try clear c81b1
                                      try clear c88
                                      try clear c88b0
                                      try clear c88b1
                                      try clear c89
                                      try clear c89b0
                                      try clear c90
                                      try clear c90b0
                                      try clear c91
                                      try clear c91b0
                                      try clear c92
                                      try clear c92b0
                                      try clear c93
                                      try clear c93b0
                                      try clear c94
                                      try clear c94b0
                                      try clear c95
                                      try clear c95b0
                                      try clear c96
                                      try clear c96b0
                                      try clear c97
                                      try clear c97b0
                                      try clear c98
                                      try clear c98b0
                                      try clear c100
                                      try clear c100b0
                                      try clear c101
                                      try clear c101b0
                                      try clear c102
                                      try clear c102b0
                                      try clear c103
                                      try clear c103b0
                                      try clear c104
                                      try clear c104b0
                                      try clear c105
                                      try clear c105b0
                                      try clear c106
                                      try clear c106b0
                                      try clear c108
                                      try clear hx340_0
                                      try clear hx341_0
                                      try clear hx353_0
                                      try clear hx354_0
                                      try clear p2
                                      try clear p3
                                      try clear p34
                                      try clear p340
                                      try clear p341
                                      try clear p35
                                      try clear p353
                                      try clear p354
                                      try clear p6
                                      try clear p64
                                      try clear q3
                                      try clear q34
                                      try clear q340
                                      try clear q341
                                      try clear q35
                                      try clear q353
                                      try clear q354
                                      obtain ⟨x22_7, x23_7, rfl, HA, HK7, HO_22, HB⟩ := hrel
                                      cases gk with
                                      | zero => exact absurd HA.out (by simp [laws_FnFew.l2])
                                      | succ k7 =>
                                        have H := HA.out
                                        clear HA
                                        simp only [laws_FnFew.l2] at H
                                        by_cases c111 : x23_7 ≤ t322
                                        · rw [if_pos c111] at H
                                          have c111b0 : decide (x23_7 ≤ t322) = true := decide_eq_true c111
                                          clear c111
                                          by_cases c112 : x22_7.length < 17592186044416
                                          · rw [if_pos c112] at H
                                            have LMc112 := Aside0.mk c112
                                            clear c112
                                            obtain ⟨y361, hy361⟩ : ∃ y_ : List Int, y_ = (x22_7 ++ [wrap64 (t320 + (wrap64 (x23_7 * t321)))]) := ⟨_, rfl⟩
                                            replace H : (laws_FnFew.l2 k7 t320 t321 t322 t323 y361 (wrap64 (x23_7 + 1))) = some r := by first | (rw [hy361]; with_reducible exact H) | (have H2_ := (Option.bind_some _ _).symm.trans H; rw [hy361]; with_reducible exact H2_) | (have H2_ := (Option.bind_some _ _).symm.trans H; with_reducible exact H2_) | with_reducible exact H | (rw [hy361]; exact H) | exact H
                                            have Ny361 := Aside0.mk hy361
                                            clear hy361
                                            as_aux_lemma =>
                                              have H' := Aside0.mk H
                                              clear H
                                              go_wp2_with (first | ((with_reducible refine gate_builtin (b := .append) (xs := #[.tmp 254, .tmp 260]) rfl ?_); (try (refine gate_guard (by rfl) ?_; dsimp only)); at_builtin; refine Kd.R_append (Kd.int .i64) (w0 := w) w.heap.size rfl (.tmp 254) (.tmp 260) 22 3 (.int .i64 0) 8 rfl Try.underlying22 info3 rfl (by decide) (by omega) u22 x22_7 (wrap64 (t320 + (wrap64 (x23_7 * t321)))) [.int .i64 (wrap64 (t320 + (wrap64 (x23_7 * t321))))] (fun _ => True) (fun _ => False) rfl rfl ?aP (fun _ hk => hk.elim) ?aF ?aO ?aB ?aS ?aL ?_; (case aP => exact rfl); (case aB => exact (by repeat (first | (with_reducible first | exact HB.out | apply below_alloc | apply pw_below_drewN | apply below_drew1) | exact HB.out))); (case aF => exact (fun _ _ => trivial)); (case aO => exact (by (with_reducible repeat (first | apply Kd.R_alloc | apply Kd.R_drewN | apply Kd.R_drew)); exact HO_22.out)); (case aS => exact (below_size (by repeat (first | (with_reducible first | exact HB.out | apply below_alloc | apply pw_below_drewN | apply below_drew1) | exact HB.out)))); (case aL => have := LMc112.out; omega); intro v362 w113 ho hb hg hat; rw [← Ny361.out] at ho; have n0_ := Aside0.mk (hb); have n1_ := Aside0.mk (ho); clear HB; clear HO_22; have HB := n0_; have HO363 := n1_; clear n0_ n1_; clear ho hb hg hat))
                                              go_roundg k7
                                              case measure => have := HJ11.out; have := HK2.out; have := HJ48.out; have := HJ59.out; have := HJ66.out; have := HJ86.out; have := HK7.out; omega
                                              case rel => exact ⟨(y361), (wrap64 (x23_7 + 1)), (by first | rfl | (simp; done) | (simp [*]; done)), H', ⟨by have := HJ11.out; have := HK2.out; have := HJ48.out; have := HJ59.out; have := HJ66.out; have := HJ86.out; have := HK7.out; omega⟩, ⟨by (with_reducible repeat (first | apply Kd.R_alloc | apply Kd.R_drewN | apply Kd.R_drew)); exact HO363.out⟩, ⟨by repeat (first | (with_reducible first | exact HB.out | apply below_alloc | apply pw_below_drewN | apply below_drew1) | exact HB.out)⟩⟩
                                          · rw [if_neg c112] at H
                                            exact absurd H (by simp)
                                        · rw [if_neg c111] at H
                                          have c111b0 : decide (x23_7 ≤ t322) = false := decide_eq_false c111
                                          clear c111
                                          replace H := Option.bind_eq_some_iff.mp H
                                          obtain ⟨t364, A1140, H⟩ := H
                                          replace H : (laws_FnFew.l3 k7 t320 t323 0 t364 0) = some r := H
                                          have A114 := Aside0.mk A1140
                                          clear A1140
                                          have H' := Aside0.mk H
                                          clear H
                                          obtain ⟨Ao115, co115, eo115⟩ := Kd.R_slice HO_22.out
                                          subst eo115
                                          go_wp2_with (first | ((with_reducible refine gate_callee (f := 44) rfl ?_); refine goesL_ (some 264) rfl rfl Try.func44 (by kernel_rfl) rfl #[.slice Ao115 x22_7.length co115, .int .i64 t320] rfl (by (try simp only [List.map_toArray, List.map_cons, List.map_nil]); first | done | rfl | (simp only [List.length_drop, List.length_take]; rfl)) ?_; (with_reducible refine (impl_LeastInSum.calls k7 _ _ x22_7 t320 t364 _ ?side1 ?side2 A114.out).mono ?_); (case side1 => repeat (first | exact (Kd.R_reads' HO_22.out).2.2 | (with_reducible refine Kd.C_alloc ?_ _) | (with_reducible refine Kd.C_drewN ?_ _) | (with_reducible refine Kd.C_drew ?_))); (case side2 => exact (Kd.R_reads' HO_22.out).2.1); rintro e w116 ⟨v365, rfl, ho0, hb⟩; refine ⟨_, rfl, ?_⟩; have n0_ := Aside0.mk (Kd.R_elder' (by (with_reducible repeat (first | apply Kd.R_alloc | apply Kd.R_drewN | apply Kd.R_drew)); exact HO_22.out) (Kd.R_base ho0) hb); have n1_ := Aside0.mk (Kd.R_lower (Kd.R_new' ho0 (Kd.R_lt (by (with_reducible repeat (first | apply Kd.R_alloc | apply Kd.R_drewN | apply Kd.R_drew)); exact HO_22.out))) (below_size (by repeat (first | (with_reducible first | exact HB.out | apply below_alloc | apply pw_below_drewN | apply below_drew1) | exact HB.out)))); have n2_ := Aside0.mk (below_step (by repeat (first | (with_reducible first | exact HB.out | apply below_alloc | apply pw_below_drewN | apply below_drew1) | exact HB.out)) hb); clear HO_22; clear HB; have HO_22 := n0_; have HO366 := n1_; have HB := n2_; clear n0_ n1_ n2_; (try clear hb); (try clear hb2); (try clear hk); (try clear hi); (try clear ho0)))
                                          go_loopg [24, 26] k7 (fun kq v24 v26 w' => ∃ (x24_8 : Int) (x26_8 : Int), v24 = .int .i64 x24_8 ∧ v26 = .int .i64 x26_8 ∧ Aside0 (laws_FnFew.l3 kq t320 t323 x24_8 t364 x26_8 = some r) ∧ Aside0 (kq ≤ k7) ∧ Aside0 (Kd.R (Kd.int .i64) 3 w' w.heap.size (fun _ => True) v365 t364) ∧ Aside0 (Below w.heap.size w w'))
                                          case atStart => exact ⟨(0), (0), (by first | rfl | (simp; done) | (simp [*]; done)), (by first | rfl | (simp; done) | (simp [*]; done)), H', ⟨Nat.le_refl _⟩, ⟨by (with_reducible repeat (first | apply Kd.R_alloc | apply Kd.R_drewN | apply Kd.R_drew)); exact Kd.R_mono HO366.out (fun _ hk => trivial)⟩, ⟨by repeat (first | (with_reducible first | exact HB.out | apply below_alloc | apply pw_below_drewN | apply below_drew1) | exact HB.out)⟩⟩
                                          case round =>
                                            clear H'
                                            try clear c1
                                            try clear c2
                                            try clear p2
                                            try clear c3
                                            try clear p3
                                            try clear q3
                                            try clear hx3
                                            try clear c4
                                            try clear c5
                                            try clear c6
                                            try clear p6
                                            try clear c7
                                            try clear c8
                                            try clear c9
                                            try clear c10
                                            try clear c11
                                            try clear c23
                                            try clear c23b0
                                            try clear c23b1
                                            try clear c26
                                            try clear c26b0
                                            try clear c26b1
                                            try clear c28
                                            try clear c28b0
                                            try clear c28b1
                                            try clear c30
                                            try clear c30b0
                                            try clear c30b1
                                            try clear p34
                                            try clear q34
                                            try clear hx34
                                            try clear p35
                                            try clear q35
                                            try clear hx35
                                            try clear c36
                                            try clear c37
                                            try clear c38
                                            try clear c39
                                            try clear c40
                                            try clear c41
                                            try clear c41b0
                                            try clear c42
                                            try clear c42b0
                                            try clear c43
                                            try clear c43b0
                                            try clear c44
                                            try clear c44b0
                                            try clear c44b1
                                            try clear c45
                                            try clear c45b0
                                            try clear c45b1
                                            try clear c46
                                            try clear c51
                                            try clear c51b0
                                            try clear c52
                                            try clear c52b0
                                            try clear c53
                                            try clear c53b0
                                            try clear c59
                                            try clear c62
                                            try clear c62b0
                                            try clear c63
                                            try clear c63b0
                                            try clear p64
                                            try clear c68
                                            try clear c74
                                            try clear c74b0
                                            try clear c75
                                            try clear c75b0
                                            try clear c77
                                            try clear c77b0
                                            try clear c77b1
                                            try clear c79
                                            try clear c79b0
                                            try clear c79b1
                                            try clear c81
                                            try clear c81b0
                                            try clear c81b1
                                            try clear c88
                                            try clear c88b0
                                            try clear c88b1
                                            try clear c89
                                            try clear c89b0
                                            try clear c90
                                            try clear c90b0
                                            try clear c91
                                            try clear c91b0
                                            try clear c92
                                            try clear c92b0
                                            try clear c93
                                            try clear c93b0
                                            try clear c94
                                            try clear c94b0
                                            try clear c95
                                            try clear c95b0
                                            try clear c96
                                            try clear c96b0
                                            try clear c97
                                            try clear c97b0
                                            try clear c98
                                            try clear c98b0
                                            try clear c100
                                            try clear c100b0
                                            try clear c101
                                            try clear c101b0
                                            try clear c102
                                            try clear c102b0
                                            try clear c103
                                            try clear c103b0
                                            try clear c104
                                            try clear c104b0
                                            try clear c105
                                            try clear c105b0
                                            try clear c106
                                            try clear c106b0
                                            try clear c108
                                            try clear c111
                                            try clear c111b0
                                            try clear c112
                                            try clear hx340_0
                                            try clear hx341_0
                                            try clear hx353_0
                                            try clear hx354_0
                                            try clear p2
                                            try clear p3
                                            try clear p34
                                            try clear p340
                                            try clear p341
                                            try clear p35
                                            try clear p353
                                            try clear p354
                                            try clear p6
                                            try clear p64
                                            try clear q3
                                            try clear q34
                                            try clear q340
                                            try clear q341
                                            try clear q35
                                            try clear q353
                                            try clear q354
                                            obtain ⟨x24_8, x26_8, rfl, rfl, HA, HK8, HO_25, HB⟩ := hrel
                                            cases gk with
                                            | zero => exact absurd HA.out (by simp [laws_FnFew.l3])
                                            | succ k8 =>
                                              have H := HA.out
                                              clear HA
                                              simp only [laws_FnFew.l3] at H
                                              by_cases c117 : x26_8 < (t364.length : Int)
                                              · rw [if_pos c117] at H
                                                have c117b0 : decide (x26_8 < (t364.length : Int)) = true := decide_eq_true c117
                                                clear c117
                                                by_cases c118 : 0 ≤ x26_8
                                                · rw [if_pos c118] at H
                                                  have c118b0 : decide (0 ≤ x26_8) = true := decide_eq_true c118
                                                  clear c118
                                                  obtain ⟨ji119, hji119⟩ : ∃ j_ : Int, (mx x24_8 (rd t364 x26_8)) = j_ := ⟨_, rfl⟩
                                                  replace H : (laws_FnFew.l3 k8 t320 t323 ji119 t364 (wrap64 (x26_8 + 1))) = some r := by first | (rw [hji119] at H; exact H) | (simp only [hji119] at H ⊢; exact H)
                                                  have hji119_ : (if x24_8 < (rd t364 x26_8) then (rd t364 x26_8) else x24_8) = ji119 := hji119
                                                  as_aux_lemma =>
                                                    have H' := Aside0.mk H
                                                    clear H
                                                    obtain ⟨Ao120, co120, eo120⟩ := Kd.R_slice HO_25.out
                                                    subst eo120
                                                    have p367 : 0 ≤ (x26_8 : Int) := of_decide_eq_true (by first | (with_reducible assumption) | assumption)
                                                    have q367 : x26_8 < (t364.length : Int) := of_decide_eq_true (by first | (with_reducible assumption) | assumption)
                                                    obtain ⟨ad367, e367, hx367_0⟩ := Kd.at_int (Kd.R_reads' HO_25.out).2.2 x26_8 p367 q367
                                                    cases e367
                                                    replace p367 := eq_true p367
                                                    replace q367 := eq_true q367
                                                    go_wp2
                                                    go_roundg k8
                                                    case measure => have := HJ11.out; have := HK2.out; have := HJ48.out; have := HJ59.out; have := HJ66.out; have := HJ86.out; have := HK7.out; have := HK8.out; omega
                                                    case rel => exact ⟨(ji119), (wrap64 (x26_8 + 1)), (by first | rfl | (simp; done) | (simp only [← hji119] <;> (first | rfl | simp)) | (simp [*]; done)), (by first | rfl | (simp; done) | (simp [*]; done)), H', ⟨by have := HJ11.out; have := HK2.out; have := HJ48.out; have := HJ59.out; have := HJ66.out; have := HJ86.out; have := HK7.out; have := HK8.out; omega⟩, ⟨by (with_reducible repeat (first | apply Kd.R_alloc | apply Kd.R_drewN | apply Kd.R_drew)); exact HO_25.out⟩, ⟨by repeat (first | (with_reducible first | exact HB.out | apply below_alloc | apply pw_below_drewN | apply below_drew1) | exact HB.out)⟩⟩
                                                · rw [if_neg c118] at H
                                                  exact absurd H (by simp)
                                              · rw [if_neg c117] at H
                                                have c117b0 : decide (x26_8 < (t364.length : Int)) = false := decide_eq_false c117
                                                clear c117
                                                as_aux_lemma =>
                                                  obtain rfl := Option.some.inj H
                                                  obtain ⟨Ao121, co121, eo121⟩ := Kd.R_slice HO_25.out
                                                  subst eo121
                                                  go_wp2
                                                  go_ret
                                                  exact ⟨by first | rfl | (simp [errW_none, errW_some] <;> rfl) | (simp [*, errW_none, errW_some] <;> rfl), by repeat (first | (with_reducible first | exact HB.out | apply below_alloc | apply pw_below_drewN | apply below_drew1) | exact HB.out)⟩
def laws_FnFew.Pure : Prop := ∀ (l0 : List Int), l0.length ≤ maxLen → l0.length * 1 ≤ 140737488351232 → (∀ x ∈ l0, (Lit.int .u8 x).wf = true) → ∃ k, laws_FnFew.f k l0 = some true
theorem laws_FnFew.walk (P : laws_FnFew.Pure) (a0 : Option Addr) (len0 cap0 : Nat) (z0 : List Int) (w : World) (w0 : (a0 = none ∧ len0 = 0 ∧ cap0 = 0 ∧ z0 = []) ∨ ∃ x, a0 = some x ∧ len0 ≤ cap0 ∧ cap0 ≤ maxLen ∧ z0.length = cap0 ∧ (∀ i, i < z0.length → w.cell? (x.add i) = some (.int .u8 (z0.getD i 0))) ∧ ∀ n ∈ z0, (Lit.int .u8 n).wf = true) (y0 : len0 * 1 ≤ 140737488351232) :
    Calls Try.prog 10 #[.slice a0 len0 cap0] w fun e w' => e = .returned (.bool true) ∧ Below w.heap.size w w' := by
  obtain ⟨l0, rfl, hr0, hm0, hw0, hc0⟩ := ReadsInt.ofRowC w0
  obtain ⟨k, h⟩ := P l0 hm0 y0 hw0
  refine (laws_FnFew.calls k _ _ l0 true w (Kd.C_of_reads (d := (0 : Int)) (h1 := fun _ => rfl) hr0) hc0 h).mono ?_
  rintro e w' ⟨rfl, hd⟩
  exact ⟨rfl, hd⟩
end Go.Proofs.Ytkifakepmomgfaa.PA
end
