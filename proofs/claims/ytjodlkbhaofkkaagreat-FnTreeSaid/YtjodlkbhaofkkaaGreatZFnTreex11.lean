-- Bundled by shake.py from this session's printed and written texts; Lean checks it.
import Derived.Test.YtjodlkbhaofkkaaGreatZFnTreex10
import Derived.Test.YtjodlkbhaofkkaaGreatZFnTreex9
section
namespace Go.Proofs.YtjodlkbhaofkkaaGreat.PA
open Go.RowKit Go.Proofs.YtjodlkbhaofkkaaGreatW.PrintWords Go.Proofs.YtjodlkbhaofkkaaGreatW.PrintLast Go.Proofs.YtjodlkbhaofkkaaGreatW.PrintMore
attribute [local go_sem] ja jb j5 j6 hY hZ jc jd
set_option linter.unusedVariables false
set_option linter.unusedSimpArgs false
set_option maxHeartbeats 8000000
set_option maxRecDepth 100000
def cm.l0 : Nat → List (cT) → List (cT) → Int → Option (Bool)
 | 0, _, _, _ => none
 | k + 1, x0, x1, x5 => if x5 < (x0.length : Int) then (if 0 ≤ x5 then (if x5 < (x1.length : Int) then ((cP.f k ((cG x0 x5).f0) ((cG x1 x5).f0)).bind fun R2 => (if R2 = true then (cm.l0 k x0 x1 (wrap64 (x5 + 1))) else (some false))) else (none)) else (none)) else (some true)
def cm.f (k : Nat) (l0 : List (cT)) (l1 : List (cT)) : Option (Bool) := if (l0.length : Int) = (l1.length : Int) then (cm.l0 k l0 l1 0) else (some false)
def cm.T6 : Bool × List (List Nat × List Nat) := (true, [([], []), ([], []), ([0, 1], [0, 1]), ([2], [2]), ([], []), ([], []), ([4, 5], [4, 5]), ([6], [6]), ([3, 7], [3, 7]), ([8], [8])])
def cm.B6 : List Nat := [0, 0, 3, 7, 0, 0, 48, 112, 255, 511]
theorem cm.zj : gX .any (opsOf Tryz.f19 6) = cm.T6 := by kernel_rfl
theorem cm.rN : gm cm.T6.2 cm.B6 = true := by kernel_rfl
theorem cm.calls (k : Nat) (A0 : Option Addr) (c0 : Nat) (l0 : List (cT)) (A1 : Option Addr) (c1 : Nat) (l1 : List (cT)) (r : Bool) (w : World) (fH : Kd.C ix w A0 l0.length l0) (gL : l0.length ≤ c0) (uh : Kd.C ix w A1 l1.length l1) (Es : l1.length ≤ c1) (h : cm.f k l0 l1 = some r) :
 Calls Tryz.prog 19 #[.slice A0 l0.length c0, .slice A1 l1.length c1] w fun e w' => e = .returned (.bool r) ∧ Below w.heap.size w w' := by
 have kJ := Tryz.underlying26
 have eZ := aa.mk fH
 have jN := aa.mk gL
 clear fH gL
 have Et := aa.mk uh
 have HC1 := aa.mk Es
 clear uh Es
 have HB := aa.mk (Below.refl w.heap.size w)
 have H := h
 clear h
 unfold cm.f at H
 by_cases c3 : (l0.length : Int) = (l1.length : Int)
 rotate_left
 · rw [if_neg c3] at H
   have jD : ((l0.length : Int) == (l1.length : Int)) = false := beq_eq_false_iff_ne.mpr c3
   have ow : ((l0.length : Int) != (l1.length : Int)) = true := bne_iff_ne.mpr c3
   have uw : (l0.length == l1.length) = false := by first | simpa using c3 | (simp at c3 ⊢; omega)
   obtain rfl := Option.some.inj H
   go_enter Tryz.func19, Tryz.ntmps19
   go_wp2
   go_ret
   exact ⟨ig, gA HB.out⟩
 rw [if_pos c3] at H
 have jD : ((l0.length : Int) == (l1.length : Int)) = true := beq_iff_eq.mpr c3
 have ow : ((l0.length : Int) != (l1.length : Int)) = false := bne_eq_false_iff_eq.mpr c3
 have uw : (l0.length == l1.length) = true := by first | simpa using c3 | (simp at c3 ⊢; omega)
 clear c3
 have H' := aa.mk H
 clear H
 go_enter Tryz.func19, Tryz.ntmps19
 go_wp2
 go_loopg [5] k (fun kq v5 w' => ∃ (aJ : Int), v5 = .int .i64 aJ ∧ aa (cm.l0 kq l0 l1 aJ = some r) ∧ aa (kq ≤ k) ∧ aa (Below w.heap.size w w'))
 case atStart => exact ⟨(0), eF, H', ⟨Nat.le_refl _⟩, ⟨gA HB.out⟩⟩
 case round =>
  clear H'
  try clear c1
  try clear jD
  try clear ow
  try clear uw
  obtain ⟨aJ, rfl, HA, fu, HB⟩ := hrel
  cases gk with
  | zero => exact absurd HA.out (by simp [cm.l0])
  | succ k1 =>
   have H := HA.out
   clear HA
   simp only [cm.l0] at H
   by_cases c4 : aJ < (l0.length : Int)
   rotate_left
   · rw [if_neg c4] at H
     have kI : decide (aJ < (l0.length : Int)) = false := decide_eq_false c4
     clear c4
     obtain rfl := Option.some.inj H
     go_wp2
     go_ret
     exact ⟨ig, gA HB.out⟩
   rw [if_pos c4] at H
   have kI : decide (aJ < (l0.length : Int)) = true := decide_eq_true c4
   clear c4
   obtain ⟨qJ, H⟩ := dB H
   obtain ⟨pH, H⟩ := dB H
   obtain ⟨R2, A7, H⟩ := eA H
   by_cases c8 : R2 = true
   rotate_left
   · replace c8 := Bool.eq_false_iff.mpr c8
     subst c8
     rw [if_neg (show ¬ (false = true) by decide)] at H
     obtain rfl := Option.some.inj H
     try go_wp2
     replace HB := aa.mk (bD HB.out)
     have zV : 0 ≤ (aJ : Int) := bO
     have zW : aJ < (l0.length : Int) := bO
     obtain ⟨IG, uX, uY, R3, kD, r7, r8⟩ := mP eZ.out aJ zV zW
     have mf := kD
     cases R3
     (try replace kD := (HB.out.cell (World.block_lt_of_cell? w _ kD)).trans kD)
     have r9 := aa.mk r8
     have zX := aa.mk r7
     clear r8 r7
     replace zV := eq_true zV
     replace zW := eq_true zW
     have zY : 0 ≤ (aJ : Int) := bO
     have zZ : aJ < (l1.length : Int) := bO
     obtain ⟨IH, uZ, u0, R4, kE, se, sf⟩ := mP Et.out aJ zY zZ
     have mh := kE
     cases R4
     (try replace kE := (HB.out.cell (World.block_lt_of_cell? w _ kE)).trans kE)
     have si := aa.mk sf
     have z6 := aa.mk se
     clear sf se
     replace zY := eq_true zY
     replace zZ := eq_true zZ
     refine fy (n := 10) (S := fun w' => w'.cell? (IG.add (aJ).toNat) = some (.slice uX ((cG l0 aJ).f0).length uY) ∧ w'.cell? (IH.add (aJ).toNat) = some (.slice uZ ((cG l1 aJ).f0).length u0)) (ds := []) (B_ 0 10) (by kernel_rfl) rfl rfl ⟨((HB.out.cell (World.block_lt_of_cell? w _ mf)).trans mf), ((HB.out.cell (World.block_lt_of_cell? w _ mh)).trans mh)⟩ (fun hHeld => ?_); refine dv cm.zj cm.rN (fun HT_ HW_ => ?_)
     generalize wr.drew = Bn at HB r9 si kD kE hHeld ⊢
     refine b5 HT_ 0 17 (B_ 1 10) ?_
     refine b5 HT_ 1 18 (B_ 3 10) ?_
     refine b5 HT_ 2 19 (B_ 7 10) ?_
     refine b5 HT_ 4 21 (B_ 23 10) ?_
     refine b5 HT_ 5 22 (B_ 55 10) ?_
     refine b5 HT_ 6 23 (B_ 119 10) ?_
     refine ni HT_ HW_ hHeld 3 20 (B_ 127 10) ?_
     refine ni HT_ HW_ hHeld 7 24 (B_ 255 10) ?_
     refine o2 HT_ 8 25 (B_ 511 10) (fun K hK => ?_)
     refine gu Tryz.func18 (by kernel_rfl) rfl #[.agg #[.slice uX ((cG l0 aJ).f0).length uY], .agg #[.slice uZ ((cG l1 aJ).f0).length u0]] (by rfl) rfl rfl (by (try simp only [List.map_toArray, List.map_cons, List.map_nil]); first | done | rfl | (simp only [List.length_drop, List.length_take]; rfl)) ?_
     with_reducible refine (cP.calls k1 _ _ ((cG l0 aJ).f0) _ _ ((cG l1 aJ).f0) false _ ?ah ?aj ?fB ?hD A7.out).mono ?_
     (case ah => exact iZ r9 HB)
     (case aj => exact zX.out)
     (case fB => exact iZ si HB)
     (case hD => exact z6.out)
     rintro e w12 ⟨rfl, hb⟩
     refine ⟨_, rfl, ?_⟩
     replace HB := jL HB hb
     (try clear hb)
     refine hK.out _ _ ⟨((HB.out.cell (World.block_lt_of_cell? w _ mf)).trans mf), ((HB.out.cell (World.block_lt_of_cell? w _ mh)).trans mh)⟩ (fun hHeld => ?_)
     clear hK K
     refine ep (a' := ?_) ?_ ?_
     rotate_left
     · show Act.put _ (some 25) _ = _
       simp only [Act.put, jK, jA, jB, b6, dw]
       rfl
     refine b5 HT_ 9 26 (B_ 1023 10) ?_
     refine ik (eS HT_.out (by kernel_rfl)) ?_
     try go_wp2
     go_ret
     exact ⟨ig, gA HB.out⟩
   subst c8
   rw [if_pos rfl] at H
   have H' := aa.mk H
   clear H
   try go_wp2
   replace HB := aa.mk (bD HB.out)
   have zV : 0 ≤ (aJ : Int) := bO
   have zW : aJ < (l0.length : Int) := bO
   obtain ⟨IG, uX, uY, R3, kD, r7, r8⟩ := mP eZ.out aJ zV zW
   have mf := kD
   cases R3
   (try replace kD := (HB.out.cell (World.block_lt_of_cell? w _ kD)).trans kD)
   have r9 := aa.mk r8
   have zX := aa.mk r7
   clear r8 r7
   replace zV := eq_true zV
   replace zW := eq_true zW
   have zY : 0 ≤ (aJ : Int) := bO
   have zZ : aJ < (l1.length : Int) := bO
   obtain ⟨IH, uZ, u0, R4, kE, se, sf⟩ := mP Et.out aJ zY zZ
   have mh := kE
   cases R4
   (try replace kE := (HB.out.cell (World.block_lt_of_cell? w _ kE)).trans kE)
   have si := aa.mk sf
   have z6 := aa.mk se
   clear sf se
   replace zY := eq_true zY
   replace zZ := eq_true zZ
   refine fy (n := 10) (S := fun w' => w'.cell? (IG.add (aJ).toNat) = some (.slice uX ((cG l0 aJ).f0).length uY) ∧ w'.cell? (IH.add (aJ).toNat) = some (.slice uZ ((cG l1 aJ).f0).length u0)) (ds := []) (B_ 0 10) (by kernel_rfl) rfl rfl ⟨((HB.out.cell (World.block_lt_of_cell? w _ mf)).trans mf), ((HB.out.cell (World.block_lt_of_cell? w _ mh)).trans mh)⟩ (fun hHeld => ?_); refine dv cm.zj cm.rN (fun HT_ HW_ => ?_)
   generalize wr.drew = w9 at HB r9 si kD kE hHeld ⊢
   refine b5 HT_ 0 17 (B_ 1 10) ?_
   refine b5 HT_ 1 18 (B_ 3 10) ?_
   refine b5 HT_ 2 19 (B_ 7 10) ?_
   refine b5 HT_ 4 21 (B_ 23 10) ?_
   refine b5 HT_ 5 22 (B_ 55 10) ?_
   refine b5 HT_ 6 23 (B_ 119 10) ?_
   refine ni HT_ HW_ hHeld 3 20 (B_ 127 10) ?_
   refine ni HT_ HW_ hHeld 7 24 (B_ 255 10) ?_
   refine o2 HT_ 8 25 (B_ 511 10) (fun K hK => ?_)
   refine gu Tryz.func18 (by kernel_rfl) rfl #[.agg #[.slice uX ((cG l0 aJ).f0).length uY], .agg #[.slice uZ ((cG l1 aJ).f0).length u0]] (by rfl) rfl rfl (by (try simp only [List.map_toArray, List.map_cons, List.map_nil]); first | done | rfl | (simp only [List.length_drop, List.length_take]; rfl)) ?_
   with_reducible refine (cP.calls k1 _ _ ((cG l0 aJ).f0) _ _ ((cG l1 aJ).f0) true _ ?ah ?aj ?fB ?hD A7.out).mono ?_
   (case ah => exact iZ r9 HB)
   (case aj => exact zX.out)
   (case fB => exact iZ si HB)
   (case hD => exact z6.out)
   rintro e Ju ⟨rfl, hb⟩
   refine ⟨_, rfl, ?_⟩
   replace HB := jL HB hb
   (try clear hb)
   refine hK.out _ _ ⟨((HB.out.cell (World.block_lt_of_cell? w _ mf)).trans mf), ((HB.out.cell (World.block_lt_of_cell? w _ mh)).trans mh)⟩ (fun hHeld => ?_)
   clear hK K
   refine ep (a' := ?_) ?_ ?_
   rotate_left
   · show Act.put _ (some 25) _ = _
     simp only [Act.put, jK, jA, jB, b6, dw]
     rfl
   refine b5 HT_ 9 26 (B_ 1023 10) ?_
   refine ik (eS HT_.out (by kernel_rfl)) ?_
   try go_wp2
   go_roundg k1
   case measure => have := fu.out; omega
   case rel => exact ⟨(wrap64 (aJ + 1)), eF, H', ⟨by have := fu.out; omega⟩, ⟨gA HB.out⟩⟩
def eb.l0 : Nat → List Int → List Int → Int → Option (Bool)
 | 0, _, _, _ => none
 | k + 1, x0, x1, x5 => if x5 < (x0.length : Int) then (if 0 ≤ x5 then (if x5 < (x1.length : Int) then (if (rd x0 x5) = (rd x1 x5) then (eb.l0 k x0 x1 (wrap64 (x5 + 1))) else (some (decide ((rd x0 x5) < (rd x1 x5))))) else (none)) else (none)) else (some false)
def eb.f (k : Nat) (l0 : List Int) (l1 : List Int) : Option (Bool) := if (l0.length : Int) = (l1.length : Int) then (eb.l0 k l0 l1 0) else (some (decide ((l0.length : Int) < (l1.length : Int))))
theorem eb.calls (k : Nat) (A0 : Option Addr) (c0 : Nat) (l0 : List Int) (A1 : Option Addr) (c1 : Nat) (l1 : List Int) (r : Bool) (w : World) (fH : Kd.C (Kd.int .i64) w A0 l0.length l0) (gL : l0.length ≤ c0) (uh : Kd.C (Kd.int .i64) w A1 l1.length l1) (Es : l1.length ≤ c1) (h : eb.f k l0 l1 = some r) :
 Calls Tryz.prog 100 #[.slice A0 l0.length c0, .slice A1 l1.length c1] w fun e w' => e = .returned (.bool r) ∧ av w w' := by
 have eZ := aa.mk fH
 have jN := aa.mk gL
 clear fH gL
 have Et := aa.mk uh
 have HC1 := aa.mk Es
 clear uh Es
 have H := h
 clear h
 unfold eb.f at H
 by_cases c3 : (l0.length : Int) = (l1.length : Int)
 rotate_left
 · rw [if_neg c3] at H
   have jD : ((l0.length : Int) == (l1.length : Int)) = false := beq_eq_false_iff_ne.mpr c3
   have ow : ((l0.length : Int) != (l1.length : Int)) = true := bne_iff_ne.mpr c3
   have uw : (l0.length == l1.length) = false := by first | simpa using c3 | (simp at c3 ⊢; omega)
   obtain rfl := Option.some.inj H
   go_enter Tryz.func100, Tryz.ntmps100
   go_wp2
   repeat (go_quiet (fail); try go_wp2)
   go_ret
   exact ⟨by first | rfl | (simp; done) | (simp [*]; done), by repeat (first | exact av.refl _ | apply av.step)⟩
 rw [if_pos c3] at H
 have jD : ((l0.length : Int) == (l1.length : Int)) = true := beq_iff_eq.mpr c3
 have ow : ((l0.length : Int) != (l1.length : Int)) = false := bne_eq_false_iff_eq.mpr c3
 have uw : (l0.length == l1.length) = true := by first | simpa using c3 | (simp at c3 ⊢; omega)
 clear c3
 have H' := aa.mk H
 clear H
 go_enter Tryz.func100, Tryz.ntmps100
 go_wp2
 repeat (go_quiet (fail); try go_wp2)
 go_loopg [5] k (fun kq v5 w' => ∃ (aJ : Int), v5 = .int .i64 aJ ∧ aa (eb.l0 kq l0 l1 aJ = some r) ∧ aa (kq ≤ k) ∧ av w w')
 case atStart => exact ⟨(0), eF, H', ⟨Nat.le_refl _⟩, by repeat (first | exact av.refl _ | apply av.step)⟩
 case round =>
  clear H'
  try clear c1
  try clear jD
  try clear ow
  try clear uw
  obtain ⟨aJ, rfl, HA, fu, ⟨m1, rfl⟩⟩ := hrel
  cases gk with
  | zero => exact absurd HA.out (by simp [eb.l0])
  | succ k1 =>
   have H := HA.out
   clear HA
   simp only [eb.l0] at H
   by_cases c4 : aJ < (l0.length : Int)
   rotate_left
   · rw [if_neg c4] at H
     have kI : decide (aJ < (l0.length : Int)) = false := decide_eq_false c4
     clear c4
     obtain rfl := Option.some.inj H
     go_wp2
     repeat (go_quiet (fail); try go_wp2)
     go_ret
     exact ⟨by first | rfl | (simp; done) | (simp [*]; done), by repeat (first | exact av.refl _ | apply av.step)⟩
   rw [if_pos c4] at H
   have kI : decide (aJ < (l0.length : Int)) = true := decide_eq_true c4
   clear c4
   obtain ⟨qJ, H⟩ := dB H
   obtain ⟨pH, H⟩ := dB H
   by_cases c7 : (rd l0 aJ) = (rd l1 aJ)
   · rw [if_pos c7] at H
     have oO : ((rd l0 aJ) == (rd l1 aJ)) = true := beq_iff_eq.mpr c7
     have xB : ((rd l0 aJ) != (rd l1 aJ)) = false := bne_eq_false_iff_eq.mpr c7
     clear c7
     have H' := aa.mk H
     clear H
     have z7 : 0 ≤ (aJ : Int) := bO
     have z8 : aJ < (l0.length : Int) := bO
     obtain ⟨R5, R6, R7⟩ := Kd.aZ eZ.out aJ z7 z8
     cases R6
     replace z7 := eq_true z7
     replace z8 := eq_true z8
     have z_ : 0 ≤ (aJ : Int) := bO
     have Aa : aJ < (l1.length : Int) := bO
     obtain ⟨R8, R9, R_⟩ := Kd.aZ Et.out aJ z_ Aa
     cases R9
     replace z_ := eq_true z_
     replace Aa := eq_true Aa
     go_wp2
     repeat (go_quiet (fail); try go_wp2)
     go_roundg k1
     case measure => have := fu.out; omega
     case rel => exact ⟨(wrap64 (aJ + 1)), eF, H', ⟨by have := fu.out; omega⟩, by repeat (first | exact av.refl _ | apply av.step)⟩
   rw [if_neg c7] at H
   have oO : ((rd l0 aJ) == (rd l1 aJ)) = false := beq_eq_false_iff_ne.mpr c7
   have xB : ((rd l0 aJ) != (rd l1 aJ)) = true := bne_iff_ne.mpr c7
   obtain rfl := Option.some.inj H
   have z7 : 0 ≤ (aJ : Int) := bO
   have z8 : aJ < (l0.length : Int) := bO
   obtain ⟨R5, R6, R7⟩ := Kd.aZ eZ.out aJ z7 z8
   cases R6
   replace z7 := eq_true z7
   replace z8 := eq_true z8
   have z_ : 0 ≤ (aJ : Int) := bO
   have Aa : aJ < (l1.length : Int) := bO
   obtain ⟨R8, R9, R_⟩ := Kd.aZ Et.out aJ z_ Aa
   cases R9
   replace z_ := eq_true z_
   replace Aa := eq_true Aa
   have Sa : 0 ≤ (aJ : Int) := bO
   have Sb : aJ < (l0.length : Int) := bO
   obtain ⟨aeG, amb, amc⟩ := Kd.aZ eZ.out aJ Sa Sb
   obtain rfl : R5 = aeG := (by injection amb)
   replace Sa := eq_true Sa
   replace Sb := eq_true Sb
   have Sc : 0 ≤ (aJ : Int) := bO
   have Sd : aJ < (l1.length : Int) := bO
   obtain ⟨aeH, amd, ame⟩ := Kd.aZ Et.out aJ Sc Sd
   obtain rfl : R8 = aeH := (by injection amd)
   replace Sc := eq_true Sc
   replace Sd := eq_true Sd
   go_wp2
   repeat (go_quiet (fail); try go_wp2)
   go_ret
   exact ⟨by first | rfl | (simp; done) | (simp [*]; done), by repeat (first | exact av.refl _ | apply av.step)⟩
def fx.l0 : Nat → List (cT) → List Int → Int → Option (Int)
 | 0, _, _, _ => none
 | k + 1, x0, x5, x6 => if x6 < (x0.length : Int) then (if 0 ≤ x6 then ((bA.f k ((cG x0 x6).f0)).bind fun KK => ((eb.f k KK x5).bind fun Se => (if Se = true then (fx.l0 k x0 x5 (wrap64 (x6 + 1))) else (if x6 ≤ (x0.length : Int) then (if (([] : List (cT))).length + (x0.drop (x6 : Int).toNat).length < 5864062014805 then (some x6) else (none)) else (none))))) else (none)) else (if 0 ≤ x6 then (if x6 ≤ (x0.length : Int) then (if (([] : List (cT))).length + (x0.drop (x6 : Int).toNat).length < 5864062014805 then (some x6) else (none)) else (none)) else (none))
def fx.f (k : Nat) (l0 : List (cT)) (jg : List Int) : Option (Int) := (bA.f k jg).bind fun BU => (fx.l0 k l0 BU 0)
theorem Wy {α : Type} (d : Kd α) (W : World) (ok : Nat → Prop) (A : Option Addr) : Kd.F d W ok A ([] : List α).length [] := fun _ _ => ⟨rfl, Nat.zero_le _, fun h => absurd h (Nat.lt_irrefl _)⟩
theorem KL {W : World} {g : Nat} {u v : Value} (h : v.ownBlock = u.ownBlock ∨ ∃ b, v.ownBlock = some b ∧ W.heap.size ≤ b) (hu : some g ≠ u.ownBlock) (hg : g < W.heap.size) : some g ≠ v.ownBlock := by
 rcases h with h | ⟨b, hb, hle⟩
 · rw [h]; exact hu
 · rw [hb]; intro e; injection e with e; omega
theorem Sf {w W7 w40 w41 Yi : World} {u v41 v42 : Value} (h1 : Below w.heap.size w W7) (h2 : Below W7.heap.size W7 w40) (h3 : w40.grownBy w41 u.ownBlock) (h4 : v41.ownBlock = u.ownBlock ∨ ∃ b, v41.ownBlock = some b ∧ w40.heap.size ≤ b) (h5 : w41.grownBy Yi v41.ownBlock) (h6 : v42.ownBlock = v41.ownBlock ∨ ∃ b, v42.ownBlock = some b ∧ w41.heap.size ≤ b) : w.grownBy Yi u.ownBlock ∧ (v42.ownBlock = u.ownBlock ∨ ∃ b, v42.ownBlock = some b ∧ w.heap.size ≤ b) := by
 have s1 := h1.size
 have s2 := h2.size
 have s3 := h3.size
 have s4 := h5.size
 refine ⟨⟨h5.os.trans (h3.os.trans (h2.os.trans h1.os)), h5.tape.trans (h3.tape.trans (h2.tape.trans h1.tape)), h5.output.trans (h3.output.trans (h2.output.trans h1.output)), by omega, fun k hk hne => ?_⟩, ?_⟩
 · have n41 : some k ≠ v41.ownBlock := KL h4 hne (by omega)
   exact (h5.block k (by omega) n41).trans ((h3.block k (by omega) hne).trans ((h2.block k (by omega)).trans (h1.block k hk)))
 · rcases h6 with h6 | ⟨b, hb, hle⟩
   · rcases h4 with h4 | ⟨b, hb, hle⟩
     · exact .inl (h6.trans h4)
     · exact .inr ⟨b, h6.trans hb, by omega⟩
   · exact .inr ⟨b, hb, by omega⟩
theorem fx.calls (k : Nat) (base : Nat) (Dz : Nat → Prop) (u : Value) (l0 : List (cT)) (nX : Option Addr) (nY : Nat) (jg t_ : List Int) (r : Int) (wb w : World) (hBb : Below base wb w) (hbase : base ≤ w.heap.size) (hfresh : ∀ k, w.heap.size ≤ k → Dz k) (hN : Kd.N ix 26 w base Dz u l0) (wN : Kd.C (Kd.int .i64) w nX jg.length jg) (wO : jg.length ≤ nY) (hlen : l0.length < 5864062014805) (hcp : iW.f jg = some t_) (h : fx.f k l0 jg = some r) (hr_ : r = (l0.length : Int)) :
 Calls Tryz.prog 59 #[u, .agg #[.slice nX jg.length nY]] w fun e w' => ∃ v1 : Value, e = .returned v1 ∧ Kd.N ix 26 w' base Dz v1 (l0 ++ [(⟨t_⟩ : cT)]) ∧ Below base wb w' ∧ w.grownBy w' u.ownBlock ∧ (v1.ownBlock = u.ownBlock ∨ ∃ b, v1.ownBlock = some b ∧ w.heap.size ≤ b) := by
 obtain ⟨A0, c0, eu_⟩ := Kd.gw hN
 subst eu_
 have om : Kd.V ix 26 w w.heap.size (fun k_ => Dz k_) (.slice A0 l0.length c0) l0 := Kd.yM (Kd.ei hN).2.1 (Kd.N_F hN)
 have HN_ := aa.mk hN
 have HF_ := aa.mk hfresh
 have HBb_ := aa.mk hBb
 have HBs_ := aa.mk hbase
 have HL_ := aa.mk hlen
 have HCP_ := aa.mk hcp
 have HR_ := aa.mk hr_
 clear hN hfresh hBb hbase hlen hcp hr_
 have kJ := Tryz.underlying26
 have HO0 := aa.mk (show Kd.V ix 26 w w.heap.size (fun k_ => (Dz k_ ∨ w.heap.size ≤ k_)) (.slice A0 l0.length c0) l0 from Kd.je om (fun k_ hk => .inl hk))
 have wP := aa.mk wN
 have wQ := aa.mk wO
 clear wN wO
 have HB := aa.mk (Below.refl w.heap.size w)
 have H := h
 clear h
 unfold fx.f at H
 obtain ⟨BU, A3, H⟩ := eA H
 have H' := aa.mk H
 clear H
 go_enter Tryz.func59, Tryz.ntmps59
 go_wp2_with (first | ((with_reducible refine gate_dst (N := 3) rfl ?_); refine iP 3 #[.slice nX jg.length nY] 26 ?_; intro mj hg w4 hbox hb; replace HO0 := aa.mk (Kd.iB (Kd.nk (pF HO0.out) mj (Nat.le_of_eq hg.symm)) hb); have kF := aa.mk (hbox); have atA := ij hg HB; have Sg := ij hg HB; replace HB := jL HB hb; clear hb hbox hg; have CG := fG kF; have H0 := af kF.out 0) | ((with_reducible refine gate_callee (f := 41) rfl ?_); refine dU (some 9) Tryz.func41 #[.agg #[.slice nX jg.length nY]] ?_; (with_reducible refine (bA.calls k _ _ jg BU _ ?ah ?aj A3.out).mono ?_); (case ah => exact iZ wP HB); (case aj => exact wQ.out); rintro e w6 ⟨tC, rfl, b0, hb⟩; refine ⟨_, rfl, ?_⟩; replace HO0 := aa.mk (Kd.kf (pF HO0.out) (Kd.cV b0) hb); have aeI := aa.mk (Kd.aW (Kd.pE (M := fun k_ => (w.heap.size ≤ k_)) b0 (ag (bC HB)) (fun k_ h_ => h_)) (ag (bC HB))); replace kF := cn kF hb; replace HB := eM HB hb; (try clear hb); (try clear b0)))
 go_loopg [6] k (fun kq v6 w' => ∃ (bY : Int), v6 = .int .i64 bY ∧ aa (fx.l0 kq l0 BU bY = some r) ∧ aa (kq ≤ k) ∧ aa (Kd.V ix 26 w' w.heap.size (fun k_ => (Dz k_ ∨ w.heap.size ≤ k_) ∧ some k_ ≠ (tC : Value).ownBlock ∧ k_ ≠ mj) (.slice A0 l0.length c0) l0) ∧ aa (Kd.R (Kd.int .i64) 3 w' w.heap.size (fun k_ => (w.heap.size ≤ k_)) tC BU) ∧ aa (w'.heap[mj]? = some (.cells #[(.slice nX jg.length nY)] 26 (0, 0))) ∧ aa (Below w.heap.size w w'))
 case atStart => exact ⟨(0), eF, H', ⟨Nat.le_refl _⟩, ⟨pF (Kd.je HO0.out (fun _ hk => ⟨hk.1.1, ⟨hk.2, hk.1.2⟩⟩))⟩, ⟨by (with_reducible repeat (first | apply Kd.bQ | apply Kd.bT | apply Kd.bR)); exact Kd.bB aeI.out (fun _ hk => hk.1)⟩, ⟨cC kF.out⟩, ⟨bC HB⟩⟩
 case round =>
  clear H'
  try clear CG
  try clear H0
  obtain ⟨bY, rfl, HA, fu, xM, cr, kF, HB⟩ := hrel
  cases gk with
  | zero => exact absurd HA.out (by simp [fx.l0])
  | succ k1 =>
   have H := HA.out
   clear HA
   simp only [fx.l0] at H
   by_cases c7 : bY < (l0.length : Int)
   · rw [if_pos c7] at H
     have oO : decide (bY < (l0.length : Int)) = true := decide_eq_true c7
     clear c7
     obtain ⟨rD, H⟩ := dB H
     obtain ⟨KK, A9, H⟩ := eA H
     obtain ⟨Se, Nc, H⟩ := eA H
     by_cases rL : Se = true
     rotate_left
     · exfalso
       rw [if_neg rL] at H
       have c7c : bY < (l0.length : Int) := of_decide_eq_true oO
       have XJ := HR_.out
       repeat' split at H
       all_goals first | (injection H with H; omega) | cases H
     subst rL
     rw [if_pos rfl] at H
     have H' := aa.mk H
     clear H
     have KM : 0 ≤ (bY : Int) := bO
     have KN : bY < (l0.length : Int) := bO
     obtain ⟨atB, apc, apd, amh, Sh, Fi, Fj⟩ := mP (Kd.fZ xM.out).2.2 bY KM KN
     cases amh
     obtain ⟨atC, Wz, WA, KO⟩ := Kd.agi xM.out z26 bY KM (by first | exact KN | exact bO | (have e_ := (Kd.fZ xM.out).1; omega))
     obtain ⟨ami, amj, rfl, Ab, Ac⟩ := jP WA
     have u6 := KO 0 _ rfl
     rw [Nat.add_zero, show (ix).sz = 1 from rfl, Nat.mul_one] at u6
     replace u6 := Option.some.inj (u6.symm.trans Sh)
     injection u6 with hva_ hvn_ hvc_
     rw [hva_] at Ac
     rw [hvc_] at Ab
     have Fk := aa.mk (show Kd.V (Kd.int .i64) 3 _ w.heap.size _ _ ((cG l0 bY).f0) from Kd.yM Ab Ac)
     clear hva_ hvn_ hvc_ Ac Ab
     clear KO Wz
     have sj := aa.mk Fj
     have Si := aa.mk Fi
     clear Fj Fi
     replace KM := eq_true KM
     replace KN := eq_true KN
     go_wp2_with (first | (go_at_call 41; (with_reducible refine (bA.calls k1 _ _ ((cG l0 bY).f0) KK _ ?ah ?aj A9.out).mono ?_); (case ah => repeat (first | exact (by repeat (first | (with_reducible exact sj.out) | (with_reducible refine Kd.cz ?_ _) | (with_reducible refine Kd.cA ?_ _) | (with_reducible refine Kd.di ?_) | exact sj.out)) | (with_reducible refine Kd.cz ?_ _) | (with_reducible refine Kd.cA ?_ _) | (with_reducible refine Kd.di ?_))); (case aj => exact Si.out); rintro e w12 ⟨ax1, rfl, b0, hb⟩; replace xM := aa.mk (Kd.kf (pF xM.out) (Kd.cV b0) hb); replace Fk := aa.mk (Kd.kf (pF Fk.out) (Kd.cV b0) hb); have II := aa.mk (Kd.aW (Kd.eV (Kd.pE (M := fun k_ => (w.heap.size ≤ k_)) b0 (ag (bC HB)) (fun k_ h_ => h_)) (Kd.gy (b9 cr.out))) (ag (bC HB))); replace cr := aa.mk (Kd.dZ (b9 cr.out) (Kd.cV b0) hb); replace kF := cn kF hb; replace sj := aa.mk (Kd.dx (by repeat (first | (with_reducible exact sj.out) | (with_reducible refine Kd.cz ?_ _) | (with_reducible refine Kd.cA ?_ _) | (with_reducible refine Kd.di ?_) | exact sj.out)) hb); replace HB := eM HB hb; (try clear hb); (try clear b0); obtain ⟨NP, GK, GL⟩ := Kd.aN II.out; subst GL; obtain ⟨aj0, aj1, QB⟩ := Kd.aN cr.out; subst QB) | (go_at_call 100; (with_reducible refine (eb.calls k1 _ _ KK _ _ BU true _ ?ah ?aj ?fB ?hD Nc.out).mono ?_); (case ah => exact kx ((Kd.ao II.out).2.2)); (case aj => exact (Kd.ao II.out).2.1); (case fB => exact kx ((Kd.ao cr.out).2.2)); (case hD => exact (Kd.ao cr.out).2.1); rintro e w' ⟨rfl, ⟨nd, rfl⟩⟩))
     go_roundg k1
     case measure => have := fu.out; omega
     case rel => exact ⟨(wrap64 (bY + 1)), eF, H', ⟨by have := fu.out; omega⟩, ⟨pF (Kd.je xM.out (fun _ hk => ⟨hk.1.1, ⟨hk.1.2.1, hk.1.2.2⟩⟩))⟩, ⟨by (with_reducible repeat (first | apply Kd.bQ | apply Kd.bT | apply Kd.bR)); exact Kd.bB cr.out (fun _ hk => hk.1)⟩, ⟨cC kF.out⟩, ⟨bC HB⟩⟩
   rw [if_neg c7] at H
   have oO : decide (bY < (l0.length : Int)) = false := decide_eq_false c7
   clear c7
   obtain ⟨KP, IJ⟩ : ∃ y_ : List (cT), y_ = (([] : List (cT))) := ⟨_, rfl⟩
   replace H : (if 0 ≤ bY then (if bY ≤ (l0.length : Int) then (if KP.length + (l0.drop (bY : Int).toNat).length < 5864062014805 then (some bY) else (none)) else (none)) else (none)) = some r := by subst IJ; exact H
   have IK := aa.mk IJ
   clear IJ
   obtain ⟨Cy, H⟩ := kG H
   have rF := eq_true Cy
   have XV : decide (0 ≤ bY) = true := decide_eq_true Cy
   clear Cy
   obtain ⟨Cz, H⟩ := kG H
   have Ef := eq_true Cz
   have N2 : decide (bY ≤ (l0.length : Int)) = true := decide_eq_true Cz
   clear Cz
   obtain ⟨tD, IL⟩ : ∃ y_ : List (cT), y_ = (l0.drop (bY : Int).toNat) := ⟨_, rfl⟩
   replace H : (if KP.length + tD.length < 5864062014805 then (some bY) else (none)) = some r := by subst IL; exact H
   have IM := aa.mk IL
   clear IL
   obtain ⟨tQ, H⟩ := kG H
   have R0 := aa.mk tQ
   clear tQ
   obtain ⟨Z3, IN⟩ : ∃ y_ : List (cT), y_ = (KP ++ tD) := ⟨_, rfl⟩
   replace H : (some bY) = some r := by subst IN; exact H
   have Sj := aa.mk IN
   clear IN
   obtain rfl := Option.some.inj H
   go_wp2
   go_quiet (fail)
   go_wp2_with (first | ((with_reducible refine gate_dst (N := 38) rfl ?_); refine Kd.rA ix _ 26 ?hg (N' := 38) ?hd (xs := ([] : List (cT))) (inner := []) (ok := (fun k_ => (Dz k_ ∨ w.heap.size ≤ k_) ∧ some k_ ≠ (tC : Value).ownBlock ∧ k_ ≠ mj)) (okp := (fun k_ => (Dz k_ ∨ w.heap.size ≤ k_) ∧ some k_ ≠ (tC : Value).ownBlock ∧ k_ ≠ mj)) ?hr ?hp (fun _ hk => hk) ((show ∀ k_, wr.heap.size ≤ k_ → (fun k_ => (Dz k_ ∨ w.heap.size ≤ k_) ∧ some k_ ≠ (tC : Value).ownBlock ∧ k_ ≠ mj) k_ from fun k_ hk => ⟨(.inr (Nat.le_trans (ag (bC HB)) hk)), Kd.cM (Kd.gy (b9 cr.out)) k_ hk, Kd.dX (g := mj) (o := .cells #[.slice nX jg.length nY] 26 (0, 0)) (cC kF.out) k_ hk⟩) _ (Nat.le_refl _)) (Below.refl _ _) (Nat.le_refl _) (by simp) ?_; (case hd => rfl); (case hg => rfl); (case hr => first | (go_simp; done) | (go_simp; rfl)); (case hp => exact (bE.none _ _)); intro Sk Pe MQ hb hg_ hnew_; clear hg_ hnew_; (first | rw [← IK.out] at MQ | (simp only [Int.reduceToNat] at MQ; rw [← IK.out] at MQ)); replace xM := aa.mk (Kd.kf (pF xM.out) (Kd.hU MQ) hb); replace cr := aa.mk (Kd.aY (b9 cr.out) hb); have DA := aa.mk (Kd.im MQ (ag (bC HB))); replace kF := cn kF hb; replace HB := eM HB hb; clear hb MQ; have q30 : (bY : Int) ≤ ((l0.length : Int) : Int) := bO; obtain ⟨aqT, Ey, _, JG, _⟩ := info_parts pG; have ym : l0.length ≤ c0 := (Kd.fZ xM.out).2.1; have amk : Kd.F ix _ _ A0 l0.length l0 := (Kd.NK (base := w.heap.size) xM.out).2.2; have atD : (0 : Int) ≤ (bY : Int) := bO; have Ht := ug (P := Tryz.prog) 30 26 .i64 Tryz.underlying30 Ey 1 JG A0 l0.length c0 bY atD q30; have AX := Kd.agj (m := (bY : Int).toNat) (c := c0) amk (by omega) ym; obtain ⟨A30, WB⟩ : ∃ A1, A1 = (if c0 = (bY : Int).toNat then A0 else (A0 : Option Addr).map (·.add ((bY : Int).toNat * 1))) := ⟨_, rfl⟩; obtain ⟨Na, WC⟩ : ∃ c1, c1 = c0 - (bY : Int).toNat := ⟨_, rfl⟩; have Ez : tD.length = l0.length - (bY : Int).toNat := (by rw [IM.out, List.length_drop] <;> omega); rw [show (l0).drop (bY : Int).toNat = tD from IM.out.symm] at AX; replace AX : Kd.F ix _ _ A30 tD.length tD := (by rw [WB]; exact AX); rw [← Ez, ← WB, ← WC] at Ht; have IP := aa.mk (show Kd.V ix 26 _ w.heap.size _ (.slice A30 tD.length Na) tD from Kd.yM (by rw [Ez, WC]; exact Nat.sub_le_sub_right ym _) AX); have atE := aa.mk (show tD.length ≤ Na from by rw [Ez, WC]; exact Nat.sub_le_sub_right ym _); clear AX amk ym Ey JG WC; have aBQ := aa.mk Ez; have aBR := aa.mk WB; clear Ez WB; replace q30 := eq_true q30) | ((with_reducible refine gate_builtin (b := .append) (xs := #[.tmp 38, .tmp 41]) rfl ?_); at_builtin; refine Kd.pD ix (w0 := w) w.heap.size rfl (.tmp 38) (.tmp 41) 30 26 (.agg #[(.slice none 0 0)]) 24 rfl Tryz.underlying30 pG rfl (by decide) (by omega) Sk KP tD _ _ _ (fun k_ => (Dz k_ ∨ w.heap.size ≤ k_) ∧ some k_ ≠ (tC : Value).ownBlock ∧ k_ ≠ mj) (fun k_ => ((fun k_ => (Dz k_ ∨ w.heap.size ≤ k_) ∧ some k_ ≠ (tC : Value).ownBlock ∧ k_ ≠ mj)) k_ ∧ some k_ ≠ (Sk : Value).ownBlock) rfl rfl ?aO ?aR (fun _ hk => hk) ?aF ?aB ?aS ?aL ?_; (case aR => exact (by skip; exact Kd.V_F (Kd.je (ok' := (fun k_ => ((fun k_ => (Dz k_ ∨ w.heap.size ≤ k_) ∧ some k_ ≠ (tC : Value).ownBlock ∧ k_ ≠ mj)) k_ ∧ some k_ ≠ (Sk : Value).ownBlock)) (IP.out) (fun k_ hk => ⟨⟨hk.1.1, ⟨hk.1.2.1, hk.1.2.2⟩⟩, hk.2⟩)))); (case aB => exact (bC HB)); (case aF => exact (fun k_ hk => ⟨(.inr (Nat.le_trans (ag (bC HB)) hk)), Kd.cM (Kd.gy (b9 cr.out)) k_ hk, Kd.dX (g := mj) (o := .cells #[.slice nX jg.length nY] 26 (0, 0)) (cC kF.out) k_ hk⟩)); (case aO => exact (d_ DA.out)); (case aS => exact (ag (bC HB))); (case aL => have := R0.out; omega); intro ax3 TP ho hb hg hat; rw [← Sj.out] at ho; replace xM := aa.mk (Kd.pV (ok := (fun k_ => (Dz k_ ∨ w.heap.size ≤ k_) ∧ some k_ ≠ (tC : Value).ownBlock ∧ k_ ≠ mj)) (pF xM.out) hg hat); replace cr := aa.mk (Kd.o0 (b9 cr.out) (Kd.dF (d_ DA.out)) (by decide) hg); replace kF := aa.mk (cS (cC kF.out) hg (Kd.tH DA.out (fun _ hk => hk.2.2))); replace IP := aa.mk (Kd.pV (ok := (fun k_ => (Dz k_ ∨ w.heap.size ≤ k_) ∧ some k_ ≠ (tC : Value).ownBlock ∧ k_ ≠ mj)) (pF IP.out) hg hat); replace HB := aa.mk (hb); have aeJ := aa.mk (ho); clear DA; clear ho hb hg hat))
   have HON_ := aa.mk (Kd.bM HN_.out HB.out)
   have HBw_ := aa.mk ((HBb_.out.trans (HB.out.mono HBs_.out)).drew)
   have HBx_ := aa.mk (Nat.le_trans HBs_.out (ag HB.out))
   have HFx_ := aa.mk (show ∀ k, TP.heap.size ≤ k → Dz k from fun k hk => HF_.out k (Nat.le_trans (ag HB.out) hk))
   have HU_ := aa.mk (show ∀ k, w.heap.size ≤ k → some k ≠ (Value.slice A0 l0.length c0).ownBlock from fun k hk e => absurd (Kd.lM HN_.out k e.symm) (Nat.not_lt.2 hk))
   have y0_ : Z3 = [] := by
    rw [Sj.out, IM.out, IK.out, HR_.out]
    simp
   obtain ⟨A7_, c7_, e7_⟩ := Kd.gw aeJ.out
   subst e7_
   have atF : ∀ W : World, (Instr.slice 30 (.slice A0 l0.length c0) none (some (.int .i64 bY)) none).run Tryz.prog W = .ok (.slice A0 l0.length c0) W := by
    have hx6 := HR_.out
    obtain ⟨i8_, atG, _, _, _⟩ := info_parts pG
    have h := vH (P := Tryz.prog) 30 26 .i64 Tryz.underlying30 atG A0 l0.length c0 bY (by omega) (by omega) (Kd.ei HON_.out).2.1
    rwa [show bY.toNat = l0.length from by omega] at h
   have aml := fG kF
   have HRc_ := aa.mk (Kd.dx wP.out HB.out)
   have HY_ := aa.mk y0_
   have HE_ := aa.mk (HB.out.drew)
   clear y0_
   go_region_held3 (fun w' => w'.cell? ⟨mj, 0, none⟩ = some (.slice nX jg.length nY)) (first | go_keep | exact aml | exact (aH amm.out 0).trans rfl | exact (aH Z4.out 0).trans rfl | exact (aH (du KQ.out _) 0).trans rfl | exact (aH KQ.out 0).trans rfl) (first | (go_at_call 55; refine (iW.calls _ _ jg t_ _ (by exact kx (HRc_.out)) wQ.out HCP_.out).mono ?_; rintro e w40 ⟨v40, rfl, amn, Sl⟩; have KQ := aa.mk (bW (cC kF.out) Sl); have Sm := aa.mk amn; have Fl := aa.mk Sl; have amo := aa.mk (Kd.bM (d_ HON_.out) Sl); have amp := aa.mk (HBw_.out.trans (Sl.mono HBx_.out)); clear Sl amn; obtain ⟨atH, atI, atJ⟩ := Kd.aN Sm.out; subst atJ) | (refine Kd.AP ix (w0 := wb) base (by rfl) (.tmp 45) (.tmp 48) 30 26 (.agg #[(.slice none 0 0)]) 24 rfl Tryz.underlying30 pG rfl (by decide) (by omega) (.slice A0 l0.length c0) l0 (⟨t_⟩ : cT) [.slice atH t_.length atI] Dz (fun k_ => Dz k_ ∧ some k_ ≠ (Value.slice A0 l0.length c0).ownBlock) rfl rfl (qI _ _ (⟨t_⟩ : cT) (Kd.ao Sm.out).2.1 (Kd.XH (Kd.bB (ok' := (fun k_ => Dz k_ ∧ some k_ ≠ (Value.slice A0 l0.length c0).ownBlock)) (Kd.kH Sm.out) (fun k_ hk => ⟨HFx_.out k_ hk.2.1, HU_.out k_ (Nat.le_trans (ag HE_.out) hk.2.1)⟩)))) (fun _ hk => hk) (fun k_ hk => HFx_.out k_ (Nat.le_trans Fl.out.size hk)) amo.out amp.out (Nat.le_trans HBx_.out Fl.out.size) (by have := HL_.out; omega) ?_; intro v41 w41 amq amr aeK Z5; have ams := aa.mk amq; have amt := aa.mk amr; have Sn := aa.mk aeK; have Z6 := aa.mk Z5; have Z4 := aa.mk (cS KQ.out aeK (HU_.out _ Sg.out)); clear amq amr aeK Z5) | (refine Kd.tK ix (w0 := wb) base (by rfl) (.tmp 49) (.tmp 50) 30 26 (.agg #[(.slice none 0 0)]) 24 rfl Tryz.underlying30 pG rfl (by decide) (by omega) v41 (l0 ++ [(⟨t_⟩ : cT)]) Z3 _ _ _ Dz (fun _ => False) rfl rfl ams.out (by rw [HY_.out]; exact Wy _ _ _ _) (fun _ h => h.elim) (fun k_ hk => HFx_.out k_ (Nat.le_trans (Nat.le_trans Fl.out.size Sn.out.size) hk)) amt.out (Nat.le_trans HBx_.out (Nat.le_trans Fl.out.size Sn.out.size)) (by rw [HY_.out, List.length_append, List.length_singleton, List.length_nil]; have := HL_.out; omega) ?_; intro v42 Yi amu amv aeL Z7; have amw := aa.mk amu; have amx := aa.mk amv; have amy := aa.mk aeL; have amz := aa.mk Z7; have amm := aa.mk (cS Z4.out aeL (KL Z6.out (HU_.out _ Sg.out) (mL KQ.out))); clear amu amv aeL Z7))
   try go_wp2
   go_ret
   have hend := Sf HE_.out Fl.out Sn.out Z6.out amy.out amz.out
   have hO := amw.out
   rw [HY_.out, List.append_nil] at hO
   exact ⟨_, ig, hO, amx.out, hend⟩
mutual
def aM.l0 : Nat → Int → List (cT) → Int → Option ((List (cT)))
 | 0, _, _, _ => none
 | k + 1, x0, x5, x6 => if x6 < x0 then (aM.l1 k x0 x5 x6 (([] : List (cT))) 0) else (some x5)
def aM.l1 : Nat → Int → List (cT) → Int → List (cT) → Int → Option ((List (cT)))
 | 0, _, _, _, _, _ => none
 | k + 1, x0, x5, x6, x7, x8 => if x8 < (x5.length : Int) then (if 0 ≤ x8 then ((br.f k ((cG x5 x8).f0)).bind fun aeM => (aM.l2 k x0 x5 x6 x7 x8 aeM.1 0)) else (none)) else (aM.l0 k x0 x7 (wrap64 (x6 + 1)))
def aM.l2 : Nat → Int → List (cT) → Int → List (cT) → Int → List (cT) → Int → Option ((List (cT)))
 | 0, _, _, _, _, _, _, _ => none
 | k + 1, x0, x5, x6, x7, x8, x9, vz => if vz < (x9.length : Int) then (if 0 ≤ vz then ((iW.f (cG x9 vz).f0).bind fun tc => ((fx.f k x7 (cG x9 vz).f0).bind fun ta => (if ta = (x7.length : Int) then (if x7.length < 5864062014805 then (aM.l2 k x0 x5 x6 (x7 ++ [(⟨tc⟩ : cT)]) x8 x9 (wrap64 (vz + 1))) else (none)) else (none)))) else (none)) else (aM.l1 k x0 x5 x6 x7 (wrap64 (x8 + 1)))
end
def aM.f (k : Nat) (a0 : Int) : Option ((List (cT))) := (fv.f a0 0 8).bind fun Sp => (if Sp = true then ((bj.f k (([1] : List Int))).bind fun IQ => (aM.l0 k a0 (([(⟨IQ.1⟩ : cT)] : List (cT))) 0)) else (some (([] : List (cT)))))
theorem aM.calls (k : Nat) (a0 : Int) (r : List (cT)) (w : World) (h : aM.f k a0 = some r) :
 Calls Tryz.prog 20 #[.int .i64 a0] w fun e w' => ∃ jf : Value, e = .returned (jf) ∧ Kd.N ix 26 w' w.heap.size (fun k_ => (w.heap.size ≤ k_)) jf r ∧ Below w.heap.size w w' := by
 have kJ := Tryz.underlying26
 have HB := aa.mk (Below.refl w.heap.size w)
 have H := h
 clear h
 unfold aM.f at H
 obtain ⟨Sp, A2, H⟩ := eA H
 by_cases c3 : Sp = true
 rotate_left
 · replace c3 := Bool.eq_false_iff.mpr c3
   subst c3
   rw [if_neg (show ¬ (false = true) by decide)] at H
   obtain ⟨amA, IS⟩ : ∃ y_ : List (cT), y_ = (([] : List (cT))) := ⟨_, rfl⟩
   replace H : (some amA) = some r := by subst IS; exact H
   have Sq := aa.mk IS
   clear IS
   obtain rfl := Option.some.inj H
   go_enter Tryz.func20, Tryz.ntmps20
   go_wp2_with (first | ((with_reducible refine gate_callee (f := 57) rfl ?_); refine dU (some 13) Tryz.func57 #[.int .i64 a0, .int .i64 0, .int .i64 8] ?_; (with_reducible refine (fv.calls a0 0 8 false _ A2.out).mono ?_); rintro e w' ⟨rfl, ⟨nd, rfl⟩⟩; refine ⟨_, rfl, ?_⟩) | ((with_reducible refine gate_dst (N := 15) rfl ?_); refine Kd.rA ix _ 26 ?hg (N' := 15) ?hd (xs := ([] : List (cT))) (inner := []) (ok := (fun k_ => (w.heap.size ≤ k_))) (okp := (fun k_ => (w.heap.size ≤ k_))) ?hr ?hp (fun _ hk => hk) ((show ∀ k_, w.heap.size ≤ k_ → (fun k_ => (w.heap.size ≤ k_)) k_ from fun k_ hk => (Nat.le_trans (ag (gA HB.out)) hk)) _ (Nat.le_refl _)) (Below.refl _ _) (Nat.le_refl _) (by simp) ?_; (case hd => rfl); (case hg => rfl); (case hr => first | (go_simp; done) | (go_simp; rfl)); (case hp => exact (bE.none _ _)); intro ax5 w29 zx hb hg_ hnew_; clear hg_ hnew_; (first | rw [← Sq.out] at zx | (simp only [Int.reduceToNat] at zx; rw [← Sq.out] at zx)); have aeN := aa.mk (Kd.im zx (ag (gA HB.out))); replace HB := jL HB hb; clear hb zx))
   go_ret
   exact ⟨_, ig, d_ aeN.out, gA HB.out⟩
 subst c3
 rw [if_pos rfl] at H
 obtain ⟨xd, IT⟩ : ∃ y_ : List Int, y_ = (([1] : List Int)) := ⟨_, rfl⟩
 replace H : ((bj.f k xd).bind fun IQ => (aM.l0 k a0 (([(⟨IQ.1⟩ : cT)] : List (cT))) 0)) = some r := by subst IT; exact H
 have Sr := aa.mk IT
 clear IT
 obtain ⟨⟨iz, amB⟩, A4, H⟩ := eA H
 (try dsimp only at H)
 obtain ⟨Z8, IU⟩ : ∃ y_ : List (cT), y_ = (([(⟨iz⟩ : cT)] : List (cT))) := ⟨_, rfl⟩
 replace H : (aM.l0 k a0 Z8 0) = some r := by subst IU; exact H
 have Ss := aa.mk IU
 clear IU
 have H' := aa.mk H
 clear H
 go_enter Tryz.func20, Tryz.ntmps20
 go_wp2_with (first | ((with_reducible refine gate_callee (f := 57) rfl ?_); refine dU (some 13) Tryz.func57 #[.int .i64 a0, .int .i64 0, .int .i64 8] ?_; (with_reducible refine (fv.calls a0 0 8 true _ A2.out).mono ?_); rintro e w' ⟨rfl, ⟨nd, rfl⟩⟩; refine ⟨_, rfl, ?_⟩) | ((with_reducible refine gate_dst (N := 17) rfl ?_); refine Kd.iK (Kd.int .i64) _ 3 ?hg (N := 17) ?hd (xs := ([1] : List Int)) (inner := [.int .i64 1]) (ok := fun _ => True) (okp := fun _ => True) ?hr ?hp (fun _ hk => hk) trivial (Below.refl _ _) (Nat.le_refl _) (by simp) ?_; (case hd => rfl); (case hg => rfl); (case hr => first | (go_simp; done) | (go_simp; rfl)); (case hp => exact (bE.one (show Kd.M (Kd.int .i64) _ _ _ 1 [.int .i64 1] from rfl) (bE.none _ _))); intro ax6 w5 pX hb hg_ hnew_; clear hg_ hnew_; (first | rw [← Sr.out] at pX | (simp only [Int.reduceToNat] at pX; rw [← Sr.out] at pX)); have kV := aa.mk (Kd.aW (Kd.pE (M := fun k_ => (w.heap.size ≤ k_)) pX (ag (gA HB.out)) (fun k_ h_ => h_)) (ag (gA HB.out))); replace HB := jL HB hb; clear hb pX; obtain ⟨AH, sP, Bo⟩ := Kd.aN kV.out; subst Bo) | ((with_reducible refine gate_callee (f := 58) rfl ?_); refine dU (some 18) Tryz.func58 #[.slice AH xd.length sP] ?_; (with_reducible refine (bj.calls k _ _ xd iz amB _ ?ah ?aj A4.out).mono ?_); (case ah => exact kx ((Kd.ao kV.out).2.2)); (case aj => exact (Kd.ao kV.out).2.1); rintro e w8 ⟨ax7, rfl, b0, hb⟩; refine ⟨_, rfl, ?_⟩; have mT := aa.mk (Kd.aW (Kd.eV (Kd.pE (M := fun k_ => (w.heap.size ≤ k_)) b0 (ag (gA HB.out)) (fun k_ h_ => h_)) (Kd.gy (b9 kV.out))) (ag (gA HB.out))); replace kV := aa.mk (Kd.dZ (b9 kV.out) (Kd.cV b0) hb); replace HB := jL HB hb; (try clear hb); (try clear b0); obtain ⟨pI, o3, NR⟩ := Kd.aN mT.out; subst NR) | ((with_reducible refine gate_dst (N := 3) rfl ?_); refine iP 3 #[.slice none 0 0] 26 ?_; intro gG hg Ju hbox hb; replace kV := aa.mk (Kd.aY (b9 kV.out) hb); replace mT := aa.mk (Kd.aY (b9 mT.out) hb); have fY := aa.mk (hbox); have atK := ij hg HB; have aeO := ij hg HB; replace HB := jL HB hb; clear hb hbox hg; have uK := fG fY; have uL := af fY.out 0) | (refine fw (t := 26) (p := 3) (v := ?vo_) (w1 := (Ju.setCell ⟨gG, 0, none⟩ (.slice pI iz.length o3))) ?hg ?ho ?hn ?hr ?_; (case ho => rfl); (case hg => rfl); (case hn => rfl); (case hr => first | (go_simp; done) | (go_simp; rfl)); intro ws_ hw_; have n5 := aa.mk (show Kd.R (Kd.int .i64) 3 ws_ w.heap.size _ _ _ from by rw [hw_]; exact Kd.bB (Kd.iJ (p := ⟨gG, 0, none⟩) (Kd.cI kV.out fY.out (by decide)) (fun _ hk => hk.2) (.slice pI iz.length o3)) (fun _ h_ => h_.1)); have n9 := aa.mk (show Kd.R (Kd.int .i64) 3 ws_ w.heap.size _ _ _ from by rw [hw_]; exact Kd.bB (Kd.iJ (p := ⟨gG, 0, none⟩) (Kd.cI mT.out fY.out (by decide)) (fun _ hk => hk.2) (.slice pI iz.length o3)) (fun _ h_ => h_.1)); have nb_ := aa.mk (show ws_.heap[gG]? = some (.cells #[.slice pI iz.length o3] 26 (0, 0)) from by rw [hw_]; exact gj fY.out 0 (.slice pI iz.length o3) rfl); have nB_ := aa.mk (show Below w.heap.size w ws_ from by rw [hw_]; exact hP HB.out aeO.out); clear hw_ HB fY uK uL kV mT; have kV := n5; have mT := n9; have fY := nb_; have HB := nB_; clear nb_ nB_ n5 n9; generalize ws_ = Ju at kV mT fY HB ⊢; have uK := fG fY; have uL := af fY.out 0) | ((with_reducible refine gate_dst (N := 22) rfl ?_); refine Kd.rA ix _ 26 ?hg (N' := 22) ?hd (xs := ([(⟨iz⟩ : cT)] : List (cT))) (inner := [.slice pI iz.length o3]) (ok := (fun k_ => (w.heap.size ≤ k_) ∧ some k_ ≠ (.slice AH xd.length sP : Value).ownBlock ∧ k_ ≠ gG)) (okp := (fun k_ => (w.heap.size ≤ k_) ∧ some k_ ≠ (.slice AH xd.length sP : Value).ownBlock ∧ k_ ≠ gG)) ?hr ?hp (fun _ hk => hk) ((show ∀ k_, Ju.heap.size ≤ k_ → (fun k_ => (w.heap.size ≤ k_) ∧ some k_ ≠ (.slice AH xd.length sP : Value).ownBlock ∧ k_ ≠ gG) k_ from fun k_ hk => ⟨(Nat.le_trans (ag (bC HB)) hk), Kd.cM (Kd.gy (b9 kV.out)) k_ hk, Kd.dX (g := gG) (o := .cells #[.slice pI iz.length o3] 26 (0, 0)) (cC fY.out) k_ hk⟩) _ (Nat.le_refl _)) (Below.refl _ _) (Nat.le_refl _) (by simp) ?_; (case hd => rfl); (case hg => rfl); (case hr => first | (go_simp; done) | (go_simp; rfl)); (case hp => exact (bE.one (show Kd.FK ix _ _ (⟨iz⟩ : cT) [.slice pI iz.length o3] from (qI _ _ (⟨iz⟩ : cT) (Kd.ao (Kd.bB (ok' := (fun k_ => (w.heap.size ≤ k_) ∧ some k_ ≠ (.slice AH xd.length sP : Value).ownBlock ∧ k_ ≠ gG)) (Kd.cI (mT.out) fY.out (by decide)) (fun k_ hk => ⟨hk.1.1.1, ⟨hk.1.2, hk.2⟩⟩))).2.1 (Kd.XH (Kd.bB (ok' := (fun k_ => (w.heap.size ≤ k_) ∧ some k_ ≠ (.slice AH xd.length sP : Value).ownBlock ∧ k_ ≠ gG)) (Kd.cI (mT.out) fY.out (by decide)) (fun k_ hk => ⟨hk.1.1.1, ⟨hk.1.2, hk.2⟩⟩))))) (bE.none _ _))); intro ax8 w12 St hb hg_ hnew_; clear hg_ hnew_; (first | rw [← Ss.out] at St | (simp only [Int.reduceToNat] at St; rw [← Ss.out] at St)); have nr_ := aa.mk (Kd.aY (b9 mT.out) hb); have n5 := aa.mk (Kd.aY (b9 kV.out) hb); have n9 := aa.mk (Kd.im St (ag (bC HB))); have rp := cn fY hb; have rq := eM HB hb; clear kV; clear fY; clear HB; clear mT; have mT := nr_; clear nr_; have kV := n5; have aeP := n9; have fY := rp; have HB := rq; clear n5 n9 rp rq; clear hb St))
 go_loopg [5, 6] k (fun kq v5 v6 w' => ∃ (aJ : List (cT)) (bY : Int), v6 = .int .i64 bY ∧ aa (aM.l0 kq a0 aJ bY = some r) ∧ aa (kq ≤ k) ∧ aa (Kd.N ix 26 w' w.heap.size (fun k_ => (w.heap.size ≤ k_) ∧ k_ ≠ gG) v5 aJ) ∧ aa (Kd.R (Kd.int .i64) 3 w' w.heap.size (fun k_ => (w.heap.size ≤ k_)) (.slice pI iz.length o3) iz) ∧ aa (w'.heap[gG]? = some (.cells #[(.slice pI iz.length o3)] 26 (0, 0))) ∧ aa (Below w.heap.size w w'))
 case atStart => exact ⟨(Z8), (0), eF, H', ⟨Nat.le_refl _⟩, ⟨d_ (Kd.bU aeP.out (fun _ hk => ⟨hk.1, hk.2.2⟩))⟩, ⟨by (with_reducible repeat (first | apply Kd.bQ | apply Kd.bT | apply Kd.bR)); exact (Kd.bB (Kd.kH mT.out) (fun _ hk => hk.2.1))⟩, ⟨cC fY.out⟩, ⟨bC HB⟩⟩
 case round =>
  clear H'
  try clear uK
  try clear uL
  obtain ⟨aJ, bY, rfl, HA, fu, cr, f_, fY, HB⟩ := hrel
  cases gk with
  | zero => exact absurd HA.out (by simp [aM.l0])
  | succ k1 =>
   have H := HA.out
   clear HA
   simp only [aM.l0] at H
   by_cases mG : bY < a0
   rotate_left
   · rw [if_neg mG] at H
     have jQ : decide (bY < a0) = false := decide_eq_false mG
     clear mG
     obtain rfl := Option.some.inj H
     go_wp2
     go_ret
     exact ⟨_, ig, d_ (Kd.bU cr.out (fun _ hk => hk.1)), bC HB⟩
   rw [if_pos mG] at H
   have jQ : decide (bY < a0) = true := decide_eq_true mG
   clear mG
   obtain ⟨Z9, IV⟩ : ∃ y_ : List (cT), y_ = (([] : List (cT))) := ⟨_, rfl⟩
   replace H : (aM.l1 k1 a0 aJ bY Z9 0) = some r := by subst IV; exact H
   have Sv := aa.mk IV
   clear IV
   have H' := aa.mk H
   clear H
   go_wp2_with (first | ((with_reducible refine gate_dst (N := 28) rfl ?_); refine Kd.rA ix _ 26 ?hg (N' := 28) ?hd (xs := ([] : List (cT))) (inner := []) (ok := (fun k_ => (w.heap.size ≤ k_) ∧ some k_ ≠ (u5 : Value).ownBlock ∧ some k_ ≠ (.slice pI iz.length o3 : Value).ownBlock ∧ k_ ≠ gG)) (okp := (fun k_ => (w.heap.size ≤ k_) ∧ some k_ ≠ (u5 : Value).ownBlock ∧ some k_ ≠ (.slice pI iz.length o3 : Value).ownBlock ∧ k_ ≠ gG)) ?hr ?hp (fun _ hk => hk) ((show ∀ k_, wr.heap.size ≤ k_ → (fun k_ => (w.heap.size ≤ k_) ∧ some k_ ≠ (u5 : Value).ownBlock ∧ some k_ ≠ (.slice pI iz.length o3 : Value).ownBlock ∧ k_ ≠ gG) k_ from fun k_ hk => ⟨(Nat.le_trans (ag (bC HB)) hk), Kd.cM (Kd.lM (d_ cr.out)) k_ hk, Kd.cM (Kd.gy (b9 f_.out)) k_ hk, Kd.dX (g := gG) (o := .cells #[.slice pI iz.length o3] 26 (0, 0)) (cC fY.out) k_ hk⟩) _ (Nat.le_refl _)) (Below.refl _ _) (Nat.le_refl _) (by simp) ?_; (case hd => rfl); (case hg => rfl); (case hr => first | (go_simp; done) | (go_simp; rfl)); (case hp => exact (bE.none _ _)); intro ax9 LS rk hb hg_ hnew_; clear hg_ hnew_; (first | rw [← Sv.out] at rk | (simp only [Int.reduceToNat] at rk; rw [← Sv.out] at rk)); replace cr := aa.mk (Kd.dP (d_ cr.out) (Kd.hU rk) hb); replace f_ := aa.mk (Kd.aY (b9 f_.out) hb); have aeQ := aa.mk (Kd.im rk (ag (bC HB))); replace fY := cn fY hb; replace HB := eM HB hb; clear hb rk))
   go_loopg [7, 8] k1 (fun kq v7 v8 w' => ∃ (jm : List (cT)) (nB : Int), v8 = .int .i64 nB ∧ aa (aM.l1 kq a0 aJ bY jm nB = some r) ∧ aa (kq ≤ k1) ∧ aa (Kd.N ix 26 w' w.heap.size (fun k_ => (w.heap.size ≤ k_) ∧ some k_ ≠ (v7 : Value).ownBlock ∧ k_ ≠ gG) u5 aJ) ∧ aa (Kd.N ix 26 w' w.heap.size (fun k_ => (w.heap.size ≤ k_) ∧ some k_ ≠ (u5 : Value).ownBlock ∧ some k_ ≠ ((.slice pI iz.length o3) : Value).ownBlock ∧ k_ ≠ gG) v7 jm) ∧ aa (Kd.R (Kd.int .i64) 3 w' w.heap.size (fun k_ => (w.heap.size ≤ k_)) (.slice pI iz.length o3) iz) ∧ aa (w'.heap[gG]? = some (.cells #[(.slice pI iz.length o3)] 26 (0, 0))) ∧ aa (Below w.heap.size w w'))
   case atStart => exact ⟨(Z9), (0), eF, H', ⟨Nat.le_refl _⟩, ⟨d_ (Kd.bU cr.out (fun _ hk => ⟨hk.1.1, ⟨hk.2, hk.1.2⟩⟩))⟩, ⟨d_ aeQ.out⟩, ⟨b9 f_.out⟩, ⟨cC fY.out⟩, ⟨bC HB⟩⟩
   case round =>
    clear H'
    try clear jQ
    obtain ⟨jm, nB, rfl, HA, jo, cr, Ad, f_, fY, HB⟩ := hrel
    cases gk with
    | zero => exact absurd HA.out (by simp [aM.l1])
    | succ k2 =>
     have H := HA.out
     clear HA
     simp only [aM.l1] at H
     by_cases oN : nB < (aJ.length : Int)
     rotate_left
     · rw [if_neg oN] at H
       have oA : decide (nB < (aJ.length : Int)) = false := decide_eq_false oN
       clear oN
       have H' := aa.mk H
       clear H
       obtain ⟨Uw, Ux, GZ⟩ := Kd.gw cr.out
       subst GZ
       go_wp2
       go_roundg k2
       case measure => have := fu.out; have := jo.out; omega
       case rel => exact ⟨(jm), (wrap64 (bY + 1)), eF, H', ⟨by have := fu.out; have := jo.out; omega⟩, ⟨d_ (Kd.bU Ad.out (fun _ hk => ⟨hk.1, hk.2.2.2⟩))⟩, ⟨b9 f_.out⟩, ⟨cC fY.out⟩, ⟨bC HB⟩⟩
     rw [if_pos oN] at H
     have oA : decide (nB < (aJ.length : Int)) = true := decide_eq_true oN
     clear oN
     obtain ⟨za, H⟩ := dB H
     obtain ⟨⟨pk, amC⟩, A19, H⟩ := eA H
     (try dsimp only at H)
     have H' := aa.mk H
     clear H
     obtain ⟨CN, pN, AZ⟩ := Kd.gw cr.out
     subst AZ
     have Fm : 0 ≤ (nB : Int) := bO
     have Fo : nB < (aJ.length : Int) := bO
     obtain ⟨tW, WD, WE, amD, Fp, Fq, Fs⟩ := mP (Kd.ei cr.out).2.2 nB Fm Fo
     cases amD
     obtain ⟨atL, WG, WH, KR⟩ := Kd.wG cr.out z26 nB Fm (by first | exact Fo | exact bO | (have e_ := (Kd.ei cr.out).1; omega))
     obtain ⟨amE, amF, rfl, Ae, Af⟩ := jP WH
     have u9 := KR 0 _ rfl
     rw [Nat.add_zero, show (ix).sz = 1 from rfl, Nat.mul_one] at u9
     replace u9 := Option.some.inj (u9.symm.trans Fp)
     injection u9 with hva_ hvn_ hvc_
     rw [hva_] at Af
     rw [hvc_] at Ae
     have Ft := aa.mk (show Kd.V (Kd.int .i64) 3 _ w.heap.size _ _ ((cG aJ nB).f0) from Kd.yM Ae Af)
     clear hva_ hvn_ hvc_ Af Ae
     clear KR WG
     have sk := aa.mk Fs
     have Sw := aa.mk Fq
     clear Fs Fq
     replace Fm := eq_true Fm
     replace Fo := eq_true Fo
     go_wp2_with (first | ((with_reducible refine gate_callee (f := 11) rfl ?_); refine dU (some 40) Tryz.func11 #[.agg #[.slice WD ((cG aJ nB).f0).length WE]] ?_; (with_reducible refine (br.calls k2 _ _ ((cG aJ nB).f0) pk amC _ ?ah ?aj A19.out).mono ?_); (case ah => repeat (first | exact (by repeat (first | (with_reducible exact sk.out) | (with_reducible refine Kd.cz ?_ _) | (with_reducible refine Kd.cA ?_ _) | (with_reducible refine Kd.di ?_) | exact sk.out)) | (with_reducible refine Kd.cz ?_ _) | (with_reducible refine Kd.cA ?_ _) | (with_reducible refine Kd.di ?_))); (case aj => exact Sw.out); rintro e TK ⟨Sx, rfl, b0, hb⟩; refine ⟨_, rfl, ?_⟩; replace Ft := aa.mk (Kd.kf (pF Ft.out) (Kd.hU (Kd.NG b0)) hb); have aeR := aa.mk (Kd.im (Kd.bU (ok' := fun k_ => (w.heap.size ≤ k_) ∧ some k_ ≠ (.slice (some tW) aJ.length pN : Value).ownBlock ∧ some k_ ≠ (u7 : Value).ownBlock ∧ some k_ ≠ (.slice pI iz.length o3 : Value).ownBlock ∧ k_ ≠ gG) (Kd.NG (Kd.qG b0)) (fun k_ hk_ => ⟨(Nat.le_trans (ag (bC HB)) hk_.2.1), (Kd.cM (Kd.lM (d_ cr.out)) k_ hk_.2.1), (Kd.cM (Kd.lM (d_ Ad.out)) k_ hk_.2.1), (Kd.cM (Kd.gy (b9 f_.out)) k_ hk_.2.1), (Kd.dX (g := gG) (o := .cells #[.slice pI iz.length o3] 26 (0, 0)) (cC fY.out) k_ hk_.2.1)⟩)) (ag (bC HB))); replace cr := aa.mk (Kd.dP (d_ cr.out) (Kd.hU (Kd.NG b0)) hb); replace Ad := aa.mk (Kd.dP (d_ Ad.out) (Kd.hU (Kd.NG b0)) hb); replace f_ := aa.mk (Kd.aY (b9 f_.out) hb); replace fY := cn fY hb; replace sk := aa.mk (Kd.dx (by repeat (first | (with_reducible exact sk.out) | (with_reducible refine Kd.cz ?_ _) | (with_reducible refine Kd.cA ?_ _) | (with_reducible refine Kd.di ?_) | exact sk.out)) hb); replace HB := eM HB hb; (try clear hb); (try clear b0)))
     go_loopg [7, 11] k2 (fun kq v7 v11 w' => ∃ (jk : List (cT)) (oI : Int), v11 = .int .i64 oI ∧ aa (aM.l2 kq a0 aJ bY jk nB pk oI = some r) ∧ aa (kq ≤ k2) ∧ aa (Kd.N ix 26 w' w.heap.size (fun k_ => (w.heap.size ≤ k_) ∧ some k_ ≠ (v7 : Value).ownBlock ∧ some k_ ≠ (Sx : Value).ownBlock ∧ k_ ≠ gG) (.slice (some tW) aJ.length pN) aJ) ∧ aa (Kd.N ix 26 w' w.heap.size (fun k_ => (w.heap.size ≤ k_) ∧ some k_ ≠ ((.slice (some tW) aJ.length pN) : Value).ownBlock ∧ some k_ ≠ (Sx : Value).ownBlock ∧ some k_ ≠ ((.slice pI iz.length o3) : Value).ownBlock ∧ k_ ≠ gG) v7 jk) ∧ aa (Kd.N ix 26 w' w.heap.size (fun k_ => (w.heap.size ≤ k_) ∧ some k_ ≠ ((.slice (some tW) aJ.length pN) : Value).ownBlock ∧ some k_ ≠ (v7 : Value).ownBlock ∧ some k_ ≠ ((.slice pI iz.length o3) : Value).ownBlock ∧ k_ ≠ gG) Sx pk) ∧ aa (Kd.R (Kd.int .i64) 3 w' w.heap.size (fun k_ => (w.heap.size ≤ k_)) (.slice pI iz.length o3) iz) ∧ aa (w'.heap[gG]? = some (.cells #[(.slice pI iz.length o3)] 26 (0, 0))) ∧ aa (Below w.heap.size w w'))
     case atStart => exact ⟨(jm), (0), eF, H', ⟨Nat.le_refl _⟩, ⟨d_ (Kd.bU cr.out (fun _ hk => ⟨hk.1.1, ⟨hk.1.2.1, ⟨hk.2, hk.1.2.2⟩⟩⟩))⟩, ⟨d_ (Kd.bU Ad.out (fun _ hk => ⟨hk.1.1, ⟨hk.1.2.1, ⟨hk.2, ⟨hk.1.2.2.1, hk.1.2.2.2⟩⟩⟩⟩))⟩, ⟨d_ aeR.out⟩, ⟨b9 f_.out⟩, ⟨cC fY.out⟩, ⟨bC HB⟩⟩
     case round =>
      clear H'
      try clear oA
      try clear za
      try clear Fp
      try clear Fm
      try clear Fo
      obtain ⟨jk, oI, rfl, HA, lp, cr, Ad, gD, f_, fY, HB⟩ := hrel
      cases gk with
      | zero => exact absurd HA.out (by simp [aM.l2])
      | succ k3 =>
       have H := HA.out
       clear HA
       simp only [aM.l2] at H
       by_cases wJ : oI < (pk.length : Int)
       rotate_left
       · rw [if_neg wJ] at H
         have uq : decide (oI < (pk.length : Int)) = false := decide_eq_false wJ
         clear wJ
         have H' := aa.mk H
         clear H
         obtain ⟨VS, VT, QY⟩ := Kd.gw gD.out
         subst QY
         go_wp2
         go_roundg k3
         case measure => have := fu.out; have := jo.out; have := lp.out; omega
         case rel => exact ⟨(jk), (wrap64 (nB + 1)), eF, H', ⟨by have := fu.out; have := jo.out; have := lp.out; omega⟩, ⟨d_ (Kd.bU cr.out (fun _ hk => ⟨hk.1, ⟨hk.2.1, hk.2.2.2⟩⟩))⟩, ⟨d_ (Kd.bU Ad.out (fun _ hk => ⟨hk.1, ⟨hk.2.1, ⟨hk.2.2.2.1, hk.2.2.2.2⟩⟩⟩))⟩, ⟨b9 f_.out⟩, ⟨cC fY.out⟩, ⟨bC HB⟩⟩
       rw [if_pos wJ] at H
       have uq : decide (oI < (pk.length : Int)) = true := decide_eq_true wJ
       clear wJ
       obtain ⟨ra, H⟩ := dB H
       obtain ⟨tc_, AC0, H⟩ := Option.bind_eq_some_iff.mp H
       obtain ⟨ta_, AP0, H⟩ := Option.bind_eq_some_iff.mp H
       have AC_ := aa.mk AC0
       have AP_ := aa.mk AP0
       clear AC0 AP0
       have cE : ta_ = (jk.length : Int) := by (refine Classical.byContradiction fun c => ?_; rw [if_neg c] at H; cases H)
       rw [if_pos cE] at H
       have HE_ := aa.mk cE
       clear cE
       obtain ⟨VL, H⟩ := kG H
       have amG := aa.mk VL
       clear VL
       obtain ⟨Z_, IW⟩ : ∃ y_ : List (cT), y_ = (jk ++ [(⟨tc_⟩ : cT)]) := ⟨_, rfl⟩
       replace H : (aM.l2 k3 a0 aJ bY Z_ nB pk (wrap64 (oI + 1))) = some r := by subst IW; exact H
       have aeS := aa.mk IW
       clear IW
       have H' := aa.mk H
       clear H
       obtain ⟨VO, Ie, adX⟩ := Kd.gw gD.out
       subst adX
       have KS : 0 ≤ (oI : Int) := bO
       have KT : oI < (pk.length : Int) := bO
       obtain ⟨IX, WI, WJ, amH, Sy, Fu, Fv⟩ := mP (Kd.ei gD.out).2.2 oI KS KT
       cases amH
       obtain ⟨atM, WK, WL, KU⟩ := Kd.wG gD.out z26 oI KS (by first | exact KT | exact bO | (have e_ := (Kd.ei gD.out).1; omega))
       obtain ⟨amI, amJ, rfl, Ag, Ah⟩ := jP WL
       have u_ := KU 0 _ rfl
       rw [Nat.add_zero, show (ix).sz = 1 from rfl, Nat.mul_one] at u_
       replace u_ := Option.some.inj (u_.symm.trans Sy)
       injection u_ with hva_ hvn_ hvc_
       rw [hva_] at Ah
       rw [hvc_] at Ag
       have Fx := aa.mk (show Kd.V (Kd.int .i64) 3 _ w.heap.size _ _ ((cG pk oI).f0) from Kd.yM Ag Ah)
       clear hva_ hvn_ hvc_ Ah Ag
       clear KU WK
       have Sz := aa.mk Fv
       have SA := aa.mk Fu
       clear Fv Fu
       replace KS := eq_true KS
       replace KT := eq_true KT
       go_wp2_with (first | ((with_reducible refine gate_callee (f := 59) rfl ?_); refine dU (some 54) Tryz.func59 #[u7, .agg #[.slice WI ((cG pk oI).f0).length WJ]] ?_; (with_reducible refine (fx.calls k3 w.heap.size (fun k_ => (w.heap.size ≤ k_) ∧ some k_ ≠ (.slice (some tW) aJ.length pN : Value).ownBlock ∧ some k_ ≠ (.slice (some IX) pk.length Ie : Value).ownBlock ∧ some k_ ≠ (.slice pI iz.length o3 : Value).ownBlock ∧ k_ ≠ gG) u7 jk _ _ ((cG pk oI).f0) tc_ ta_ w _ ?aB ?aS ?aF ?aO ?aR ?aC ?aL AC_.out AP_.out HE_.out).mono ?_); (case aB => exact (bC HB)); (case aS => exact (ag (bC HB))); (case aF => exact (fun k_ hk => ⟨(Nat.le_trans (ag (bC HB)) hk), Kd.cM (Kd.lM (d_ cr.out)) k_ hk, Kd.cM (Kd.lM (d_ gD.out)) k_ hk, Kd.cM (Kd.gy (b9 f_.out)) k_ hk, Kd.dX (g := gG) (o := .cells #[.slice pI iz.length o3] 26 (0, 0)) (cC fY.out) k_ hk⟩)); (case aO => exact (d_ Ad.out)); (case aR => exact Sz.out); (case aC => exact SA.out); (case aL => exact amG.out); rintro e Eo ⟨ayb, rfl, ho, hb, hg, hat⟩; refine ⟨_, rfl, ?_⟩; rw [← aeS.out] at ho; replace cr := aa.mk (Kd.rB (ok := (fun k_ => (w.heap.size ≤ k_) ∧ some k_ ≠ (.slice (some IX) pk.length Ie : Value).ownBlock ∧ k_ ≠ gG)) (d_ (Kd.bU cr.out (fun _ hk => ⟨⟨hk.1, ⟨hk.2.2.1, hk.2.2.2⟩⟩, hk.2.1⟩))) hg hat); replace gD := aa.mk (Kd.rB (ok := (fun k_ => (w.heap.size ≤ k_) ∧ some k_ ≠ (.slice (some tW) aJ.length pN : Value).ownBlock ∧ some k_ ≠ (.slice pI iz.length o3 : Value).ownBlock ∧ k_ ≠ gG)) (d_ (Kd.bU gD.out (fun _ hk => ⟨⟨hk.1, ⟨hk.2.1, ⟨hk.2.2.2.1, hk.2.2.2.2⟩⟩⟩, hk.2.2.1⟩))) hg hat); replace f_ := aa.mk (Kd.o0 (b9 f_.out) (Kd.dF (d_ Ad.out)) (by decide) hg); replace fY := aa.mk (cS (cC fY.out) hg (Kd.tH Ad.out (fun _ hk => hk.2.2.2.2))); replace Fx := aa.mk (Kd.pV (ok := (fun k_ => (w.heap.size ≤ k_) ∧ some k_ ≠ (.slice (some tW) aJ.length pN : Value).ownBlock ∧ some k_ ≠ (.slice (some IX) pk.length Ie : Value).ownBlock ∧ some k_ ≠ (.slice pI iz.length o3 : Value).ownBlock ∧ k_ ≠ gG)) (pF (Kd.je Fx.out (fun _ hk => ⟨⟨hk.1.1, ⟨hk.1.2.1, ⟨hk.2, ⟨hk.1.2.2.2.1, hk.1.2.2.2.2⟩⟩⟩⟩, hk.1.2.2.1⟩))) hg hat); replace HB := aa.mk (hb); have aeT := aa.mk (ho); clear Ad; clear ho hb hg hat))
       go_roundg k3
       case measure => have := fu.out; have := jo.out; have := lp.out; omega
       case rel => exact ⟨(Z_), (wrap64 (oI + 1)), eF, H', ⟨by have := fu.out; have := jo.out; have := lp.out; omega⟩, ⟨d_ (Kd.bU cr.out (fun _ hk => ⟨hk.1.1, ⟨hk.2, ⟨hk.1.2.1, hk.1.2.2⟩⟩⟩))⟩, ⟨d_ aeT.out⟩, ⟨d_ (Kd.bU gD.out (fun _ hk => ⟨hk.1.1, ⟨hk.1.2.1, ⟨hk.2, ⟨hk.1.2.2.1, hk.1.2.2.2⟩⟩⟩⟩))⟩, ⟨b9 f_.out⟩, ⟨cC fY.out⟩, ⟨bC HB⟩⟩
noncomputable def fR.f (k : Nat) (a0 : Int) : Option (Int) := (dG.f a0 0 8).bind fun SB => (if SB = true then ((bk.f k a0).bind fun SC => (some (SC.length : Int))) else (some (-1)))
theorem fR.calls (k : Nat) (a0 : Int) (r : Int) (w : World) (h : fR.f k a0 = some r) :
 Calls Tryz.prog 21 #[.int .i64 a0] w fun e w' => e = .returned (.int .i64 r) ∧ Below w.heap.size w w' := by
 have HB := aa.mk (Below.refl w.heap.size w)
 have H := h
 clear h
 unfold fR.f at H
 obtain ⟨SB, A2, H⟩ := eA H
 by_cases c3 : SB = true
 rotate_left
 · replace c3 := Bool.eq_false_iff.mpr c3
   subst c3
   rw [if_neg (show ¬ (false = true) by decide)] at H
   obtain rfl := Option.some.inj H
   go_enter Tryz.func21, Tryz.ntmps21
   go_wp2_with (first | ((with_reducible refine gate_callee (f := 48) rfl ?_); refine dU (some 4) Tryz.func48 #[.int .i64 a0, .int .i64 0, .int .i64 8] ?_; (with_reducible refine (dG.calls a0 0 8 false _ A2.out).mono ?_); rintro e w' ⟨rfl, ⟨nd, rfl⟩⟩; refine ⟨_, rfl, ?_⟩))
   go_ret
   exact ⟨ig, gA HB.out⟩
 subst c3
 rw [if_pos rfl] at H
 obtain ⟨SC, A4, H⟩ := eA H
 obtain rfl := Option.some.inj H
 go_enter Tryz.func21, Tryz.ntmps21
 go_wp2_with (first | ((with_reducible refine gate_callee (f := 48) rfl ?_); refine dU (some 4) Tryz.func48 #[.int .i64 a0, .int .i64 0, .int .i64 8] ?_; (with_reducible refine (dG.calls a0 0 8 true _ A2.out).mono ?_); rintro e w' ⟨rfl, ⟨nd, rfl⟩⟩; refine ⟨_, rfl, ?_⟩) | ((with_reducible refine gate_callee (f := 13) rfl ?_); refine dU (some 7) Tryz.func13 #[.int .i64 a0] ?_; (with_reducible refine (bk.calls k a0 SC _ A4.out).mono ?_); rintro e w5 ⟨ayc, rfl, b0, hb⟩; refine ⟨_, rfl, ?_⟩; have aeU := aa.mk (Kd.im (Kd.bU (ok' := fun k_ => True) b0 (fun k_ hk_ => trivial)) (ag (gA HB.out))); replace HB := jL HB hb; (try clear hb); (try clear b0); obtain ⟨Ao6, co6, eo6⟩ := Kd.gw aeU.out; subst eo6))
 go_ret
 exact ⟨ig, gA HB.out⟩
def gT.f (k : Nat) (a0 : Int) : Option (Int) := (fv.f a0 0 8).bind fun SD => (if SD = true then ((aM.f k a0).bind fun SE => (some (SE.length : Int))) else (some (-1)))
theorem gT.calls (k : Nat) (a0 : Int) (r : Int) (w : World) (h : gT.f k a0 = some r) :
 Calls Tryz.prog 22 #[.int .i64 a0] w fun e w' => e = .returned (.int .i64 r) ∧ Below w.heap.size w w' := by
 have HB := aa.mk (Below.refl w.heap.size w)
 have H := h
 clear h
 unfold gT.f at H
 obtain ⟨SD, A2, H⟩ := eA H
 by_cases c3 : SD = true
 rotate_left
 · replace c3 := Bool.eq_false_iff.mpr c3
   subst c3
   rw [if_neg (show ¬ (false = true) by decide)] at H
   obtain rfl := Option.some.inj H
   go_enter Tryz.func22, Tryz.ntmps22
   go_wp2_with (first | ((with_reducible refine gate_callee (f := 57) rfl ?_); refine dU (some 4) Tryz.func57 #[.int .i64 a0, .int .i64 0, .int .i64 8] ?_; (with_reducible refine (fv.calls a0 0 8 false _ A2.out).mono ?_); rintro e w' ⟨rfl, ⟨nd, rfl⟩⟩; refine ⟨_, rfl, ?_⟩))
   go_ret
   exact ⟨ig, gA HB.out⟩
 subst c3
 rw [if_pos rfl] at H
 obtain ⟨SE, A4, H⟩ := eA H
 obtain rfl := Option.some.inj H
 go_enter Tryz.func22, Tryz.ntmps22
 go_wp2_with (first | ((with_reducible refine gate_callee (f := 57) rfl ?_); refine dU (some 4) Tryz.func57 #[.int .i64 a0, .int .i64 0, .int .i64 8] ?_; (with_reducible refine (fv.calls a0 0 8 true _ A2.out).mono ?_); rintro e w' ⟨rfl, ⟨nd, rfl⟩⟩; refine ⟨_, rfl, ?_⟩) | ((with_reducible refine gate_callee (f := 20) rfl ?_); refine dU (some 7) Tryz.func20 #[.int .i64 a0] ?_; (with_reducible refine (aM.calls k a0 SE _ A4.out).mono ?_); rintro e w5 ⟨ayd, rfl, b0, hb⟩; refine ⟨_, rfl, ?_⟩; have aeV := aa.mk (Kd.im (Kd.bU (ok' := fun k_ => True) b0 (fun k_ hk_ => trivial)) (ag (gA HB.out))); replace HB := jL HB hb; (try clear hb); (try clear b0); obtain ⟨Ao6, co6, eo6⟩ := Kd.gw aeV.out; subst eo6))
 go_ret
 exact ⟨ig, gA HB.out⟩
def iR.f (k : Nat) (an : List Int) : Option (Int) := (aA.f k an).bind fun SF => (if SF = true then ((bA.f k an).bind fun SH => (some (SH.length : Int))) else (some (-1)))
theorem iR.calls (k : Nat) (bF : Option Addr) (bl : Nat) (an : List Int) (r : Int) (w : World) (eB : Kd.C (Kd.int .i64) w bF an.length an) (eC : an.length ≤ bl) (h : iR.f k an = some r) :
 Calls Tryz.prog 23 #[.agg #[.slice bF an.length bl]] w fun e w' => e = .returned (.int .i64 r) ∧ Below w.heap.size w w' := by
 have kJ := Tryz.underlying26
 have bV := aa.mk eB
 have cH := aa.mk eC
 clear eB eC
 have HB := aa.mk (Below.refl w.heap.size w)
 have H := h
 clear h
 unfold iR.f at H
 obtain ⟨SF, A2, H⟩ := eA H
 by_cases c3 : SF = true
 rotate_left
 · replace c3 := Bool.eq_false_iff.mpr c3
   subst c3
   rw [if_neg (show ¬ (false = true) by decide)] at H
   obtain rfl := Option.some.inj H
   go_enter Tryz.func23, Tryz.ntmps23
   go_wp2_with (first | ((with_reducible refine gate_dst (N := 1) rfl ?_); refine iP 1 #[.slice bF an.length bl] 26 ?_; intro aeW hg Bn hbox hb; have mU := aa.mk (hbox); have aeX := ij hg HB; have aeY := ij hg HB; replace HB := jL HB hb; clear hb hbox hg; have nV := fG mU; have nW := af mU.out 0) | ((with_reducible refine gate_callee (f := 45) rfl ?_); refine dU (some 4) Tryz.func45 #[.agg #[.slice bF an.length bl]] ?_; (with_reducible refine (aA.calls k _ _ an false _ ?ah ?aj A2.out).mono ?_); (case ah => exact iZ bV HB); (case aj => exact cH.out); rintro e Eb ⟨rfl, hb⟩; refine ⟨_, rfl, ?_⟩; replace mU := cn mU hb; replace HB := eM HB hb; (try clear hb)))
   go_ret
   exact ⟨ig, bC HB⟩
 subst c3
 rw [if_pos rfl] at H
 obtain ⟨SH, A4, H⟩ := eA H
 obtain rfl := Option.some.inj H
 go_enter Tryz.func23, Tryz.ntmps23
 go_wp2_with (first | ((with_reducible refine gate_dst (N := 1) rfl ?_); refine iP 1 #[.slice bF an.length bl] 26 ?_; intro aeW hg w5 hbox hb; have mU := aa.mk (hbox); have aeX := ij hg HB; have aeY := ij hg HB; replace HB := jL HB hb; clear hb hbox hg; have lV := fG mU; have lW := af mU.out 0) | ((with_reducible refine gate_callee (f := 45) rfl ?_); refine dU (some 4) Tryz.func45 #[.agg #[.slice bF an.length bl]] ?_; (with_reducible refine (aA.calls k _ _ an true _ ?ah ?aj A2.out).mono ?_); (case ah => exact iZ bV HB); (case aj => exact cH.out); rintro e w7 ⟨rfl, hb⟩; refine ⟨_, rfl, ?_⟩; replace mU := cn mU hb; replace HB := eM HB hb; (try clear hb); have lX := fG mU; have lY := af mU.out 0) | ((with_reducible refine gate_callee (f := 41) rfl ?_); refine dU (some 7) Tryz.func41 #[.agg #[.slice bF an.length bl]] ?_; (with_reducible refine (bA.calls k _ _ an SH _ ?ah ?aj A4.out).mono ?_); (case ah => exact iZ bV HB); (case aj => exact cH.out); rintro e w9 ⟨aye, rfl, b0, hb⟩; refine ⟨_, rfl, ?_⟩; have aeZ := aa.mk (Kd.aW b0 (ag (bC HB))); replace mU := cn mU hb; replace HB := eM HB hb; (try clear hb); (try clear b0); obtain ⟨pJ, oQ, rJ⟩ := Kd.aN aeZ.out; subst rJ))
 go_ret
 exact ⟨ig, bC HB⟩
end Go.Proofs.YtjodlkbhaofkkaaGreat.PA
end
