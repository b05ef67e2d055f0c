-- Bundled by shake.py from this session's printed and written texts; Lean checks it.
import Derived.Test.YtjodlkbhaofkkaaGreatZFnTreex2
section
namespace Go.Proofs.YtjodlkbhaofkkaaGreat.PA
open Go.RowKit Go.Proofs.YtjodlkbhaofkkaaGreatW.PrintWords Go.Proofs.YtjodlkbhaofkkaaGreatW.PrintLast Go.Proofs.YtjodlkbhaofkkaaGreatW.PrintMore
attribute [local go_sem] ja jb j5 j6 hY hZ jc jd
set_option linter.unusedVariables false
set_option linter.unusedSimpArgs false
set_option maxHeartbeats 8000000
set_option maxRecDepth 100000
mutual
def aD.l0 : Nat → List Int → Int → List Bool → Int → Option (List Bool)
 | 0, _, _, _, _ => none
 | k + 1, x0, x1, x5, x6 => if x6 ≤ x1 then (aD.l1 k x0 x1 x5 x6 0) else (some x5)
def aD.l1 : Nat → List Int → Int → List Bool → Int → Int → Option (List Bool)
 | 0, _, _, _, _, _ => none
 | k + 1, x0, x1, x5, x6, x7 => if x7 < (x0.length : Int) then (if 0 ≤ x7 then (if x6 ≥ (rd x0 x7) then (if 0 ≤ (wrap64 (x6 - (rd x0 x7))) then (if (wrap64 (x6 - (rd x0 x7))) < (x5.length : Int) then (if e6 false x5 (wrap64 (x6 - (rd x0 x7))) = true then (if 0 ≤ x6 then (if x6 < (x5.length : Int) then (aD.l1 k x0 x1 (x5.set (x6 : Int).toNat true) x6 (wrap64 (x7 + 1))) else (none)) else (none)) else (aD.l1 k x0 x1 x5 x6 (wrap64 (x7 + 1)))) else (none)) else (none)) else (aD.l1 k x0 x1 x5 x6 (wrap64 (x7 + 1)))) else (none)) else (aD.l0 k x0 x1 x5 (wrap64 (x6 + 1)))
end
def aD.f (k : Nat) (l0 : List Int) (a1 : Int) : Option (List Bool) := if 0 ≤ (wrap64 (a1 + 1)) then (if (wrap64 (a1 + 1) : Int).toNat ≤ 281474976710656 then ((some (List.replicate (wrap64 (a1 + 1) : Int).toNat false : List Bool)).bind fun tP => (if 0 < (tP.length : Int) then (aD.l0 k l0 a1 (tP.set (0 : Int).toNat true) 1) else (none))) else (none)) else (none)
theorem aD.er : ∀ k, (∀ y0 y1 y2 y3, bK (aD.l0 k y0 y1 y2 y3) (aD.l0 (k + 1) y0 y1 y2 y3)) ∧ (∀ y0 y1 y2 y3 y4, bK (aD.l1 k y0 y1 y2 y3 y4) (aD.l1 (k + 1) y0 y1 y2 y3 y4))
 | 0 => ⟨fun _ _ _ _ r h => by simp [aD.l0] at h, fun _ _ _ _ _ r h => by simp [aD.l1] at h⟩
 | k + 1 => by
  obtain ⟨ia, oP⟩ := aD.er k
  refine ⟨?_, ?_⟩
  · intro y0 y1 y2 y3
    unfold aD.l0
    repeat' first
    | (with_reducible exact ia _ _ _ _)
    | (with_reducible exact oP _ _ _ _ _)
    | (with_reducible exact bK.refl _)
    | (with_reducible exact bK.none _)
    | (with_reducible refine bK.ite ?_ ?_)
    | (with_reducible refine bK.bind ?_ (fun _ => ?_))
    | exact ia _ _ _ _
    | exact oP _ _ _ _ _
    | exact bK.none _
    | refine bK.ite ?_ ?_
    | refine bK.bind ?_ (fun _ => ?_)
  · intro y0 y1 y2 y3 y4
    unfold aD.l1
    repeat' first
    | (with_reducible exact ia _ _ _ _)
    | (with_reducible exact oP _ _ _ _ _)
    | (with_reducible exact bK.refl _)
    | (with_reducible exact bK.none _)
    | (with_reducible refine bK.ite ?_ ?_)
    | (with_reducible refine bK.bind ?_ (fun _ => ?_))
    | exact ia _ _ _ _
    | exact oP _ _ _ _ _
    | exact bK.none _
    | refine bK.ite ?_ ?_
    | refine bK.bind ?_ (fun _ => ?_)
theorem aD.mono : ∀ a0 a1 k, bK (aD.f k a0 a1) (aD.f (k + 1) a0 a1) := by
 intro a0 a1 k
 obtain ⟨ia, oP⟩ := aD.er k
 unfold aD.f
 repeat' first
  | (with_reducible exact ia _ _ _ _)
  | (with_reducible exact oP _ _ _ _ _)
  | (with_reducible exact bK.refl _)
  | (with_reducible exact bK.none _)
  | (with_reducible refine bK.ite ?_ ?_)
  | (with_reducible refine bK.bind ?_ (fun _ => ?_))
  | exact ia _ _ _ _
  | exact oP _ _ _ _ _
  | exact bK.none _
  | refine bK.ite ?_ ?_
  | refine bK.bind ?_ (fun _ => ?_)
theorem aD.calls (k : Nat) (A0 : Option Addr) (c0 : Nat) (l0 : List Int) (a1 : Int) (r : List Bool) (w : World) (fH : Kd.C (Kd.int .i64) w A0 l0.length l0) (gL : l0.length ≤ c0) (h : aD.f k l0 a1 = some r) :
 Calls Tryz.prog 83 #[.slice A0 l0.length c0, .int .i64 a1] w fun e w' => ∃ jf : Value, e = .returned (jf) ∧ Kd.R Kd.bool 4 w' w.heap.size (fun _ => True) jf r ∧ Below w.heap.size w w' := by
 have eZ := aa.mk fH
 have jN := aa.mk gL
 clear fH gL
 have HB := aa.mk (Below.refl w.heap.size w)
 have H := h
 clear h
 unfold aD.f at H
 obtain ⟨zf, CH⟩ : ∃ j_ : Int, (wrap64 (a1 + 1)) = j_ := ⟨_, rfl⟩
 replace H : (if 0 ≤ (zf) then (if (zf : Int).toNat ≤ 281474976710656 then ((some (List.replicate (zf : Int).toNat false : List Bool)).bind fun tP => (if 0 < (tP.length : Int) then (aD.l0 k l0 a1 (tP.set (0 : Int).toNat true) 1) else (none))) else (none)) else (none)) = some r := by first | (rw [CH] at H; exact H) | (simp only [CH] at H ⊢; exact H)
 have ahd : (IntKind.i64.wrap (a1 + 1)) = zf := (b6 _).trans CH
 obtain ⟨c4, H⟩ := kG H
 have kI := eq_true c4
 have Ea : decide (0 ≤ (zf)) = true := decide_eq_true c4
 clear c4
 obtain ⟨c5, H⟩ := kG H
 have qJ := eq_true c5
 have Ow : decide ((zf : Int).toNat ≤ 281474976710656) = true := decide_eq_true c5
 clear c5
 obtain ⟨tP, OH⟩ : ∃ y_ : List Bool, y_ = (List.replicate (zf : Int).toNat false) := ⟨_, rfl⟩
 replace H : (if 0 < (tP.length : Int) then (aD.l0 k l0 a1 (tP.set (0 : Int).toNat true) 1) else (none)) = some r := by subst OH; exact H
 have X8 := aa.mk OH
 clear OH
 obtain ⟨c6, H⟩ := kG H
 have pH : decide (0 < (tP.length : Int)) = true := decide_eq_true c6
 have LU : decide (0 < tP.length) = true := decide_eq_true (by omega)
 clear c6
 obtain ⟨abI, OI⟩ : ∃ y_ : List Bool, y_ = (tP.set (0 : Int).toNat true) := ⟨_, rfl⟩
 replace H : (aD.l0 k l0 a1 abI 1) = some r := by subst OI; exact H
 have ahe := aa.mk OI
 clear OI
 have H' := aa.mk H
 clear H
 go_enter Tryz.func83, Tryz.ntmps83
 go_wp2_with (first | ((with_reducible refine gate_dst (N := 10) rfl ?_); refine Kd.vG Kd.bool _ 4 rfl (N := 10) rfl 66 _ _ rfl zf rfl rfl Tryz.underlying66 (.bool false) 1 D9 rfl (by decide) (by omega) false (ok := fun _ => True) (okp := fun _ => True) rfl (fun _ hk => hk) trivial (bO) (Nat.le_trans (Nat.mul_le_mul_right _ (bO : zf.toNat ≤ 281474976710656)) (by omega)) (Below.refl _ _) (Nat.le_refl _) ?_; intro v228 w8 Ep hb hg_ hnew_; clear hg_ hnew_; (first | rw [← X8.out] at Ep | (simp only [Int.reduceToNat] at Ep; rw [← X8.out] at Ep)); have By := aa.mk (Kd.aW Ep (ag (gA HB.out))); replace HB := jL HB hb; clear hb Ep; have p7 : 0 ≤ (0 : Int) := (by omega); have q7 : (0 : Int) < ((tP.length : Int) : Int) := bO; have qi7 : (0 < tP.length) = True := eq_true (by omega); obtain ⟨TM, sP, Bo, gb7, gl7, cl7, HG7⟩ := Kd.ry By.out (by omega); (first | cases Bo | (injection Bo with ea_ en_ ec_; (first | subst ea_ | (injection ea_ with ea_; subst ea_)); subst ec_; clear en_)); have GB7 := aa.mk gb7; have GG7 := aa.mk HG7; clear gb7 gl7 HG7; obtain ⟨OJ, X9⟩ := Kd.lK false By.out (0 : Int) p7 q7; (try rw [show ((0 : Int)).toNat = 0 from rfl] at OJ); (try simp only [Nat.reduceMul, Nat.zero_mul, Nat.zero_add, Nat.reduceAdd] at OJ); (try rw [show ((0 : Int)).toNat = 0 from rfl] at X9); (try simp only [Nat.reduceMul, Nat.zero_mul, Nat.zero_add, Nat.reduceAdd] at X9); replace p7 := eq_true p7; replace q7 := eq_true q7; obtain ⟨X_, Ya⟩ := Kd.lK false By.out (0 : Int) (by omega) (bO); (try simp only [Int.reduceToNat, Int.toNat_zero, Int.toNat_ofNat, Nat.reduceMul, Nat.zero_mul, Nat.zero_add] at X_ Ya); (try rw [show ((0 : Int)).toNat = 0 from rfl] at X_); (try rw [show ((0 : Int)).toNat = 0 from rfl] at Ya); have abJ := Kd.pz By.out (0 : Int) true) | ((with_reducible refine gate_store (t := 4) (p := 12) rfl ?_); refine fw (t := 4) (p := 12) (v := ?aqs) (w1 := (w8.setCell ⟨TM, (0 : Int).toNat, none⟩ (.bool true))) ?hg ?ho ?hn ?hr ?_; (case ho => rfl); (case hg => rfl); (case hn => rfl); (case hr => first | (go_simp; done) | (go_simp; rfl)); intro Bn hw; have hg : w8.grownBy Bn (some TM) := (by rw [hw]; exact abJ.2); have hp_ : Kd.R Kd.bool 4 Bn w.heap.size (fun _ => True) (.slice (some ⟨TM, 0, none⟩) tP.length sP) abI := (by rw [hw, ahe.out]; exact abJ.1); clear abJ; replace By := aa.mk (hp_); replace HB := aa.mk ((by rw [hw]; exact hP (HB.out) GB7.out : Below w.heap.size w Bn)); clear hg hw hp_))
 go_loopg [6] k (fun kq v6 w' => ∃ (aJ : List Bool) (bY : Int), v6 = .int .i64 bY ∧ aa (aD.l0 kq l0 a1 aJ bY = some r) ∧ aa (kq ≤ k) ∧ aa (Kd.R Kd.bool 4 w' w.heap.size (fun _ => True) (.slice (some ⟨TM, 0, none⟩) tP.length sP) aJ) ∧ aa (Below w.heap.size w w'))
 case atStart => exact ⟨(abI), (1), eF, H', ⟨Nat.le_refl _⟩, ⟨b9 By.out⟩, ⟨gA HB.out⟩⟩
 case round =>
  clear H'
  try clear kI
  try clear Ea
  try clear qJ
  try clear Ow
  try clear pH
  try clear LU
  try clear p7
  try clear q7
  try clear qi7
  try clear OJ
  obtain ⟨aJ, bY, rfl, HA, fu, cr, HB⟩ := hrel
  have gY := (Kd.ao cr.out).1
  rw [gY] at cr
  (try simp only [gY])
  cases gk with
  | zero => exact absurd HA.out (by simp [aD.l0])
  | succ k1 =>
   have H := HA.out
   clear HA
   simp only [aD.l0] at H
   by_cases pK : bY ≤ a1
   rotate_left
   · rw [if_neg pK] at H
     have o6 : decide (bY ≤ a1) = false := decide_eq_false pK
     clear pK
     obtain rfl := Option.some.inj H
     go_wp2
     go_ret
     exact ⟨_, by first | rfl | (simp [cD, cF] <;> rfl) | (simp only [← CH]; first | rfl | (simp [cD, cF] <;> rfl)) | (simp [*, cD, cF] <;> rfl), b9 cr.out, gA HB.out⟩
   rw [if_pos pK] at H
   have o6 : decide (bY ≤ a1) = true := decide_eq_true pK
   clear pK
   have H' := aa.mk H
   clear H
   go_wp2
   go_loopg [7] k1 (fun kq v7 w' => ∃ (cR : List Bool) (jm : Int), v7 = .int .i64 jm ∧ aa (aD.l1 kq l0 a1 cR bY jm = some r) ∧ aa (kq ≤ k1) ∧ aa (Kd.R Kd.bool 4 w' w.heap.size (fun _ => True) (.slice (some ⟨TM, 0, none⟩) aJ.length sP) cR) ∧ aa (Below w.heap.size w w'))
   case atStart => exact ⟨(aJ), (0), eF, H', ⟨Nat.le_refl _⟩, ⟨by (try simp only [gY]); (with_reducible repeat (first | apply Kd.bQ | apply Kd.bT | apply Kd.bR)); exact cr.out⟩, ⟨gA HB.out⟩⟩
   case round =>
    clear H'
    try clear o6
    obtain ⟨cR, jm, rfl, HA, jo, cr, HB⟩ := hrel
    have iL := (Kd.ao cr.out).1
    rw [iL] at cr
    (try simp only [iL])
    cases gk with
    | zero => exact absurd HA.out (by simp [aD.l1])
    | succ k2 =>
     have H := HA.out
     clear HA
     simp only [aD.l1] at H
     by_cases mY : jm < (l0.length : Int)
     rotate_left
     · rw [if_neg mY] at H
       have lS : decide (jm < (l0.length : Int)) = false := decide_eq_false mY
       (try (have abK := lS; simp only [gY, iL] at abK))
       clear mY
       have H' := aa.mk H
       clear H
       go_wp2
       (try simp only [← gY, ← iL])
       go_roundg k2
       case measure => have := fu.out; have := jo.out; omega
       case rel => exact ⟨(cR), (wrap64 (bY + 1)), eF, H', ⟨by have := fu.out; have := jo.out; omega⟩, ⟨by (try simp only [gY]); (try simp only [iL]); (with_reducible repeat (first | apply Kd.bQ | apply Kd.bT | apply Kd.bR)); exact cr.out⟩, ⟨gA HB.out⟩⟩
     rw [if_pos mY] at H
     have lS : decide (jm < (l0.length : Int)) = true := decide_eq_true mY
     (try (have abK := lS; simp only [gY, iL] at abK))
     clear mY
     obtain ⟨jQ, H⟩ := dB H
     by_cases AU : bY ≥ (rd l0 jm)
     rotate_left
     · rw [if_neg AU] at H
       have rH : decide ((rd l0 jm) ≤ bY) = false := decide_eq_false AU
       clear AU
       have H' := aa.mk H
       clear H
       have zh : 0 ≤ (jm : Int) := bO
       have zi : jm < (l0.length : Int) := bO
       obtain ⟨JE, OK, lZ⟩ := Kd.aZ eZ.out jm zh zi
       cases OK
       (try replace lZ := (HB.out.cell (World.block_lt_of_cell? w _ lZ)).trans lZ)
       replace zh := eq_true zh
       replace zi := eq_true zi
       go_wp2
       (try simp only [← iL])
       go_roundg k2
       case measure => have := fu.out; have := jo.out; omega
       case rel => exact ⟨(cR), (wrap64 (jm + 1)), eF, H', ⟨by have := fu.out; have := jo.out; omega⟩, ⟨by (try simp only [gY]); (try simp only [iL]); (with_reducible repeat (first | apply Kd.bQ | apply Kd.bT | apply Kd.bR)); exact cr.out⟩, ⟨gA HB.out⟩⟩
     rw [if_pos AU] at H
     have rH : decide ((rd l0 jm) ≤ bY) = true := decide_eq_true AU
     clear AU
     obtain ⟨xC, OL⟩ : ∃ j_ : Int, (wrap64 (bY - (rd l0 jm))) = j_ := ⟨_, rfl⟩
     replace H : (if 0 ≤ (xC) then (if (xC) < (cR.length : Int) then (if e6 false cR (xC) = true then (if 0 ≤ bY then (if bY < (cR.length : Int) then (aD.l1 k2 l0 a1 (cR.set (bY : Int).toNat true) bY (wrap64 (jm + 1))) else (none)) else (none)) else (aD.l1 k2 l0 a1 cR bY (wrap64 (jm + 1)))) else (none)) else (none)) = some r := by first | (rw [OL] at H; exact H) | (simp only [OL] at H ⊢; exact H)
     have aqt : (IntKind.i64.wrap (bY - (rd l0 jm))) = xC := (b6 _).trans OL
     obtain ⟨oA, H⟩ := dB H
     obtain ⟨vN, H⟩ := kG H
     have za : decide ((xC) < (cR.length : Int)) = true := decide_eq_true vN
     (try (have aqu := za; simp only [gY, iL] at aqu))
     clear vN
     obtain ⟨ahf, OM⟩ : ∃ b_ : Bool, b_ = (e6 false cR (xC)) := ⟨_, rfl⟩
     replace H : (if ahf = true then (if 0 ≤ bY then (if bY < (cR.length : Int) then (aD.l1 k2 l0 a1 (cR.set (bY : Int).toNat true) bY (wrap64 (jm + 1))) else (none)) else (none)) else (aD.l1 k2 l0 a1 cR bY (wrap64 (jm + 1)))) = some r := by rw [← OM] at H; exact H
     have Yb := aa.mk OM
     clear OM
     by_cases AI : ahf = true
     rotate_left
     · replace AI := Bool.eq_false_iff.mpr AI
       subst AI
       rw [if_neg (show ¬ (false = true) by decide)] at H
       have H' := aa.mk H
       clear H
       have zh : 0 ≤ (jm : Int) := bO
       have zi : jm < (l0.length : Int) := bO
       obtain ⟨JE, OK, lZ⟩ := Kd.aZ eZ.out jm zh zi
       cases OK
       (try replace lZ := (HB.out.cell (World.block_lt_of_cell? w _ lZ)).trans lZ)
       replace zh := eq_true zh
       replace zi := eq_true zi
       have Hk : 0 ≤ (jm : Int) := bO
       have Hl : jm < (l0.length : Int) := bO
       obtain ⟨ON, abL, qN⟩ := Kd.aZ eZ.out jm Hk Hl
       obtain rfl : JE = ON := (by injection abL)
       (try replace qN := (HB.out.cell (World.block_lt_of_cell? w _ qN)).trans qN)
       replace Hk := eq_true Hk
       replace Hl := eq_true Hl
       have Hm : 0 ≤ ((xC) : Int) := bO
       have Hn : (xC) < (cR.length : Int) := bO
       obtain ⟨OO, abM, nZ⟩ := Kd.fc (Kd.ao cr.out).2.2 (xC) Hm Hn
       (try rw [← Yb.out] at nZ)
       obtain rfl : (⟨TM, 0, none⟩ : Addr) = OO := (by injection abM)
       (first | simp only [add_plain] at nZ | simp only [ny] at nZ | simp only [Addr.add, Nat.zero_add] at nZ | skip)
       replace Hm := eq_true Hm
       replace Hn := eq_true Hn
       go_wp2
       (try simp only [← iL])
       go_roundg k2
       case measure => have := fu.out; have := jo.out; omega
       case rel => exact ⟨(cR), (wrap64 (jm + 1)), eF, H', ⟨by have := fu.out; have := jo.out; omega⟩, ⟨by (try simp only [gY]); (try simp only [iL]); (with_reducible repeat (first | apply Kd.bQ | apply Kd.bT | apply Kd.bR)); exact cr.out⟩, ⟨gA HB.out⟩⟩
     subst AI
     rw [if_pos rfl] at H
     obtain ⟨tt, H⟩ := dB H
     obtain ⟨wJ, H⟩ := kG H
     have uq : decide (bY < (cR.length : Int)) = true := decide_eq_true wJ
     (try (have aqv := uq; simp only [gY, iL] at aqv))
     clear wJ
     obtain ⟨abN, OP⟩ : ∃ y_ : List Bool, y_ = (cR.set (bY : Int).toNat true) := ⟨_, rfl⟩
     replace H : (aD.l1 k2 l0 a1 abN bY (wrap64 (jm + 1))) = some r := by subst OP; exact H
     have ahg := aa.mk OP
     clear OP
     have H' := aa.mk H
     clear H
     have zh : 0 ≤ (jm : Int) := bO
     have zi : jm < (l0.length : Int) := bO
     obtain ⟨JE, OK, lZ⟩ := Kd.aZ eZ.out jm zh zi
     cases OK
     (try replace lZ := (HB.out.cell (World.block_lt_of_cell? w _ lZ)).trans lZ)
     replace zh := eq_true zh
     replace zi := eq_true zi
     have Hk : 0 ≤ (jm : Int) := bO
     have Hl : jm < (l0.length : Int) := bO
     obtain ⟨ON, abL, qN⟩ := Kd.aZ eZ.out jm Hk Hl
     obtain rfl : JE = ON := (by injection abL)
     (try replace qN := (HB.out.cell (World.block_lt_of_cell? w _ qN)).trans qN)
     replace Hk := eq_true Hk
     replace Hl := eq_true Hl
     have Hm : 0 ≤ ((xC) : Int) := bO
     have Hn : (xC) < (cR.length : Int) := bO
     obtain ⟨OO, abM, nZ⟩ := Kd.fc (Kd.ao cr.out).2.2 (xC) Hm Hn
     (try rw [← Yb.out] at nZ)
     obtain rfl : (⟨TM, 0, none⟩ : Addr) = OO := (by injection abM)
     (first | simp only [add_plain] at nZ | simp only [ny] at nZ | simp only [Addr.add, Nat.zero_add] at nZ | skip)
     replace Hm := eq_true Hm
     replace Hn := eq_true Hn
     have p23 : 0 ≤ (bY : Int) := bO
     have q23 : (bY : Int) < ((cR.length : Int) : Int) := bO
     obtain ⟨aqy, aqz⟩ := Kd.lK false cr.out (bY : Int) p23 q23
     replace p23 := eq_true p23
     replace q23 := eq_true q23
     have abO := Kd.pz cr.out (bY : Int) true
     go_wp2_with (first | ((with_reducible refine gate_store (t := 4) (p := 43) rfl ?_); refine fw (t := 4) (p := 43) (v := ?aqA) (w1 := (wr.setCell ⟨TM, (bY : Int).toNat, none⟩ (.bool true))) ?hg ?ho ?hn ?hr ?_; (case ho => rfl); (case hg => rfl); (case hn => rfl); (case hr => first | (go_simp; done) | (go_simp; rfl)); intro TN hw; have hg : wr.grownBy TN (some TM) := (by rw [hw]; exact abO.2); have hp_ : Kd.R Kd.bool 4 TN w.heap.size (fun _ => True) (.slice (some ⟨TM, 0, none⟩) cR.length sP) abN := (by rw [hw, ahg.out]; exact abO.1); clear abO; replace cr := aa.mk (hp_); replace HB := aa.mk ((by rw [hw]; exact hP (HB.out) GB7.out : Below w.heap.size w TN)); clear hg hw hp_))
     (try simp only [← iL])
     go_roundg k2
     case measure => have := fu.out; have := jo.out; omega
     case rel => exact ⟨(abN), (wrap64 (jm + 1)), eF, H', ⟨by have := fu.out; have := jo.out; omega⟩, ⟨by (try simp only [gY]); (try simp only [iL]); (with_reducible repeat (first | apply Kd.bQ | apply Kd.bT | apply Kd.bR)); exact cr.out⟩, ⟨gA HB.out⟩⟩
mutual
def al.l0 : Nat → List Int → List Int → Int → Option (List Int)
 | 0, _, _, _ => none
 | k + 1, x0, x3, x4 => if x4 < (x0.length : Int) then (al.l1 k x0 x3 x4 (x3.length : Int)) else (some x3)
def al.l1 : Nat → List Int → List Int → Int → Int → Option (List Int)
 | 0, _, _, _, _ => none
 | k + 1, x0, x3, x4, x5 => if x5 > 0 then (if 0 ≤ (wrap64 (x5 - 1)) then (if (wrap64 (x5 - 1)) < (x3.length : Int) then (if 0 ≤ x4 then (if x4 < (x0.length : Int) then (if (rd x3 (wrap64 (x5 - 1))) > (rd x0 x4) then (al.l1 k x0 x3 x4 (wrap64 (x5 - 1))) else (if (rd x3 (wrap64 (x5 - 1))) = (rd x0 x4) then (al.l0 k x0 x3 (wrap64 (x4 + 1))) else ((some (([] : List Int) : List Int)).bind fun xD => (if 0 ≤ x5 then (if x5 ≤ (x3.length : Int) then ((some (x3.drop (x5 : Int).toNat : List Int)).bind fun p6 => (if xD.length + p6.length < 17592186044416 then ((some (xD ++ p6 : List Int)).bind fun pL => ((some (x3.take (x5 : Int).toNat : List Int)).bind fun pM => (if pM.length < 17592186044416 then ((some (pM ++ [rd x0 x4] : List Int)).bind fun oR => (if oR.length + pL.length < 17592186044416 then (al.l0 k x0 (oR ++ pL) (wrap64 (x4 + 1))) else (none))) else (none)))) else (none))) else (none)) else (none))))) else (none)) else (none)) else (none)) else (none)) else ((some (([] : List Int) : List Int)).bind fun CJ => (if 0 ≤ x5 then (if x5 ≤ (x3.length : Int) then ((some (x3.drop (x5 : Int).toNat : List Int)).bind fun rM => (if CJ.length + rM.length < 17592186044416 then ((some (CJ ++ rM : List Int)).bind fun ri => ((some (x3.take (x5 : Int).toNat : List Int)).bind fun rj => (if 0 ≤ x4 then (if x4 < (x0.length : Int) then (if rj.length < 17592186044416 then ((some (rj ++ [rd x0 x4] : List Int)).bind fun qO => (if qO.length + ri.length < 17592186044416 then (al.l0 k x0 (qO ++ ri) (wrap64 (x4 + 1))) else (none))) else (none)) else (none)) else (none)))) else (none))) else (none)) else (none)))
end
def al.f (k : Nat) (l0 : List Int) : Option (List Int) := al.l0 k l0 (([] : List Int)) 0
theorem al.er : ∀ k, (∀ y0 y1 y2, bK (al.l0 k y0 y1 y2) (al.l0 (k + 1) y0 y1 y2)) ∧ (∀ y0 y1 y2 y3, bK (al.l1 k y0 y1 y2 y3) (al.l1 (k + 1) y0 y1 y2 y3))
 | 0 => ⟨fun _ _ _ r h => by simp [al.l0] at h, fun _ _ _ _ r h => by simp [al.l1] at h⟩
 | k + 1 => by
  obtain ⟨ia, oP⟩ := al.er k
  refine ⟨?_, ?_⟩
  · intro y0 y1 y2
    unfold al.l0
    repeat' first
    | (with_reducible exact ia _ _ _)
    | (with_reducible exact oP _ _ _ _)
    | (with_reducible exact bK.refl _)
    | (with_reducible exact bK.none _)
    | (with_reducible refine bK.ite ?_ ?_)
    | (with_reducible refine bK.bind ?_ (fun _ => ?_))
    | exact ia _ _ _
    | exact oP _ _ _ _
    | exact bK.none _
    | refine bK.ite ?_ ?_
    | refine bK.bind ?_ (fun _ => ?_)
  · intro y0 y1 y2 y3
    unfold al.l1
    repeat' first
    | (with_reducible exact ia _ _ _)
    | (with_reducible exact oP _ _ _ _)
    | (with_reducible exact bK.refl _)
    | (with_reducible exact bK.none _)
    | (with_reducible refine bK.ite ?_ ?_)
    | (with_reducible refine bK.bind ?_ (fun _ => ?_))
    | exact ia _ _ _
    | exact oP _ _ _ _
    | exact bK.none _
    | refine bK.ite ?_ ?_
    | refine bK.bind ?_ (fun _ => ?_)
theorem al.mono : ∀ a0 k, bK (al.f k a0) (al.f (k + 1) a0) := by
 intro a0 k
 obtain ⟨ia, oP⟩ := al.er k
 unfold al.f
 repeat' first
  | (with_reducible exact ia _ _ _)
  | (with_reducible exact oP _ _ _ _)
  | (with_reducible exact bK.refl _)
  | (with_reducible exact bK.none _)
  | (with_reducible refine bK.ite ?_ ?_)
  | (with_reducible refine bK.bind ?_ (fun _ => ?_))
  | exact ia _ _ _
  | exact oP _ _ _ _
  | exact bK.none _
  | refine bK.ite ?_ ?_
  | refine bK.bind ?_ (fun _ => ?_)
def al.T6 : Bool × List (List Nat × List Nat) := (true, [([], []), ([0], [0]), ([1], [1]), ([2], [2]), ([2], [2]), ([4, 2], [2, 4]), ([3, 5, 2], [2, 3, 5]), ([6, 2], [2, 6]), ([2], [2]), ([2], [2]), ([8, 9, 2], [2, 8, 9]), ([10, 2], [2, 10]), ([7, 11, 2], [2, 7, 11]), ([2, 12], [2, 12])])
def al.B6 : List Nat := [0, 1, 3, 7, 7, 23, 63, 127, 7, 7, 775, 1799, 4095, 8191]
theorem al.zj : gX .any (opsOf Tryz.f96 6) = al.T6 := by kernel_rfl
theorem al.rN : gm al.T6.2 al.B6 = true := by kernel_rfl
def al.T8 : Bool × List (List Nat × List Nat) := (true, [([], []), ([0], [0]), ([1], [1]), ([2], [2]), ([2], [2]), ([4, 2], [2, 4]), ([3, 5, 2], [2, 3, 5]), ([6, 2], [2, 6]), ([2], [2]), ([2], [2]), ([8, 9, 2], [2, 8, 9]), ([10, 2], [2, 10]), ([7, 11, 2], [2, 7, 11]), ([2, 12], [2, 12])])
def al.B8 : List Nat := [0, 1, 3, 7, 7, 23, 63, 127, 7, 7, 775, 1799, 4095, 8191]
theorem al.abP : gX .any (opsOf Tryz.f96 8) = al.T8 := by kernel_rfl
theorem al.OQ : gm al.T8.2 al.B8 = true := by kernel_rfl
def al.T10 : Bool × List (List Nat × List Nat) := (true, [([], []), ([], []), ([0, 1], [0, 1]), ([], []), ([], []), ([3, 4], [3, 4]), ([5], [5]), ([6], [6]), ([2, 7], [2, 7]), ([], []), ([8, 9, 8], [8, 9]), ([10, 10, 0, 1, 2, 3, 4, 5, 6, 7, 8, 9, 10], [0, 10])])
def al.B10 : List Nat := [0, 0, 3, 0, 0, 24, 56, 120, 255, 0, 1023, 2047]
theorem al.Yc : gX .any (opsOf Tryz.f96 10) = al.T10 := by kernel_rfl
theorem al.OR : gm al.T10.2 al.B10 = true := by kernel_rfl
theorem al.calls (k : Nat) (A0 : Option Addr) (c0 : Nat) (l0 : List Int) (r : List Int) (w : World) (fH : Kd.C (Kd.int .i64) w A0 l0.length l0) (gL : l0.length ≤ c0) (h : al.f k l0 = some r) :
 Calls Tryz.prog 96 #[.slice A0 l0.length c0] w fun e w' => ∃ jf : Value, e = .returned (jf) ∧ Kd.R (Kd.int .i64) 3 w' w.heap.size (fun _ => True) jf r ∧ Below w.heap.size w w' := by
 have eZ := aa.mk fH
 have jN := aa.mk gL
 clear fH gL
 have HB := aa.mk (Below.refl w.heap.size w)
 have H := h
 clear h
 unfold al.f at H
 obtain ⟨ahh, OS⟩ : ∃ y_ : List Int, y_ = (([] : List Int)) := ⟨_, rfl⟩
 replace H : (al.l0 k l0 ahh 0) = some r := by subst OS; exact H
 have Yd := aa.mk OS
 clear OS
 have H' := aa.mk H
 clear H
 go_enter Tryz.func96, Tryz.ntmps96
 go_wp2_with (first | ((with_reducible refine gate_dst (N := 7) rfl ?_); refine Kd.iK (Kd.int .i64) _ 3 ?hg (N := 7) ?hd (xs := ([] : List Int)) (inner := []) (ok := fun _ => True) (okp := fun _ => True) ?hr ?hp (fun _ hk => hk) trivial (Below.refl _ _) (Nat.le_refl _) (by simp) ?_; (case hd => rfl); (case hg => rfl); (case hr => first | (go_simp; done) | (go_simp; rfl)); (case hp => exact (bE.none _ _)); intro v236 w2 ho3 hb hg_ hnew_; clear hg_ hnew_; (first | rw [← Yd.out] at ho3 | (simp only [Int.reduceToNat] at ho3; rw [← Yd.out] at ho3)); have ahj := aa.mk (Kd.aW ho3 (ag (gA HB.out))); replace HB := jL HB hb; clear hb ho3))
 go_loopg [3, 4] k (fun kq v3 v4 w' => ∃ (bd : List Int) (bx : Int), v4 = .int .i64 bx ∧ aa (al.l0 kq l0 bd bx = some r) ∧ aa (kq ≤ k) ∧ aa (Kd.R (Kd.int .i64) 3 w' w.heap.size (fun _ => True) v3 bd) ∧ aa (Below w.heap.size w w'))
 case atStart => exact ⟨(ahh), (0), eF, H', ⟨Nat.le_refl _⟩, ⟨b9 ahj.out⟩, ⟨gA HB.out⟩⟩
 case round =>
  clear H'
  obtain ⟨bd, bx, rfl, HA, fu, dC, HB⟩ := hrel
  cases gk with
  | zero => exact absurd HA.out (by simp [al.l0])
  | succ k1 =>
   have H := HA.out
   clear HA
   simp only [al.l0] at H
   by_cases c4 : bx < (l0.length : Int)
   rotate_left
   · rw [if_neg c4] at H
     have kI : decide (bx < (l0.length : Int)) = false := decide_eq_false c4
     clear c4
     obtain rfl := Option.some.inj H
     go_wp2
     go_ret
     exact ⟨_, ig, b9 dC.out, gA HB.out⟩
   rw [if_pos c4] at H
   have kI : decide (bx < (l0.length : Int)) = true := decide_eq_true c4
   clear c4
   have H' := aa.mk H
   clear H
   obtain ⟨Ye, CK, eo5⟩ := Kd.aN dC.out
   subst eo5
   go_wp2
   go_loopg [5] k1 (fun kq v5 w' => ∃ (cR : Int), v5 = .int .i64 cR ∧ aa (al.l1 kq l0 bd bx cR = some r) ∧ aa (kq ≤ k1) ∧ aa (Kd.R (Kd.int .i64) 3 w' w.heap.size (fun _ => True) (.slice Ye bd.length CK) bd) ∧ aa (Below w.heap.size w w'))
   case atStart => exact ⟨((bd.length : Int)), eF, H', ⟨Nat.le_refl _⟩, ⟨b9 dC.out⟩, ⟨gA HB.out⟩⟩
   case round =>
    clear H'
    try clear kI
    obtain ⟨cR, rfl, HA, jo, dC, HB⟩ := hrel
    cases gk with
    | zero => exact absurd HA.out (by simp [al.l1])
    | succ k2 =>
     have H := HA.out
     clear HA
     simp only [al.l1] at H
     by_cases c6 : cR > 0
     rotate_left
     · rw [if_neg c6] at H
       have pH : decide (0 < cR) = false := decide_eq_false c6
       clear c6
       obtain ⟨CJ, OT⟩ : ∃ y_ : List Int, y_ = (([] : List Int)) := ⟨_, rfl⟩
       replace H : (if 0 ≤ cR then (if cR ≤ (bd.length : Int) then ((some (bd.drop (cR : Int).toNat : List Int)).bind fun rM => (if CJ.length + rM.length < 17592186044416 then ((some (CJ ++ rM : List Int)).bind fun ri => ((some (bd.take (cR : Int).toNat : List Int)).bind fun rj => (if 0 ≤ bx then (if bx < (l0.length : Int) then (if rj.length < 17592186044416 then ((some (rj ++ [rd l0 bx] : List Int)).bind fun qO => (if qO.length + ri.length < 17592186044416 then (al.l0 k2 l0 (qO ++ ri) (wrap64 (bx + 1))) else (none))) else (none)) else (none)) else (none)))) else (none))) else (none)) else (none)) = some r := by subst OT; exact H
       have Yf := aa.mk OT
       clear OT
       obtain ⟨TH, H⟩ := kG H
       have N4 := eq_true TH
       have avw : decide (0 ≤ cR) = true := decide_eq_true TH
       clear TH
       obtain ⟨c35, H⟩ := kG H
       have Yg := eq_true c35
       have avx : decide (cR ≤ (bd.length : Int)) = true := decide_eq_true c35
       clear c35
       obtain ⟨rM, OU⟩ : ∃ y_ : List Int, y_ = (bd.drop (cR : Int).toNat) := ⟨_, rfl⟩
       replace H : (if CJ.length + rM.length < 17592186044416 then ((some (CJ ++ rM : List Int)).bind fun ri => ((some (bd.take (cR : Int).toNat : List Int)).bind fun rj => (if 0 ≤ bx then (if bx < (l0.length : Int) then (if rj.length < 17592186044416 then ((some (rj ++ [rd l0 bx] : List Int)).bind fun qO => (if qO.length + ri.length < 17592186044416 then (al.l0 k2 l0 (qO ++ ri) (wrap64 (bx + 1))) else (none))) else (none)) else (none)) else (none)))) else (none)) = some r := by subst OU; exact H
       have OV := aa.mk OU
       clear OU
       obtain ⟨c36, H⟩ := kG H
       have ahk := aa.mk c36
       clear c36
       obtain ⟨ri, OW⟩ : ∃ y_ : List Int, y_ = (CJ ++ rM) := ⟨_, rfl⟩
       replace H : ((some (bd.take (cR : Int).toNat : List Int)).bind fun rj => (if 0 ≤ bx then (if bx < (l0.length : Int) then (if rj.length < 17592186044416 then ((some (rj ++ [rd l0 bx] : List Int)).bind fun qO => (if qO.length + ri.length < 17592186044416 then (al.l0 k2 l0 (qO ++ ri) (wrap64 (bx + 1))) else (none))) else (none)) else (none)) else (none))) = some r := by subst OW; exact H
       have ahl := aa.mk OW
       clear OW
       have ahm := eq_true (bO : cR ≤ (bd.length : Int))
       obtain ⟨rj, OX⟩ : ∃ y_ : List Int, y_ = (bd.take (cR : Int).toNat) := ⟨_, rfl⟩
       replace H : (if 0 ≤ bx then (if bx < (l0.length : Int) then (if rj.length < 17592186044416 then ((some (rj ++ [rd l0 bx] : List Int)).bind fun qO => (if qO.length + ri.length < 17592186044416 then (al.l0 k2 l0 (qO ++ ri) (wrap64 (bx + 1))) else (none))) else (none)) else (none)) else (none)) = some r := by subst OX; exact H
       have Yh := aa.mk OX
       clear OX
       obtain ⟨avy, H⟩ := dB H
       obtain ⟨ahn, H⟩ := dB H
       obtain ⟨TO, H⟩ := kG H
       have aho := aa.mk TO
       clear TO
       obtain ⟨qO, OY⟩ : ∃ y_ : List Int, y_ = (rj ++ [rd l0 bx]) := ⟨_, rfl⟩
       replace H : (if qO.length + ri.length < 17592186044416 then (al.l0 k2 l0 (qO ++ ri) (wrap64 (bx + 1))) else (none)) = some r := by subst OY; exact H
       have ahp := aa.mk OY
       clear OY
       obtain ⟨c41, H⟩ := kG H
       have ahq := aa.mk c41
       clear c41
       obtain ⟨ahr, OZ⟩ : ∃ y_ : List Int, y_ = (qO ++ ri) := ⟨_, rfl⟩
       replace H : (al.l0 k2 l0 ahr (wrap64 (bx + 1))) = some r := by subst OZ; exact H
       have ahs := aa.mk OZ
       clear OZ
       have H' := aa.mk H
       clear H
       try go_wp2
       replace dC := aa.mk (Kd.bR dC.out)
       replace HB := aa.mk (bD HB.out)
       refine fy (n := 14) (S := fun w' => True) (ds := []) (B_ 0 14) (by kernel_rfl) rfl rfl trivial (fun hHeld => ?_); refine dv al.zj al.rN (fun HT_ HW_ => ?_)
       generalize wr.drew = Yi at dC HB hHeld ⊢
       refine b5 HT_ 0 16 (B_ 1 14) ?_
       refine b5 HT_ 1 17 (B_ 3 14) ?_
       refine b5 HT_ 2 18 (B_ 7 14) ?_
       refine gx HT_ 3 19 (B_ 15 14) ?_
       refine gx HT_ 4 20 (B_ 31 14) ?_
       refine gx HT_ 5 21 (B_ 63 14) ?_
       refine gx HT_ 6 22 (B_ 127 14) ?_
       refine gx HT_ 7 23 (B_ 255 14) ?_
       refine gx HT_ 8 24 (B_ 511 14) ?_
       refine gx HT_ 9 25 (B_ 1023 14) ?_
       refine gx HT_ 10 26 (B_ 2047 14) ?_
       refine gx HT_ 11 27 (B_ 4095 14) ?_
       refine gx HT_ 12 28 (B_ 8191 14) ?_
       refine b5 HT_ 13 29 (B_ 16383 14) ?_
       refine ik (eS HT_.out (by kernel_rfl)) ?_
       try go_wp2
       replace dC := aa.mk (Kd.bR dC.out)
       replace HB := aa.mk (bD HB.out)
       refine fy (n := 14) (S := fun w' => True) (ds := []) (B_ 0 14) (by kernel_rfl) rfl rfl trivial (fun hHeld => ?_); refine dv al.abP al.OQ (fun HT_ HW_ => ?_)
       generalize Yi.drew = w43 at dC HB hHeld ⊢
       refine b5 HT_ 0 32 (B_ 1 14) ?_
       refine b5 HT_ 1 33 (B_ 3 14) ?_
       refine b5 HT_ 2 34 (B_ 7 14) ?_
       refine gx HT_ 3 35 (B_ 15 14) ?_
       refine gx HT_ 4 36 (B_ 31 14) ?_
       refine gx HT_ 5 37 (B_ 63 14) ?_
       refine gx HT_ 6 38 (B_ 127 14) ?_
       refine gx HT_ 7 39 (B_ 255 14) ?_
       refine gx HT_ 8 40 (B_ 511 14) ?_
       refine gx HT_ 9 41 (B_ 1023 14) ?_
       refine gx HT_ 10 42 (B_ 2047 14) ?_
       refine gx HT_ 11 43 (B_ 4095 14) ?_
       refine gx HT_ 12 44 (B_ 8191 14) ?_
       refine b5 HT_ 13 45 (B_ 16383 14) ?_
       refine ik (eS HT_.out (by kernel_rfl)) ?_
       try go_wp2_with (first | ((with_reducible refine gate_dst (N := 46) rfl ?_); refine Kd.iK (Kd.int .i64) _ 3 ?hg (N := 46) ?hd (xs := ([] : List Int)) (inner := []) (ok := fun _ => True) (okp := fun _ => True) ?hr ?hp (fun _ hk => hk) trivial (Below.refl _ _) (Nat.le_refl _) (by simp) ?_; (case hd => rfl); (case hg => rfl); (case hr => first | (go_simp; done) | (go_simp; rfl)); (case hp => exact (bE.none _ _)); intro aqD w44 L0 hb hg_ hnew_; clear hg_ hnew_; (first | rw [← Yf.out] at L0 | (simp only [Int.reduceToNat] at L0; rw [← Yf.out] at L0)); have Yj := aa.mk (Kd.aW (Kd.eV L0 (Kd.gy (b9 dC.out))) (ag (gA HB.out))); replace dC := aa.mk (Kd.dZ (b9 dC.out) (Kd.cV L0) hb); replace HB := jL HB hb; clear hb L0; have q46 : (cR : Int) ≤ ((bd.length : Int) : Int) := bO; obtain ⟨azF, Yk, _, Yl, _⟩ := info_parts iS; have CL : bd.length ≤ CK := (Kd.ao dC.out).2.1; have aht : Kd.C (Kd.int .i64) _ Ye bd.length bd := (Kd.ao dC.out).2.2; have aqF : (0 : Int) ≤ (cR : Int) := bO; have abS := ug (P := Tryz.prog) 24 3 .i64 Tryz.underlying24 Yk 1 Yl Ye bd.length CK cR aqF q46; have O0 := Kd.yz (m := (cR : Int).toNat) (c := CK) aht (by omega) CL; obtain ⟨A46, UJ⟩ : ∃ A1, A1 = (if CK = (cR : Int).toNat then Ye else (Ye : Option Addr).map (·.add ((cR : Int).toNat * 1))) := ⟨_, rfl⟩; obtain ⟨c46, abT⟩ : ∃ c1, c1 = CK - (cR : Int).toNat := ⟨_, rfl⟩; have UK : rM.length = bd.length - (cR : Int).toNat := (by rw [OV.out, List.length_drop] <;> omega); rw [show (bd).drop (cR : Int).toNat = rM from OV.out.symm] at O0; replace O0 : Kd.C (Kd.int .i64) _ A46 rM.length rM := (by rw [UJ]; exact O0); rw [← UK, ← UJ, ← abT] at abS; have Bz := aa.mk O0; have avA := aa.mk (show rM.length ≤ c46 from by rw [UK, abT]; exact Nat.sub_le_sub_right CL _); clear O0 aht CL Yk Yl abT; have azH := aa.mk UK; have aqG := aa.mk UJ; clear UK UJ; have aqH := aa.mk (show (cR : Int).toNat ≤ bd.length from by omega); replace q46 := eq_true q46) | ((with_reducible refine gate_builtin (b := .append) (xs := #[.tmp 46, .tmp 49]) rfl ?_); at_builtin; refine Kd.kn (Kd.int .i64) (w0 := w) w.heap.size rfl (.tmp 46) (.tmp 49) 24 3 (.int .i64 0) 8 rfl Tryz.underlying24 iS rfl (by decide) (by omega) aqD CJ rM _ _ _ (fun k_ => some k_ ≠ (.slice Ye bd.length CK : Value).ownBlock) (fun _ => False) rfl rfl ?aO ?aR (fun _ _ h => h) (fun _ h => h.elim) ?aF ?aB ?aS ?aL ?_; (case aR => repeat (first | exact (by repeat (first | (with_reducible exact Bz.out) | (with_reducible refine Kd.cz ?_ _) | (with_reducible refine Kd.cA ?_ _) | (with_reducible refine Kd.di ?_) | exact Bz.out)) | (with_reducible refine Kd.cz ?_ _) | (with_reducible refine Kd.cA ?_ _) | (with_reducible refine Kd.di ?_))); (case aB => exact (gA HB.out)); (case aF => exact (fun k_ hk => Kd.cM (Kd.gy (b9 dC.out)) k_ hk)); (case aO => exact (by (with_reducible repeat (first | apply Kd.bQ | apply Kd.bT | apply Kd.bR)); exact Kd.bB Yj.out (fun _ hk => hk.2))); (case aS => exact (ag (gA HB.out))); (case aL => have := ahk.out; omega); intro aqI w47 ho hb hg hat; rw [← ahl.out] at ho; replace HB := aa.mk (hb); replace Bz := aa.mk ((show Kd.C (Kd.int .i64) w47 A46 rM.length rM from by rw [OV.out, aqG.out]; exact Kd.yz (m := (cR : Int).toNat) (c := CK) ((Kd.ao (Kd.kt (ok := (fun _ => True)) (b9 dC.out) hg hat)).2.2) aqH.out ((Kd.ao (Kd.kt (ok := (fun _ => True)) (b9 dC.out) hg hat)).2.1))); replace dC := aa.mk (Kd.kt (ok := (fun _ => True)) (b9 dC.out) hg hat); have rO := aa.mk (ho); clear Yj; clear ho hb hg hat))
       replace dC := aa.mk (Kd.bR dC.out)
       replace rO := aa.mk (Kd.bR rO.out)
       replace Bz := aa.mk (Kd.di Bz.out)
       replace HB := aa.mk (bD HB.out)
       have q49 : (cR : Int) ≤ ((bd.length : Int) : Int) := bO
       obtain ⟨azI, Ym, _, ahv, _⟩ := info_parts iS
       have abU := vH (P := Tryz.prog) 24 3 .i64 Tryz.underlying24 Ym Ye bd.length CK cR (bO) q49 (Kd.ao dC.out).2.1
       have UM := Kd.No (m := (cR : Int).toNat) dC.out (by omega)
       have ahw : rj.length = (cR : Int).toNat := (by rw [Yh.out, List.length_take]; omega)
       rw [← Yh.out] at UM
       rw [← ahw] at UM abU
       clear ahw Ym ahv dC
       have O1 := aa.mk UM
       clear UM
       replace q49 := eq_true q49
       have Ew : 0 ≤ (bx : Int) := bO
       have Ex : bx < (l0.length : Int) := bO
       obtain ⟨ahx, aqK, ux⟩ := Kd.aZ eZ.out bx Ew Ex
       have j8 := ux
       cases aqK
       (try replace ux := (HB.out.cell (World.block_lt_of_cell? w _ ux)).trans ux)
       replace Ew := eq_true Ew
       replace Ex := eq_true Ex
       refine fy (n := 12) (S := fun w' => w'.cell? (ahx.add (bx).toNat) = some (.int .i64 (rd l0 bx))) (ds := []) (B_ 0 12) (by kernel_rfl) rfl rfl (by first | exact j8 | exact (HB.out.cell (World.block_lt_of_cell? w _ j8)).trans j8 | (obtain ⟨_, e_, h_⟩ := Kd.aZ eZ.out bx (of_eq_true Ew) (of_eq_true Ex); cases e_; exact h_)) (fun hHeld => ?_); refine dv al.Yc al.OR (fun HT_ HW_ => ?_)
       generalize w47.drew = w48 at dC rO Bz HB O1 ux hHeld ⊢
       refine b5 HT_ 0 51 (B_ 1 12) ?_
       refine b5 HT_ 1 52 (B_ 3 12) ?_
       refine b5 HT_ 2 53 (B_ 7 12) ?_
       refine b5 HT_ 3 54 (B_ 15 12) ?_
       refine b5 HT_ 4 55 (B_ 31 12) ?_
       refine b5 HT_ 5 56 (B_ 63 12) ?_
       refine b5 HT_ 9 60 (B_ 575 12) ?_
       refine lL HT_ HW_ hHeld 6 57 (B_ 639 12) ?_
       refine o2 HT_ 7 58 (B_ 767 12) (fun K hK => ?_)
       refine kU (w1 := ?_) (v := ?_) (by rfl) rfl ?_ ?_
       rotate_left 2
       · go_simp
         constructor
         · rfl
         · rfl
       refine hK.out _ _ ((World.cell?_alloc_lt _ _ _ (World.block_lt_of_cell? _ _ (by first | exact j8 | exact (HB.out.cell (World.block_lt_of_cell? w _ j8)).trans j8 | (obtain ⟨_, e_, h_⟩ := Kd.aZ eZ.out bx (of_eq_true Ew) (of_eq_true Ex); cases e_; exact h_)))).trans (by first | exact j8 | exact (HB.out.cell (World.block_lt_of_cell? w _ j8)).trans j8 | (obtain ⟨_, e_, h_⟩ := Kd.aZ eZ.out bx (of_eq_true Ew) (of_eq_true Ex); cases e_; exact h_))) (fun hHeld => ?_)
       clear hK K
       refine ep (a' := ?_) ?_ ?_
       rotate_left
       · show Act.put _ (some 58) _ = _
         simp only [Act.put, jK, jA, jB, b6, dw]
         rfl
       refine o2 HT_ 8 59 (B_ 1023 12) (fun K hK => ?_)
       refine Kd.kY (Kd.int .i64) (w0 := w) w.heap.size (by rfl) (.tmp 53) (.tmp 58) 24 3 (.int .i64 0) 8 rfl Tryz.underlying24 iS rfl (by decide) (by omega) (.slice Ye rj.length CK) rj (rd l0 bx) [.int .i64 (rd l0 bx)] (fun k_ => some k_ ≠ (aqI : Value).ownBlock) (fun _ => False) rfl rfl ?aP (fun _ hk => hk.elim) ?aF ?aO ?aB ?aS ?aL ?_
       (case aP => exact rfl)
       (case aB => exact (gA HB.out))
       (case aF => exact (fun k_ hk => Kd.cM (Kd.gy (b9 rO.out)) k_ hk))
       (case aO => exact (by (with_reducible repeat (first | apply Kd.bQ | apply Kd.bT | apply Kd.bR)); exact Kd.bB O1.out (fun _ hk => hk.2)))
       (case aS => exact (ag (gA HB.out)))
       (case aL => have := aho.out; omega)
       intro aqM w50 ho hb hg hat
       rw [← ahp.out] at ho
       replace rO := aa.mk (Kd.kt (ok := (fun _ => True)) (by (with_reducible repeat (first | apply Kd.bQ | apply Kd.bT | apply Kd.bR)); exact Kd.bB rO.out (fun _ hk => ⟨trivial, by first | exact hk | exact (fun e_ => hk (e_.trans (D_ _ _ _ _ _)))⟩)) hg hat)
       replace HB := aa.mk (hb)
       have Yn := aa.mk (ho)
       clear O1
       clear ho hb hg hat
       obtain ⟨L3, Ho, L4⟩ := Kd.aN rO.out
       (first | subst L4 | (injection L4 with ox tM oy; have tN := ox.symm; have tO := oy.symm; clear ox tM oy; subst tN; subst tO))
       refine hK.out _ _ (by first | exact j8 | exact (HB.out.cell (World.block_lt_of_cell? w _ j8)).trans j8 | (obtain ⟨_, e_, h_⟩ := Kd.aZ eZ.out bx (of_eq_true Ew) (of_eq_true Ex); cases e_; exact h_)) (fun hHeld => ?_)
       clear hK K
       refine ep (a' := ?_) ?_ ?_
       rotate_left
       · show Act.put _ (some 59) _ = _
         simp only [Act.put, jK, jA, jB, b6, dw]
         rfl
       refine o2 HT_ 10 61 (B_ 2047 12) (fun K hK => ?_)
       refine Kd.lf (Kd.int .i64) (w0 := w) w.heap.size (by rfl) (.tmp 59) (.tmp 60) 24 3 (.int .i64 0) 8 rfl Tryz.underlying24 iS rfl (by decide) (by omega) aqM qO ri _ _ _ (fun k_ => some k_ ≠ (.slice L3 ri.length Ho : Value).ownBlock) (fun _ => False) rfl rfl ?aO ?aR (fun _ _ h => h) (fun _ h => h.elim) ?aF ?aB ?aS ?aL ?_
       (case aR => exact kx ((Kd.ao rO.out).2.2))
       (case aB => exact (gA HB.out))
       (case aF => exact (fun k_ hk => Kd.cM (Kd.gy (b9 rO.out)) k_ hk))
       (case aO => exact (b9 Yn.out))
       (case aS => exact (ag (gA HB.out)))
       (case aL => have := ahq.out; omega)
       intro azK w51 ho hb hg hat
       rw [← ahs.out] at ho
       replace rO := aa.mk (Kd.kt (ok := (fun _ => True)) (b9 rO.out) hg hat)
       replace HB := aa.mk (hb)
       have ahy := aa.mk (ho)
       clear Yn
       clear ho hb hg hat
       refine hK.out _ _ (by first | exact j8 | exact (HB.out.cell (World.block_lt_of_cell? w _ j8)).trans j8 | (obtain ⟨_, e_, h_⟩ := Kd.aZ eZ.out bx (of_eq_true Ew) (of_eq_true Ex); cases e_; exact h_)) (fun hHeld => ?_)
       clear hK K
       refine ep (a' := ?_) ?_ ?_
       rotate_left
       · show Act.put _ (some 61) _ = _
         simp only [Act.put, jK, jA, jB, b6, dw]
         rfl
       refine b5 HT_ 11 3 (B_ 4095 12) ?_
       refine ik (eS HT_.out (by kernel_rfl)) ?_
       try go_wp2
       go_roundg k2
       case measure => have := fu.out; have := jo.out; omega
       case rel => exact ⟨(ahr), (wrap64 (bx + 1)), eF, H', ⟨by have := fu.out; have := jo.out; omega⟩, ⟨by (with_reducible repeat (first | apply Kd.bQ | apply Kd.bT | apply Kd.bR)); exact Kd.bB ahy.out (fun _ hk => trivial)⟩, ⟨gA HB.out⟩⟩
     rw [if_pos c6] at H
     have pH : decide (0 < cR) = true := decide_eq_true c6
     clear c6
     obtain ⟨qy, UN⟩ : ∃ j_ : Int, (wrap64 (cR - 1)) = j_ := ⟨_, rfl⟩
     replace H : (if 0 ≤ (qy) then (if (qy) < (bd.length : Int) then (if 0 ≤ bx then (if bx < (l0.length : Int) then (if (rd bd (qy)) > (rd l0 bx) then (al.l1 k2 l0 bd bx qy) else (if (rd bd (qy)) = (rd l0 bx) then (al.l0 k2 l0 bd (wrap64 (bx + 1))) else ((some (([] : List Int) : List Int)).bind fun xD => (if 0 ≤ cR then (if cR ≤ (bd.length : Int) then ((some (bd.drop (cR : Int).toNat : List Int)).bind fun p6 => (if xD.length + p6.length < 17592186044416 then ((some (xD ++ p6 : List Int)).bind fun pL => ((some (bd.take (cR : Int).toNat : List Int)).bind fun pM => (if pM.length < 17592186044416 then ((some (pM ++ [rd l0 bx] : List Int)).bind fun oR => (if oR.length + pL.length < 17592186044416 then (al.l0 k2 l0 (oR ++ pL) (wrap64 (bx + 1))) else (none))) else (none)))) else (none))) else (none)) else (none))))) else (none)) else (none)) else (none)) else (none)) = some r := by first | (rw [UN] at H; exact H) | (simp only [UN] at H ⊢; exact H)
     have avB : (IntKind.i64.wrap (cR - 1)) = qy := (b6 _).trans UN
     obtain ⟨rD, H⟩ := dB H
     obtain ⟨uo, H⟩ := dB H
     obtain ⟨pW, H⟩ := dB H
     obtain ⟨yW, H⟩ := dB H
     by_cases pK : (rd bd (qy)) > (rd l0 bx)
     · rw [if_pos pK] at H
       have o6 : decide ((rd l0 bx) < (rd bd (qy))) = true := decide_eq_true pK
       clear pK
       have H' := aa.mk H
       clear H
       try go_wp2
       replace dC := aa.mk (Kd.bR dC.out)
       replace HB := aa.mk (bD HB.out)
       have zk : 0 ≤ ((qy) : Int) := bO
       have zm : (qy) < (bd.length : Int) := bO
       obtain ⟨nG, O2, o8⟩ := Kd.aZ (Kd.ao dC.out).2.2 (qy) zk zm
       cases O2
       replace zk := eq_true zk
       replace zm := eq_true zm
       have zn : 0 ≤ (bx : Int) := bO
       have zo : bx < (l0.length : Int) := bO
       obtain ⟨rP, O3, ju⟩ := Kd.aZ eZ.out bx zn zo
       have o9 := ju
       cases O3
       (try replace ju := (HB.out.cell (World.block_lt_of_cell? w _ ju)).trans ju)
       replace zn := eq_true zn
       replace zo := eq_true zo
       refine fy (n := 14) (S := fun w' => w'.cell? (nG.add ((qy)).toNat) = some (.int .i64 (rd bd (qy))) ∧ w'.cell? (rP.add (bx).toNat) = some (.int .i64 (rd l0 bx))) (ds := []) (B_ 0 14) (by kernel_rfl) rfl rfl ⟨o8, ((HB.out.cell (World.block_lt_of_cell? w _ o9)).trans o9)⟩ (fun hHeld => ?_); refine dv al.zj al.rN (fun HT_ HW_ => ?_)
       generalize wr.drew = Eb at dC HB o8 ju hHeld ⊢
       refine b5 HT_ 0 16 (B_ 1 14) ?_
       refine b5 HT_ 1 17 (B_ 3 14) ?_
       refine b5 HT_ 2 18 (B_ 7 14) ?_
       refine b5 HT_ 3 19 (B_ 15 14) ?_
       refine b5 HT_ 4 20 (B_ 31 14) ?_
       refine b5 HT_ 5 21 (B_ 63 14) ?_
       refine b5 HT_ 6 22 (B_ 127 14) ?_
       refine b5 HT_ 8 24 (B_ 383 14) ?_
       refine b5 HT_ 9 25 (B_ 895 14) ?_
       refine b5 HT_ 10 26 (B_ 1919 14) ?_
       refine ni HT_ HW_ hHeld 7 23 (B_ 2047 14) ?_
       refine ni HT_ HW_ hHeld 11 27 (B_ 4095 14) ?_
       refine b5 HT_ 12 28 (B_ 8191 14) ?_
       refine b5 HT_ 13 29 (B_ 16383 14) ?_
       refine ik (eS HT_.out (by kernel_rfl)) ?_
       try go_wp2
       go_roundg k2
       case measure => have := fu.out; have := jo.out; omega
       case rel => exact ⟨(qy), (by first | rfl | (simp; done) | (simp only [← UN] <;> (first | rfl | simp)) | (simp [*]; done)), H', ⟨by have := fu.out; have := jo.out; omega⟩, ⟨b9 dC.out⟩, ⟨gA HB.out⟩⟩
     rw [if_neg pK] at H
     have o6 : decide ((rd l0 bx) < (rd bd (qy))) = false := decide_eq_false pK
     clear pK
     by_cases mG : (rd bd (qy)) = (rd l0 bx)
     · rw [if_pos mG] at H
       have jQ : ((rd bd (qy)) == (rd l0 bx)) = true := beq_iff_eq.mpr mG
       have Bp : ((rd bd (qy)) != (rd l0 bx)) = false := bne_eq_false_iff_eq.mpr mG
       clear mG
       have H' := aa.mk H
       clear H
       try go_wp2
       replace dC := aa.mk (Kd.bR dC.out)
       replace HB := aa.mk (bD HB.out)
       have zk : 0 ≤ ((qy) : Int) := bO
       have zm : (qy) < (bd.length : Int) := bO
       obtain ⟨nG, O2, o8⟩ := Kd.aZ (Kd.ao dC.out).2.2 (qy) zk zm
       cases O2
       replace zk := eq_true zk
       replace zm := eq_true zm
       have zn : 0 ≤ (bx : Int) := bO
       have zo : bx < (l0.length : Int) := bO
       obtain ⟨rP, O3, ju⟩ := Kd.aZ eZ.out bx zn zo
       have o9 := ju
       cases O3
       (try replace ju := (HB.out.cell (World.block_lt_of_cell? w _ ju)).trans ju)
       replace zn := eq_true zn
       replace zo := eq_true zo
       refine fy (n := 14) (S := fun w' => w'.cell? (nG.add ((qy)).toNat) = some (.int .i64 (rd bd (qy))) ∧ w'.cell? (rP.add (bx).toNat) = some (.int .i64 (rd l0 bx))) (ds := []) (B_ 0 14) (by kernel_rfl) rfl rfl ⟨o8, ((HB.out.cell (World.block_lt_of_cell? w _ o9)).trans o9)⟩ (fun hHeld => ?_); refine dv al.zj al.rN (fun HT_ HW_ => ?_)
       generalize wr.drew = LS at dC HB o8 ju hHeld ⊢
       refine b5 HT_ 0 16 (B_ 1 14) ?_
       refine b5 HT_ 1 17 (B_ 3 14) ?_
       refine b5 HT_ 2 18 (B_ 7 14) ?_
       refine b5 HT_ 3 19 (B_ 15 14) ?_
       refine b5 HT_ 4 20 (B_ 31 14) ?_
       refine b5 HT_ 5 21 (B_ 63 14) ?_
       refine b5 HT_ 6 22 (B_ 127 14) ?_
       refine b5 HT_ 8 24 (B_ 383 14) ?_
       refine b5 HT_ 9 25 (B_ 895 14) ?_
       refine b5 HT_ 10 26 (B_ 1919 14) ?_
       refine ni HT_ HW_ hHeld 7 23 (B_ 2047 14) ?_
       refine ni HT_ HW_ hHeld 11 27 (B_ 4095 14) ?_
       refine b5 HT_ 12 28 (B_ 8191 14) ?_
       refine b5 HT_ 13 29 (B_ 16383 14) ?_
       refine ik (eS HT_.out (by kernel_rfl)) ?_
       try go_wp2
       replace dC := aa.mk (Kd.bR dC.out)
       replace HB := aa.mk (bD HB.out)
       have Hp : 0 ≤ ((qy) : Int) := bO
       have Hq : (qy) < (bd.length : Int) := bO
       obtain ⟨O4, abV, uy⟩ := Kd.aZ (Kd.ao dC.out).2.2 (qy) Hp Hq
       obtain rfl : nG = O4 := (by injection abV)
       replace Hp := eq_true Hp
       replace Hq := eq_true Hq
       have Hr : 0 ≤ (bx : Int) := bO
       have Hs : bx < (l0.length : Int) := bO
       obtain ⟨O5, abW, l4⟩ := Kd.aZ eZ.out bx Hr Hs
       have uz := l4
       obtain rfl : rP = O5 := (by injection abW)
       (try replace l4 := (HB.out.cell (World.block_lt_of_cell? w _ l4)).trans l4)
       replace Hr := eq_true Hr
       replace Hs := eq_true Hs
       refine fy (n := 14) (S := fun w' => w'.cell? (nG.add ((qy)).toNat) = some (.int .i64 (rd bd (qy))) ∧ w'.cell? (rP.add (bx).toNat) = some (.int .i64 (rd l0 bx))) (ds := []) (B_ 0 14) (by kernel_rfl) rfl rfl ⟨uy, ((HB.out.cell (World.block_lt_of_cell? w _ uz)).trans uz)⟩ (fun hHeld => ?_); refine dv al.abP al.OQ (fun HT_ HW_ => ?_)
       generalize LS.drew = LX at dC HB uy l4 hHeld ⊢
       refine b5 HT_ 0 32 (B_ 1 14) ?_
       refine b5 HT_ 1 33 (B_ 3 14) ?_
       refine b5 HT_ 2 34 (B_ 7 14) ?_
       refine b5 HT_ 3 35 (B_ 15 14) ?_
       refine b5 HT_ 4 36 (B_ 31 14) ?_
       refine b5 HT_ 5 37 (B_ 63 14) ?_
       refine b5 HT_ 6 38 (B_ 127 14) ?_
       refine b5 HT_ 8 40 (B_ 383 14) ?_
       refine b5 HT_ 9 41 (B_ 895 14) ?_
       refine b5 HT_ 10 42 (B_ 1919 14) ?_
       refine ni HT_ HW_ hHeld 7 39 (B_ 2047 14) ?_
       refine ni HT_ HW_ hHeld 11 43 (B_ 4095 14) ?_
       refine b5 HT_ 12 44 (B_ 8191 14) ?_
       refine b5 HT_ 13 45 (B_ 16383 14) ?_
       refine ik (eS HT_.out (by kernel_rfl)) ?_
       try go_wp2
       go_roundg k2
       case measure => have := fu.out; have := jo.out; omega
       case rel => exact ⟨(bd), (wrap64 (bx + 1)), eF, H', ⟨by have := fu.out; have := jo.out; omega⟩, ⟨b9 dC.out⟩, ⟨gA HB.out⟩⟩
     rw [if_neg mG] at H
     have jQ : ((rd bd (qy)) == (rd l0 bx)) = false := beq_eq_false_iff_ne.mpr mG
     have Bp : ((rd bd (qy)) != (rd l0 bx)) = true := bne_iff_ne.mpr mG
     obtain ⟨xD, O6⟩ : ∃ y_ : List Int, y_ = (([] : List Int)) := ⟨_, rfl⟩
     replace H : (if 0 ≤ cR then (if cR ≤ (bd.length : Int) then ((some (bd.drop (cR : Int).toNat : List Int)).bind fun p6 => (if xD.length + p6.length < 17592186044416 then ((some (xD ++ p6 : List Int)).bind fun pL => ((some (bd.take (cR : Int).toNat : List Int)).bind fun pM => (if pM.length < 17592186044416 then ((some (pM ++ [rd l0 bx] : List Int)).bind fun oR => (if oR.length + pL.length < 17592186044416 then (al.l0 k2 l0 (oR ++ pL) (wrap64 (bx + 1))) else (none))) else (none)))) else (none))) else (none)) else (none)) = some r := by subst O6; exact H
     have Yo := aa.mk O6
     clear O6
     obtain ⟨oN, H⟩ := kG H
     have oA := eq_true oN
     have JF : decide (0 ≤ cR) = true := decide_eq_true oN
     clear oN
     obtain ⟨vN, H⟩ := kG H
     have za := eq_true vN
     have avC : decide (cR ≤ (bd.length : Int)) = true := decide_eq_true vN
     clear vN
     obtain ⟨p6, O7⟩ : ∃ y_ : List Int, y_ = (bd.drop (cR : Int).toNat) := ⟨_, rfl⟩
     replace H : (if xD.length + p6.length < 17592186044416 then ((some (xD ++ p6 : List Int)).bind fun pL => ((some (bd.take (cR : Int).toNat : List Int)).bind fun pM => (if pM.length < 17592186044416 then ((some (pM ++ [rd l0 bx] : List Int)).bind fun oR => (if oR.length + pL.length < 17592186044416 then (al.l0 k2 l0 (oR ++ pL) (wrap64 (bx + 1))) else (none))) else (none)))) else (none)) = some r := by subst O7; exact H
     have O8 := aa.mk O7
     clear O7
     obtain ⟨rE, H⟩ := kG H
     have O9 := aa.mk rE
     clear rE
     obtain ⟨pL, O_⟩ : ∃ y_ : List Int, y_ = (xD ++ p6) := ⟨_, rfl⟩
     replace H : ((some (bd.take (cR : Int).toNat : List Int)).bind fun pM => (if pM.length < 17592186044416 then ((some (pM ++ [rd l0 bx] : List Int)).bind fun oR => (if oR.length + pL.length < 17592186044416 then (al.l0 k2 l0 (oR ++ pL) (wrap64 (bx + 1))) else (none))) else (none))) = some r := by subst O_; exact H
     have ahz := aa.mk O_
     clear O_
     have tr := eq_true (bO : cR ≤ (bd.length : Int))
     obtain ⟨pM, Pa⟩ : ∃ y_ : List Int, y_ = (bd.take (cR : Int).toNat) := ⟨_, rfl⟩
     replace H : (if pM.length < 17592186044416 then ((some (pM ++ [rd l0 bx] : List Int)).bind fun oR => (if oR.length + pL.length < 17592186044416 then (al.l0 k2 l0 (oR ++ pL) (wrap64 (bx + 1))) else (none))) else (none)) = some r := by subst Pa; exact H
     have Yp := aa.mk Pa
     clear Pa
     obtain ⟨GP, H⟩ := kG H
     have ahA := aa.mk GP
     clear GP
     obtain ⟨oR, Pb⟩ : ∃ y_ : List Int, y_ = (pM ++ [rd l0 bx]) := ⟨_, rfl⟩
     replace H : (if oR.length + pL.length < 17592186044416 then (al.l0 k2 l0 (oR ++ pL) (wrap64 (bx + 1))) else (none)) = some r := by subst Pb; exact H
     have ahB := aa.mk Pb
     clear Pb
     obtain ⟨wJ, H⟩ := kG H
     have ahC := aa.mk wJ
     clear wJ
     obtain ⟨ahD, Pc⟩ : ∃ y_ : List Int, y_ = (oR ++ pL) := ⟨_, rfl⟩
     replace H : (al.l0 k2 l0 ahD (wrap64 (bx + 1))) = some r := by subst Pc; exact H
     have ahE := aa.mk Pc
     clear Pc
     have H' := aa.mk H
     clear H
     try go_wp2
     replace dC := aa.mk (Kd.bR dC.out)
     replace HB := aa.mk (bD HB.out)
     have zk : 0 ≤ ((qy) : Int) := bO
     have zm : (qy) < (bd.length : Int) := bO
     obtain ⟨nG, O2, o8⟩ := Kd.aZ (Kd.ao dC.out).2.2 (qy) zk zm
     cases O2
     replace zk := eq_true zk
     replace zm := eq_true zm
     have zn : 0 ≤ (bx : Int) := bO
     have zo : bx < (l0.length : Int) := bO
     obtain ⟨rP, O3, ju⟩ := Kd.aZ eZ.out bx zn zo
     have o9 := ju
     cases O3
     (try replace ju := (HB.out.cell (World.block_lt_of_cell? w _ ju)).trans ju)
     replace zn := eq_true zn
     replace zo := eq_true zo
     refine fy (n := 14) (S := fun w' => w'.cell? (nG.add ((qy)).toNat) = some (.int .i64 (rd bd (qy))) ∧ w'.cell? (rP.add (bx).toNat) = some (.int .i64 (rd l0 bx))) (ds := []) (B_ 0 14) (by kernel_rfl) rfl rfl ⟨o8, ((HB.out.cell (World.block_lt_of_cell? w _ o9)).trans o9)⟩ (fun hHeld => ?_); refine dv al.zj al.rN (fun HT_ HW_ => ?_)
     generalize wr.drew = xV at dC HB o8 ju hHeld ⊢
     refine b5 HT_ 0 16 (B_ 1 14) ?_
     refine b5 HT_ 1 17 (B_ 3 14) ?_
     refine b5 HT_ 2 18 (B_ 7 14) ?_
     refine b5 HT_ 3 19 (B_ 15 14) ?_
     refine b5 HT_ 4 20 (B_ 31 14) ?_
     refine b5 HT_ 5 21 (B_ 63 14) ?_
     refine b5 HT_ 6 22 (B_ 127 14) ?_
     refine b5 HT_ 8 24 (B_ 383 14) ?_
     refine b5 HT_ 9 25 (B_ 895 14) ?_
     refine b5 HT_ 10 26 (B_ 1919 14) ?_
     refine ni HT_ HW_ hHeld 7 23 (B_ 2047 14) ?_
     refine ni HT_ HW_ hHeld 11 27 (B_ 4095 14) ?_
     refine b5 HT_ 12 28 (B_ 8191 14) ?_
     refine b5 HT_ 13 29 (B_ 16383 14) ?_
     refine ik (eS HT_.out (by kernel_rfl)) ?_
     try go_wp2
     replace dC := aa.mk (Kd.bR dC.out)
     replace HB := aa.mk (bD HB.out)
     have Hp : 0 ≤ ((qy) : Int) := bO
     have Hq : (qy) < (bd.length : Int) := bO
     obtain ⟨O4, abV, uy⟩ := Kd.aZ (Kd.ao dC.out).2.2 (qy) Hp Hq
     obtain rfl : nG = O4 := (by injection abV)
     replace Hp := eq_true Hp
     replace Hq := eq_true Hq
     have Hr : 0 ≤ (bx : Int) := bO
     have Hs : bx < (l0.length : Int) := bO
     obtain ⟨O5, abW, l4⟩ := Kd.aZ eZ.out bx Hr Hs
     have uz := l4
     obtain rfl : rP = O5 := (by injection abW)
     (try replace l4 := (HB.out.cell (World.block_lt_of_cell? w _ l4)).trans l4)
     replace Hr := eq_true Hr
     replace Hs := eq_true Hs
     refine fy (n := 14) (S := fun w' => w'.cell? (nG.add ((qy)).toNat) = some (.int .i64 (rd bd (qy))) ∧ w'.cell? (rP.add (bx).toNat) = some (.int .i64 (rd l0 bx))) (ds := []) (B_ 0 14) (by kernel_rfl) rfl rfl ⟨uy, ((HB.out.cell (World.block_lt_of_cell? w _ uz)).trans uz)⟩ (fun hHeld => ?_); refine dv al.abP al.OQ (fun HT_ HW_ => ?_)
     generalize xV.drew = Ek at dC HB uy l4 hHeld ⊢
     refine b5 HT_ 0 32 (B_ 1 14) ?_
     refine b5 HT_ 1 33 (B_ 3 14) ?_
     refine b5 HT_ 2 34 (B_ 7 14) ?_
     refine b5 HT_ 3 35 (B_ 15 14) ?_
     refine b5 HT_ 4 36 (B_ 31 14) ?_
     refine b5 HT_ 5 37 (B_ 63 14) ?_
     refine b5 HT_ 6 38 (B_ 127 14) ?_
     refine b5 HT_ 8 40 (B_ 383 14) ?_
     refine b5 HT_ 9 41 (B_ 895 14) ?_
     refine b5 HT_ 10 42 (B_ 1919 14) ?_
     refine ni HT_ HW_ hHeld 7 39 (B_ 2047 14) ?_
     refine ni HT_ HW_ hHeld 11 43 (B_ 4095 14) ?_
     refine b5 HT_ 12 44 (B_ 8191 14) ?_
     refine b5 HT_ 13 45 (B_ 16383 14) ?_
     refine ik (eS HT_.out (by kernel_rfl)) ?_
     try go_wp2_with (first | ((with_reducible refine gate_dst (N := 46) rfl ?_); refine Kd.iK (Kd.int .i64) _ 3 ?hg (N := 46) ?hd (xs := ([] : List Int)) (inner := []) (ok := fun _ => True) (okp := fun _ => True) ?hr ?hp (fun _ hk => hk) trivial (Below.refl _ _) (Nat.le_refl _) (by simp) ?_; (case hd => rfl); (case hg => rfl); (case hr => first | (go_simp; done) | (go_simp; rfl)); (case hp => exact (bE.none _ _)); intro aqN TN xE hb hg_ hnew_; clear hg_ hnew_; (first | rw [← Yo.out] at xE | (simp only [Int.reduceToNat] at xE; rw [← Yo.out] at xE)); have Yq := aa.mk (Kd.aW (Kd.eV xE (Kd.gy (b9 dC.out))) (ag (gA HB.out))); replace dC := aa.mk (Kd.dZ (b9 dC.out) (Kd.cV xE) hb); replace HB := jL HB hb; clear hb xE; have q27 : (cR : Int) ≤ ((bd.length : Int) : Int) := bO; obtain ⟨azL, Yr, _, Ys, _⟩ := info_parts iS; have CM : bd.length ≤ CK := (Kd.ao dC.out).2.1; have ahF : Kd.C (Kd.int .i64) _ (some nG) bd.length bd := (Kd.ao dC.out).2.2; have aqP : (0 : Int) ≤ (cR : Int) := bO; have abX := ug (P := Tryz.prog) 24 3 .i64 Tryz.underlying24 Yr 1 Ys (some nG) bd.length CK cR aqP q27; have Pd := Kd.yz (m := (cR : Int).toNat) (c := CK) ahF (by omega) CM; obtain ⟨A27, UO⟩ : ∃ A1, A1 = (if CK = (cR : Int).toNat then (some nG) else ((some nG) : Option Addr).map (·.add ((cR : Int).toNat * 1))) := ⟨_, rfl⟩; obtain ⟨tQ, abY⟩ : ∃ c1, c1 = CK - (cR : Int).toNat := ⟨_, rfl⟩; have UP : p6.length = bd.length - (cR : Int).toNat := (by rw [O8.out, List.length_drop] <;> omega); rw [show (bd).drop (cR : Int).toNat = p6 from O8.out.symm] at Pd; replace Pd : Kd.C (Kd.int .i64) _ A27 p6.length p6 := (by rw [UO]; exact Pd); rw [← UP, ← UO, ← abY] at abX; have BA := aa.mk Pd; have avE := aa.mk (show p6.length ≤ tQ from by rw [UP, abY]; exact Nat.sub_le_sub_right CM _); clear Pd ahF CM Yr Ys abY; have azM := aa.mk UP; have aqQ := aa.mk UO; clear UP UO; have aqR := aa.mk (show (cR : Int).toNat ≤ bd.length from by omega); replace q27 := eq_true q27) | ((with_reducible refine gate_builtin (b := .append) (xs := #[.tmp 46, .tmp 49]) rfl ?_); at_builtin; refine Kd.kn (Kd.int .i64) (w0 := w) w.heap.size rfl (.tmp 46) (.tmp 49) 24 3 (.int .i64 0) 8 rfl Tryz.underlying24 iS rfl (by decide) (by omega) aqN xD p6 _ _ _ (fun k_ => some k_ ≠ (.slice (some nG) bd.length CK : Value).ownBlock) (fun _ => False) rfl rfl ?aO ?aR (fun _ _ h => h) (fun _ h => h.elim) ?aF ?aB ?aS ?aL ?_; (case aR => repeat (first | exact (by repeat (first | (with_reducible exact BA.out) | (with_reducible refine Kd.cz ?_ _) | (with_reducible refine Kd.cA ?_ _) | (with_reducible refine Kd.di ?_) | exact BA.out)) | (with_reducible refine Kd.cz ?_ _) | (with_reducible refine Kd.cA ?_ _) | (with_reducible refine Kd.di ?_))); (case aB => exact (gA HB.out)); (case aF => exact (fun k_ hk => Kd.cM (Kd.gy (b9 dC.out)) k_ hk)); (case aO => exact (by (with_reducible repeat (first | apply Kd.bQ | apply Kd.bT | apply Kd.bR)); exact Kd.bB Yq.out (fun _ hk => hk.2))); (case aS => exact (ag (gA HB.out))); (case aL => have := O9.out; omega); intro aqS Pe ho hb hg hat; rw [← ahz.out] at ho; replace HB := aa.mk (hb); replace BA := aa.mk ((show Kd.C (Kd.int .i64) Pe A27 p6.length p6 from by rw [O8.out, aqQ.out]; exact Kd.yz (m := (cR : Int).toNat) (c := CK) ((Kd.ao (Kd.kt (ok := (fun _ => True)) (b9 dC.out) hg hat)).2.2) aqR.out ((Kd.ao (Kd.kt (ok := (fun _ => True)) (b9 dC.out) hg hat)).2.1))); replace dC := aa.mk (Kd.kt (ok := (fun _ => True)) (b9 dC.out) hg hat); have rQ := aa.mk (ho); clear Yq; clear ho hb hg hat))
     replace dC := aa.mk (Kd.bR dC.out)
     replace rQ := aa.mk (Kd.bR rQ.out)
     replace BA := aa.mk (Kd.di BA.out)
     replace HB := aa.mk (bD HB.out)
     have q30 : (cR : Int) ≤ ((bd.length : Int) : Int) := bO
     obtain ⟨aqT, Ey, _, JG, _⟩ := info_parts iS
     have Ht := vH (P := Tryz.prog) 24 3 .i64 Tryz.underlying24 Ey (some nG) bd.length CK cR (bO) q30 (Kd.ao dC.out).2.1
     have AX := Kd.No (m := (cR : Int).toNat) dC.out (by omega)
     have Ez : pM.length = (cR : Int).toNat := (by rw [Yp.out, List.length_take]; omega)
     rw [← Yp.out] at AX
     rw [← Ez] at AX Ht
     clear Ez Ey JG dC
     have Pf := aa.mk AX
     clear AX
     replace q30 := eq_true q30
     have EA : 0 ≤ (bx : Int) := bO
     have EB : bx < (l0.length : Int) := bO
     obtain ⟨ahG, aqU, uA⟩ := Kd.aZ eZ.out bx EA EB
     have j9 := uA
     obtain rfl : rP = ahG := (by injection aqU)
     (try replace uA := (HB.out.cell (World.block_lt_of_cell? w _ uA)).trans uA)
     replace EA := eq_true EA
     replace EB := eq_true EB
     refine fy (n := 12) (S := fun w' => w'.cell? (rP.add (bx).toNat) = some (.int .i64 (rd l0 bx))) (ds := []) (B_ 0 12) (by kernel_rfl) rfl rfl (by first | exact j9 | exact (HB.out.cell (World.block_lt_of_cell? w _ j9)).trans j9 | (obtain ⟨_, e_, h_⟩ := Kd.aZ eZ.out bx (of_eq_true EA) (of_eq_true EB); cases e_; exact h_)) (fun hHeld => ?_); refine dv al.Yc al.OR (fun HT_ HW_ => ?_)
     generalize Pe.drew = w29 at dC rQ BA HB Pf uA hHeld ⊢
     refine b5 HT_ 0 51 (B_ 1 12) ?_
     refine b5 HT_ 1 52 (B_ 3 12) ?_
     refine b5 HT_ 2 53 (B_ 7 12) ?_
     refine b5 HT_ 3 54 (B_ 15 12) ?_
     refine b5 HT_ 4 55 (B_ 31 12) ?_
     refine b5 HT_ 5 56 (B_ 63 12) ?_
     refine b5 HT_ 9 60 (B_ 575 12) ?_
     refine lL HT_ HW_ hHeld 6 57 (B_ 639 12) ?_
     refine o2 HT_ 7 58 (B_ 767 12) (fun K hK => ?_)
     refine kU (w1 := ?_) (v := ?_) (by rfl) rfl ?_ ?_
     rotate_left 2
     · go_simp
       constructor
       · rfl
       · rfl
     refine hK.out _ _ ((World.cell?_alloc_lt _ _ _ (World.block_lt_of_cell? _ _ (by first | exact j9 | exact (HB.out.cell (World.block_lt_of_cell? w _ j9)).trans j9 | (obtain ⟨_, e_, h_⟩ := Kd.aZ eZ.out bx (of_eq_true EA) (of_eq_true EB); cases e_; exact h_)))).trans (by first | exact j9 | exact (HB.out.cell (World.block_lt_of_cell? w _ j9)).trans j9 | (obtain ⟨_, e_, h_⟩ := Kd.aZ eZ.out bx (of_eq_true EA) (of_eq_true EB); cases e_; exact h_))) (fun hHeld => ?_)
     clear hK K
     refine ep (a' := ?_) ?_ ?_
     rotate_left
     · show Act.put _ (some 58) _ = _
       simp only [Act.put, jK, jA, jB, b6, dw]
       rfl
     refine o2 HT_ 8 59 (B_ 1023 12) (fun K hK => ?_)
     refine Kd.kY (Kd.int .i64) (w0 := w) w.heap.size (by rfl) (.tmp 53) (.tmp 58) 24 3 (.int .i64 0) 8 rfl Tryz.underlying24 iS rfl (by decide) (by omega) (.slice (some nG) pM.length CK) pM (rd l0 bx) [.int .i64 (rd l0 bx)] (fun k_ => some k_ ≠ (aqS : Value).ownBlock) (fun _ => False) rfl rfl ?aP (fun _ hk => hk.elim) ?aF ?aO ?aB ?aS ?aL ?_
     (case aP => exact rfl)
     (case aB => exact (gA HB.out))
     (case aF => exact (fun k_ hk => Kd.cM (Kd.gy (b9 rQ.out)) k_ hk))
     (case aO => exact (by (with_reducible repeat (first | apply Kd.bQ | apply Kd.bT | apply Kd.bR)); exact Kd.bB Pf.out (fun _ hk => hk.2)))
     (case aS => exact (ag (gA HB.out)))
     (case aL => have := ahA.out; omega)
     intro aqV TP ho hb hg hat
     rw [← ahB.out] at ho
     replace rQ := aa.mk (Kd.kt (ok := (fun _ => True)) (by (with_reducible repeat (first | apply Kd.bQ | apply Kd.bT | apply Kd.bR)); exact Kd.bB rQ.out (fun _ hk => ⟨trivial, by first | exact hk | exact (fun e_ => hk (e_.trans (D_ _ _ _ _ _)))⟩)) hg hat)
     replace HB := aa.mk (hb)
     have Yt := aa.mk (ho)
     clear Pf
     clear ho hb hg hat
     obtain ⟨Pg, Ph, L5⟩ := Kd.aN rQ.out
     (first | subst L5 | (injection L5 with ox tM oy; have tN := ox.symm; have tO := oy.symm; clear ox tM oy; subst tN; subst tO))
     refine hK.out _ _ (by first | exact j9 | exact (HB.out.cell (World.block_lt_of_cell? w _ j9)).trans j9 | (obtain ⟨_, e_, h_⟩ := Kd.aZ eZ.out bx (of_eq_true EA) (of_eq_true EB); cases e_; exact h_)) (fun hHeld => ?_)
     clear hK K
     refine ep (a' := ?_) ?_ ?_
     rotate_left
     · show Act.put _ (some 59) _ = _
       simp only [Act.put, jK, jA, jB, b6, dw]
       rfl
     refine o2 HT_ 10 61 (B_ 2047 12) (fun K hK => ?_)
     refine Kd.lf (Kd.int .i64) (w0 := w) w.heap.size (by rfl) (.tmp 59) (.tmp 60) 24 3 (.int .i64 0) 8 rfl Tryz.underlying24 iS rfl (by decide) (by omega) aqV oR pL _ _ _ (fun k_ => some k_ ≠ (.slice Pg pL.length Ph : Value).ownBlock) (fun _ => False) rfl rfl ?aO ?aR (fun _ _ h => h) (fun _ h => h.elim) ?aF ?aB ?aS ?aL ?_
     (case aR => exact kx ((Kd.ao rQ.out).2.2))
     (case aB => exact (gA HB.out))
     (case aF => exact (fun k_ hk => Kd.cM (Kd.gy (b9 rQ.out)) k_ hk))
     (case aO => exact (b9 Yt.out))
     (case aS => exact (ag (gA HB.out)))
     (case aL => have := ahC.out; omega)
     intro azN w32 ho hb hg hat
     rw [← ahE.out] at ho
     replace rQ := aa.mk (Kd.kt (ok := (fun _ => True)) (b9 rQ.out) hg hat)
     replace HB := aa.mk (hb)
     have ahH := aa.mk (ho)
     clear Yt
     clear ho hb hg hat
     refine hK.out _ _ (by first | exact j9 | exact (HB.out.cell (World.block_lt_of_cell? w _ j9)).trans j9 | (obtain ⟨_, e_, h_⟩ := Kd.aZ eZ.out bx (of_eq_true EA) (of_eq_true EB); cases e_; exact h_)) (fun hHeld => ?_)
     clear hK K
     refine ep (a' := ?_) ?_ ?_
     rotate_left
     · show Act.put _ (some 61) _ = _
       simp only [Act.put, jK, jA, jB, b6, dw]
       rfl
     refine b5 HT_ 11 3 (B_ 4095 12) ?_
     refine ik (eS HT_.out (by kernel_rfl)) ?_
     try go_wp2
     go_roundg k2
     case measure => have := fu.out; have := jo.out; omega
     case rel => exact ⟨(ahD), (wrap64 (bx + 1)), eF, H', ⟨by have := fu.out; have := jo.out; omega⟩, ⟨by (with_reducible repeat (first | apply Kd.bQ | apply Kd.bT | apply Kd.bR)); exact Kd.bB ahH.out (fun _ hk => trivial)⟩, ⟨gA HB.out⟩⟩
def az.l0 : Nat → List Int → List Int → Int → Option (List Int)
 | 0, _, _, _ => none
 | k + 1, x3, x4, x5 => if x5 < (x4.length : Int) then (if x5 = 0 then (if 0 ≤ x5 then (if x3.length < 17592186044416 then (az.l0 k (x3 ++ [rd x4 x5]) x4 (wrap64 (x5 + 1))) else (none)) else (none)) else (if 0 ≤ x5 then (if x5 ≤ (x4.length : Int) then ((aD.f k (x4.take (x5 : Int).toNat) (rd x4 x5)).bind fun zp => (if 0 ≤ (rd x4 x5) then (if (rd x4 x5) < (zp.length : Int) then (if (e6 false zp (rd x4 x5) = true) then (az.l0 k x3 x4 (wrap64 (x5 + 1))) else (if x3.length < 17592186044416 then (az.l0 k (x3 ++ [rd x4 x5]) x4 (wrap64 (x5 + 1))) else (none))) else (none)) else (none))) else (none)) else (none))) else (some x3)
def az.f (k : Nat) (l0 : List Int) : Option (List Int) := (al.f k l0).bind fun fN => (az.l0 k (([] : List Int)) fN 0)
theorem az.er : ∀ k, (∀ y0 y1 y2, bK (az.l0 k y0 y1 y2) (az.l0 (k + 1) y0 y1 y2))
 | 0 => fun _ _ _ r h => by simp [az.l0] at h
 | k + 1 => by
  have ia := az.er k
  · intro y0 y1 y2
    unfold az.l0
    repeat' first
    | (with_reducible exact ia _ _ _)
    | (with_reducible exact al.mono _ _)
    | (with_reducible exact aD.mono _ _ _)
    | (with_reducible exact bK.refl _)
    | (with_reducible exact bK.none _)
    | (with_reducible refine bK.ite ?_ ?_)
    | (with_reducible refine bK.bind ?_ (fun _ => ?_))
    | exact ia _ _ _
    | exact bK.none _
    | refine bK.ite ?_ ?_
    | refine bK.bind ?_ (fun _ => ?_)
theorem az.mono : ∀ a0 k, bK (az.f k a0) (az.f (k + 1) a0) := by
 intro a0 k
 have ia := az.er k
 unfold az.f
 repeat' first
  | (with_reducible exact ia _ _ _)
  | (with_reducible exact al.mono _ _)
  | (with_reducible exact aD.mono _ _ _)
  | (with_reducible exact bK.refl _)
  | (with_reducible exact bK.none _)
  | (with_reducible refine bK.ite ?_ ?_)
  | (with_reducible refine bK.bind ?_ (fun _ => ?_))
  | exact ia _ _ _
  | exact bK.none _
  | refine bK.ite ?_ ?_
  | refine bK.bind ?_ (fun _ => ?_)
def az.T6 : Bool × List (List Nat × List Nat) := (true, [([], []), ([0], [0]), ([1], [1]), ([2], [2]), ([2], [2]), ([3, 4, 2], [2, 3, 4]), ([2], [2]), ([2], [2]), ([6, 7, 2], [2, 6, 7]), ([8, 2], [2, 8]), ([5, 9, 2, 2], [2, 5, 9]), ([2], [2]), ([2], [2]), ([11, 12, 2], [2, 11, 12]), ([13, 2], [2, 13]), ([10, 14, 2], [2, 10, 14]), ([15, 2], [2, 15]), ([16, 2], [2, 16]), ([2, 17], [2, 17])])
def az.B6 : List Nat := [0, 1, 3, 7, 7, 31, 7, 7, 199, 455, 1023, 7, 7, 6151, 14343, 32767, 65535, 131071, 262143]
theorem az.zj : gX .any (opsOf Tryz.f94 6) = az.T6 := by kernel_rfl
theorem az.rN : gm az.T6.2 az.B6 = true := by kernel_rfl
theorem az.calls (k : Nat) (A0 : Option Addr) (c0 : Nat) (l0 : List Int) (r : List Int) (w : World) (fH : Kd.C (Kd.int .i64) w A0 l0.length l0) (gL : l0.length ≤ c0) (h : az.f k l0 = some r) :
 Calls Tryz.prog 94 #[.slice A0 l0.length c0] w fun e w' => ∃ jf : Value, e = .returned (jf) ∧ Kd.R (Kd.int .i64) 3 w' w.heap.size (fun _ => True) jf r ∧ Below w.heap.size w w' := by
 have eZ := aa.mk fH
 have jN := aa.mk gL
 clear fH gL
 have HB := aa.mk (Below.refl w.heap.size w)
 have H := h
 clear h
 unfold az.f at H
 obtain ⟨ahI, Pj⟩ : ∃ y_ : List Int, y_ = (([] : List Int)) := ⟨_, rfl⟩
 replace H : ((al.f k l0).bind fun fN => (az.l0 k ahI fN 0)) = some r := by subst Pj; exact H
 have Yu := aa.mk Pj
 clear Pj
 obtain ⟨fN, A2, H⟩ := eA H
 have H' := aa.mk H
 clear H
 go_enter Tryz.func94, Tryz.ntmps94
 go_wp2_with (first | ((with_reducible refine gate_dst (N := 6) rfl ?_); refine Kd.iK (Kd.int .i64) _ 3 ?hg (N := 6) ?hd (xs := ([] : List Int)) (inner := []) (ok := fun _ => True) (okp := fun _ => True) ?hr ?hp (fun _ hk => hk) trivial (Below.refl _ _) (Nat.le_refl _) (by simp) ?_; (case hd => rfl); (case hg => rfl); (case hr => first | (go_simp; done) | (go_simp; rfl)); (case hp => exact (bE.none _ _)); intro azO w3 EC hb hg_ hnew_; clear hg_ hnew_; (first | rw [← Yu.out] at EC | (simp only [Int.reduceToNat] at EC; rw [← Yu.out] at EC)); have JH := aa.mk (Kd.aW EC (ag (gA HB.out))); replace HB := jL HB hb; clear hb EC) | ((with_reducible refine gate_callee (f := 96) rfl ?_); refine dU (some 8) Tryz.func96 #[.slice A0 l0.length c0] ?_; (with_reducible refine (al.calls k _ _ l0 fN _ ?ah ?aj A2.out).mono ?_); (case ah => exact iZ eZ HB); (case aj => exact jN.out); rintro e w5 ⟨ahJ, rfl, b0, hb⟩; refine ⟨_, rfl, ?_⟩; have ahK := aa.mk (Kd.aW (Kd.eV b0 (Kd.gy (b9 JH.out))) (ag (gA HB.out))); replace JH := aa.mk (Kd.dZ (b9 JH.out) (Kd.cV b0) hb); replace HB := jL HB hb; (try clear hb); (try clear b0)))
 go_loopg [3, 5] k (fun kq v3 v5 w' => ∃ (bd : List Int) (aJ : Int), v5 = .int .i64 aJ ∧ aa (az.l0 kq bd fN aJ = some r) ∧ aa (kq ≤ k) ∧ aa (Kd.R (Kd.int .i64) 3 w' w.heap.size (fun k_ => some k_ ≠ (ahJ : Value).ownBlock) v3 bd) ∧ aa (Kd.R (Kd.int .i64) 3 w' w.heap.size (fun k_ => some k_ ≠ (v3 : Value).ownBlock) ahJ fN) ∧ aa (Below w.heap.size w w'))
 case atStart => exact ⟨(ahI), (0), eF, H', ⟨Nat.le_refl _⟩, ⟨by (with_reducible repeat (first | apply Kd.bQ | apply Kd.bT | apply Kd.bR)); exact Kd.bB JH.out (fun _ hk => hk.2)⟩, ⟨by (with_reducible repeat (first | apply Kd.bQ | apply Kd.bT | apply Kd.bR)); exact Kd.bB ahK.out (fun _ hk => hk.2)⟩, ⟨gA HB.out⟩⟩
 case round =>
  clear H'
  obtain ⟨bd, aJ, rfl, HA, fu, dC, bJ, HB⟩ := hrel
  cases gk with
  | zero => exact absurd HA.out (by simp [az.l0])
  | succ k1 =>
   have H := HA.out
   clear HA
   simp only [az.l0] at H
   by_cases c6 : aJ < (fN.length : Int)
   rotate_left
   · rw [if_neg c6] at H
     have pH : decide (aJ < (fN.length : Int)) = false := decide_eq_false c6
     clear c6
     obtain rfl := Option.some.inj H
     obtain ⟨Hu, ED, AY⟩ := Kd.aN bJ.out
     subst AY
     go_wp2
     go_ret
     exact ⟨_, ig, by (with_reducible repeat (first | apply Kd.bQ | apply Kd.bT | apply Kd.bR)); exact Kd.bB dC.out (fun _ hk => trivial), gA HB.out⟩
   rw [if_pos c6] at H
   have pH : decide (aJ < (fN.length : Int)) = true := decide_eq_true c6
   clear c6
   by_cases c7 : aJ = 0
   · rw [if_pos c7] at H
     have oO : (aJ == 0) = true := beq_iff_eq.mpr c7
     have xB : (aJ != 0) = false := bne_eq_false_iff_eq.mpr c7
     clear c7
     obtain ⟨rD, H⟩ := dB H
     obtain ⟨c9, H⟩ := kG H
     have aqW := aa.mk c9
     clear c9
     obtain ⟨ahL, Pk⟩ : ∃ y_ : List Int, y_ = (bd ++ [rd fN aJ]) := ⟨_, rfl⟩
     replace H : (az.l0 k1 ahL fN (wrap64 (aJ + 1))) = some r := by subst Pk; exact H
     have ahM := aa.mk Pk
     clear Pk
     have H' := aa.mk H
     clear H
     obtain ⟨pJ, oQ, rJ⟩ := Kd.aN bJ.out
     subst rJ
     try go_wp2
     replace dC := aa.mk (Kd.bR dC.out)
     replace bJ := aa.mk (Kd.bR bJ.out)
     replace HB := aa.mk (bD HB.out)
     refine fy (n := 19) (S := fun w' => True) (ds := []) (B_ 0 19) (by kernel_rfl) rfl rfl trivial (fun hHeld => ?_); refine dv az.zj az.rN (fun HT_ HW_ => ?_)
     generalize wr.drew = Bn at dC bJ HB hHeld ⊢
     refine b5 HT_ 0 15 (B_ 1 19) ?_
     refine b5 HT_ 1 16 (B_ 3 19) ?_
     refine b5 HT_ 2 17 (B_ 7 19) ?_
     refine gx HT_ 3 18 (B_ 15 19) ?_
     refine gx HT_ 4 19 (B_ 31 19) ?_
     refine gx HT_ 5 20 (B_ 63 19) ?_
     refine gx HT_ 6 21 (B_ 127 19) ?_
     refine gx HT_ 7 22 (B_ 255 19) ?_
     refine gx HT_ 8 23 (B_ 511 19) ?_
     refine gx HT_ 9 24 (B_ 1023 19) ?_
     refine gx HT_ 10 25 (B_ 2047 19) ?_
     refine gx HT_ 11 26 (B_ 4095 19) ?_
     refine gx HT_ 12 27 (B_ 8191 19) ?_
     refine gx HT_ 13 28 (B_ 16383 19) ?_
     refine gx HT_ 14 29 (B_ 32767 19) ?_
     refine gx HT_ 15 30 (B_ 65535 19) ?_
     refine gx HT_ 16 31 (B_ 131071 19) ?_
     refine gx HT_ 17 32 (B_ 262143 19) ?_
     refine b5 HT_ 18 33 (B_ 524287 19) ?_
     refine ik (eS HT_.out (by kernel_rfl)) ?_
     have ab1 : 0 ≤ (aJ : Int) := bO
     have ab2 : aJ < (fN.length : Int) := bO
     obtain ⟨ahN, aqX, an6⟩ := Kd.aZ (Kd.ao bJ.out).2.2 aJ ab1 ab2
     cases aqX
     replace ab1 := eq_true ab1
     replace ab2 := eq_true ab2
     try go_wp2_with (first | ((with_reducible refine gate_builtin (b := .append) (xs := #[.tmp 34, .tmp 39]) rfl ?_); at_builtin; refine Kd.ke (Kd.int .i64) (w0 := w) w.heap.size rfl (.tmp 34) (.tmp 39) 24 3 (.int .i64 0) 8 rfl Tryz.underlying24 iS rfl (by decide) (by omega) u3 bd (rd fN aJ) [.int .i64 (rd fN aJ)] (fun k_ => some k_ ≠ (.slice (some ahN) fN.length oQ : Value).ownBlock) (fun _ => False) rfl rfl ?aP (fun _ hk => hk.elim) ?aF ?aO ?aB ?aS ?aL ?_; (case aP => exact rfl); (case aB => exact (gA HB.out)); (case aF => exact (fun k_ hk => Kd.cM (Kd.gy (b9 bJ.out)) k_ hk)); (case aO => exact (b9 dC.out)); (case aS => exact (ag (gA HB.out))); (case aL => have := aqW.out; omega); intro azP w12 ho hb hg hat; rw [← ahM.out] at ho; replace bJ := aa.mk (Kd.kt (ok := (fun _ => True)) (by (with_reducible repeat (first | apply Kd.bQ | apply Kd.bT | apply Kd.bR)); exact Kd.bB bJ.out (fun _ hk => ⟨trivial, hk⟩)) hg hat); replace HB := aa.mk (hb); have ahO := aa.mk (ho); clear dC; clear ho hb hg hat))
     go_roundg k1
     case measure => have := fu.out; omega
     case rel => exact ⟨(ahL), (wrap64 (aJ + 1)), eF, H', ⟨by have := fu.out; omega⟩, ⟨b9 ahO.out⟩, ⟨by (with_reducible repeat (first | apply Kd.bQ | apply Kd.bT | apply Kd.bR)); exact Kd.bB bJ.out (fun _ hk => hk.2)⟩, ⟨gA HB.out⟩⟩
   rw [if_neg c7] at H
   have oO : (aJ == 0) = false := beq_eq_false_iff_ne.mpr c7
   have xB : (aJ != 0) = true := bne_iff_ne.mpr c7
   obtain ⟨mY, H⟩ := kG H
   have lS := eq_true mY
   have EE : decide (0 ≤ aJ) = true := decide_eq_true mY
   clear mY
   obtain ⟨mG, H⟩ := kG H
   have jQ := eq_true mG
   have Bp : decide (aJ ≤ (fN.length : Int)) = true := decide_eq_true mG
   clear mG
   obtain ⟨zq, Pl⟩ : ∃ y_ : List Int, y_ = (fN.take (aJ : Int).toNat) := ⟨_, rfl⟩
   replace H : ((aD.f k1 zq (rd fN aJ)).bind fun zp => (if 0 ≤ (rd fN aJ) then (if (rd fN aJ) < (zp.length : Int) then (if (e6 false zp (rd fN aJ) = true) then (az.l0 k1 bd fN (wrap64 (aJ + 1))) else (if bd.length < 17592186044416 then (az.l0 k1 (bd ++ [rd fN aJ]) fN (wrap64 (aJ + 1))) else (none))) else (none)) else (none))) = some r := by subst Pl; exact H
   have EF := aa.mk Pl
   clear Pl
   obtain ⟨zp, A15, H⟩ := eA H
   obtain ⟨yX, H⟩ := dB H
   obtain ⟨oA, H⟩ := dB H
   obtain ⟨ahP, Pm⟩ : ∃ b_ : Bool, b_ = (e6 false zp (rd fN aJ)) := ⟨_, rfl⟩
   replace H : (if (ahP = true) then (az.l0 k1 bd fN (wrap64 (aJ + 1))) else (if bd.length < 17592186044416 then (az.l0 k1 (bd ++ [rd fN aJ]) fN (wrap64 (aJ + 1))) else (none))) = some r := by rw [← Pm] at H; exact H
   have Yv := aa.mk Pm
   clear Pm
   by_cases rE : (ahP = true)
   · subst rE
     rw [if_pos rfl] at H
     have H' := aa.mk H
     clear H
     obtain ⟨CN, pN, AZ⟩ := Kd.aN bJ.out
     subst AZ
     try go_wp2
     replace dC := aa.mk (Kd.bR dC.out)
     replace bJ := aa.mk (Kd.bR bJ.out)
     replace HB := aa.mk (bD HB.out)
     have Oi : (aJ : Int) ≤ ((fN.length : Int) : Int) := bO
     obtain ⟨azQ, Yw, _, ahQ, _⟩ := info_parts iS
     have JI : fN.length ≤ pN := (Kd.ao bJ.out).2.1
     have ahR : Kd.C (Kd.int .i64) _ CN fN.length fN := (Kd.ao bJ.out).2.2
     have ab4 := vH (P := Tryz.prog) 24 3 .i64 Tryz.underlying24 Yw CN fN.length pN aJ (bO) Oi JI
     have ab5 := Kd.Cj (m := (aJ : Int).toNat) ahR (by omega)
     have ab6 : zq.length = (aJ : Int).toNat := (by rw [EF.out, List.length_take]; omega)
     rw [← EF.out] at ab5
     rw [← ab6] at ab4
     have o_ := aa.mk ab5
     have Pn := aa.mk (show zq.length ≤ pN from by omega)
     clear ab5 ahR JI Yw ahQ
     have azR := aa.mk ab6
     clear ab6
     have azS := aa.mk (show (aJ : Int).toNat ≤ fN.length from by omega)
     replace Oi := eq_true Oi
     have Hv : 0 ≤ (aJ : Int) := bO
     have Hw : aJ < (fN.length : Int) := bO
     obtain ⟨nH, ab7, uB⟩ := Kd.aZ (Kd.ao bJ.out).2.2 aJ Hv Hw
     cases ab7
     replace Hv := eq_true Hv
     replace Hw := eq_true Hw
     have Hx : 0 ≤ (aJ : Int) := bO
     have Hy : aJ < (fN.length : Int) := bO
     obtain ⟨Po, ab8, uC⟩ := Kd.aZ (Kd.ao bJ.out).2.2 aJ Hx Hy
     obtain rfl : nH = Po := (by injection ab8)
     replace Hx := eq_true Hx
     replace Hy := eq_true Hy
     refine fy (n := 19) (S := fun w' => w'.cell? (nH.add (aJ).toNat) = some (.int .i64 (rd fN aJ)) ∧ w'.cell? (nH.add (aJ).toNat) = some (.int .i64 (rd fN aJ)) ∧ True) (ds := []) (B_ 0 19) (by kernel_rfl) rfl rfl ⟨uB, uC, trivial⟩ (fun hHeld => ?_); refine dv az.zj az.rN (fun HT_ HW_ => ?_)
     generalize wr.drew = TK at dC bJ HB o_ uB uC hHeld ⊢
     refine b5 HT_ 0 15 (B_ 1 19) ?_
     refine b5 HT_ 1 16 (B_ 3 19) ?_
     refine b5 HT_ 2 17 (B_ 7 19) ?_
     refine b5 HT_ 3 18 (B_ 15 19) ?_
     refine b5 HT_ 4 19 (B_ 31 19) ?_
     refine b5 HT_ 5 20 (B_ 63 19) ?_
     refine b5 HT_ 6 21 (B_ 127 19) ?_
     refine b5 HT_ 7 22 (B_ 255 19) ?_
     refine b5 HT_ 8 23 (B_ 511 19) ?_
     refine b5 HT_ 11 26 (B_ 2559 19) ?_
     refine b5 HT_ 12 27 (B_ 6655 19) ?_
     refine b5 HT_ 13 28 (B_ 14847 19) ?_
     refine xy HT_ HW_ hHeld 9 24 (B_ 15359 19) ?_
     refine xy HT_ HW_ hHeld 14 29 (B_ 31743 19) ?_
     refine o2 HT_ 10 25 (B_ 32767 19) (fun K hK => ?_)
     refine gu Tryz.func83 (by kernel_rfl) rfl #[.slice (some nH) zq.length pN, .int .i64 (rd fN aJ)] (by rfl) rfl rfl (by (try simp only [List.map_toArray, List.map_cons, List.map_nil]); first | done | rfl | (simp only [List.length_drop, List.length_take]; rfl)) ?_
     with_reducible refine (aD.calls k1 _ _ zq (rd fN aJ) zp _ ?ah ?aj A15.out).mono ?_
     (case ah => repeat (first | exact (by repeat (first | (with_reducible exact o_.out) | (with_reducible refine Kd.cz ?_ _) | (with_reducible refine Kd.cA ?_ _) | (with_reducible refine Kd.di ?_) | exact o_.out)) | (with_reducible refine Kd.cz ?_ _) | (with_reducible refine Kd.cA ?_ _) | (with_reducible refine Kd.di ?_)))
     (case aj => exact Pn.out)
     rintro e xV ⟨aqY, rfl, b0, hb⟩
     have Hz := (hb.cell (World.block_lt_of_cell? _ _ (hHeld.1))).trans (hHeld.1)
     have CO := (hb.cell (World.block_lt_of_cell? _ _ (hHeld.2.1))).trans (hHeld.2.1)
     refine ⟨_, rfl, ?_⟩
     replace dC := aa.mk (Kd.aY (b9 dC.out) hb)
     replace bJ := aa.mk (Kd.aY (b9 bJ.out) hb)
     have zr := aa.mk (Kd.aW b0 (ag (gA HB.out)))
     replace o_ := aa.mk (Kd.dx (by repeat (first | (with_reducible exact o_.out) | (with_reducible refine Kd.cz ?_ _) | (with_reducible refine Kd.cA ?_ _) | (with_reducible refine Kd.di ?_) | exact o_.out)) hb)
     replace HB := jL HB hb
     (try clear hb)
     (try clear b0)
     obtain ⟨kL, kM, zb⟩ := Kd.aN zr.out
     (first | subst zb | (injection zb with ox tM oy; have tN := ox.symm; have tO := oy.symm; clear ox tM oy; subst tN; subst tO))
     have HC : 0 ≤ ((rd fN aJ) : Int) := bO
     have HD : (rd fN aJ) < (zp.length : Int) := bO
     obtain ⟨Pp, ab9, uD⟩ := Kd.fc (Kd.ao zr.out).2.2 (rd fN aJ) HC HD
     (try rw [← Yv.out] at uD)
     cases ab9
     replace HC := eq_true HC
     replace HD := eq_true HD
     refine hK.out _ _ ⟨Hz, CO, trivial⟩ (fun _ => ?_); refine rC (S' := fun w' => w'.cell? (nH.add (aJ).toNat) = some (.int .i64 (rd fN aJ)) ∧ w'.cell? (nH.add (aJ).toNat) = some (.int .i64 (rd fN aJ)) ∧ w'.cell? (Pp.add ((rd fN aJ)).toNat) = some (.bool true)) (fun _ h => ⟨h.1, h.2.1, trivial⟩) ⟨Hz, CO, uD⟩ (fun hHeld => ?_)
     clear hK K
     refine ep (a' := ?_) ?_ ?_
     rotate_left
     · show Act.put _ (some 25) _ = _
       simp only [Act.put, jK, jA, jB, b6, dw]
       rfl
     refine b5 HT_ 15 30 (B_ 65535 19) ?_
     refine xy HT_ HW_ hHeld 16 31 (B_ 131071 19) ?_
     refine b5 HT_ 17 32 (B_ 262143 19) ?_
     refine b5 HT_ 18 33 (B_ 524287 19) ?_
     refine ik (eS HT_.out (by kernel_rfl)) ?_
     try go_wp2
     go_roundg k1
     case measure => have := fu.out; omega
     case rel => exact ⟨(bd), (wrap64 (aJ + 1)), eF, H', ⟨by have := fu.out; omega⟩, ⟨b9 dC.out⟩, ⟨b9 bJ.out⟩, ⟨gA HB.out⟩⟩
   replace rE := Bool.eq_false_iff.mpr rE
   subst rE
   rw [if_neg (show ¬ (false = true) by decide)] at H
   obtain ⟨Cy, H⟩ := kG H
   have ahS := aa.mk Cy
   clear Cy
   obtain ⟨ahT, Pq⟩ : ∃ y_ : List Int, y_ = (bd ++ [rd fN aJ]) := ⟨_, rfl⟩
   replace H : (az.l0 k1 ahT fN (wrap64 (aJ + 1))) = some r := by subst Pq; exact H
   have ahU := aa.mk Pq
   clear Pq
   have H' := aa.mk H
   clear H
   obtain ⟨ahV, Pr, aqZ⟩ := Kd.aN bJ.out
   subst aqZ
   try go_wp2
   replace dC := aa.mk (Kd.bR dC.out)
   replace bJ := aa.mk (Kd.bR bJ.out)
   replace HB := aa.mk (bD HB.out)
   have q28 : (aJ : Int) ≤ ((fN.length : Int) : Int) := bO
   obtain ⟨azT, Yx, _, ahW, _⟩ := info_parts iS
   have JJ : fN.length ≤ Pr := (Kd.ao bJ.out).2.1
   have ahX : Kd.C (Kd.int .i64) _ ahV fN.length fN := (Kd.ao bJ.out).2.2
   have ab_ := vH (P := Tryz.prog) 24 3 .i64 Tryz.underlying24 Yx ahV fN.length Pr aJ (bO) q28 JJ
   have aca := Kd.Cj (m := (aJ : Int).toNat) ahX (by omega)
   have acb : zq.length = (aJ : Int).toNat := (by rw [EF.out, List.length_take]; omega)
   rw [← EF.out] at aca
   rw [← acb] at ab_
   have o_ := aa.mk aca
   have Pn := aa.mk (show zq.length ≤ Pr from by omega)
   clear aca ahX JJ Yx ahW
   have azU := aa.mk acb
   clear acb
   have aq1 := aa.mk (show (aJ : Int).toNat ≤ fN.length from by omega)
   replace q28 := eq_true q28
   have Hv : 0 ≤ (aJ : Int) := bO
   have Hw : aJ < (fN.length : Int) := bO
   obtain ⟨nH, ab7, uB⟩ := Kd.aZ (Kd.ao bJ.out).2.2 aJ Hv Hw
   cases ab7
   replace Hv := eq_true Hv
   replace Hw := eq_true Hw
   have Hx : 0 ≤ (aJ : Int) := bO
   have Hy : aJ < (fN.length : Int) := bO
   obtain ⟨Po, ab8, uC⟩ := Kd.aZ (Kd.ao bJ.out).2.2 aJ Hx Hy
   obtain rfl : nH = Po := (by injection ab8)
   replace Hx := eq_true Hx
   replace Hy := eq_true Hy
   refine fy (n := 19) (S := fun w' => w'.cell? (nH.add (aJ).toNat) = some (.int .i64 (rd fN aJ)) ∧ w'.cell? (nH.add (aJ).toNat) = some (.int .i64 (rd fN aJ)) ∧ True) (ds := []) (B_ 0 19) (by kernel_rfl) rfl rfl ⟨uB, uC, trivial⟩ (fun hHeld => ?_); refine dv az.zj az.rN (fun HT_ HW_ => ?_)
   generalize wr.drew = TL at dC bJ HB o_ uB uC hHeld ⊢
   refine b5 HT_ 0 15 (B_ 1 19) ?_
   refine b5 HT_ 1 16 (B_ 3 19) ?_
   refine b5 HT_ 2 17 (B_ 7 19) ?_
   refine b5 HT_ 3 18 (B_ 15 19) ?_
   refine b5 HT_ 4 19 (B_ 31 19) ?_
   refine b5 HT_ 5 20 (B_ 63 19) ?_
   refine b5 HT_ 6 21 (B_ 127 19) ?_
   refine b5 HT_ 7 22 (B_ 255 19) ?_
   refine b5 HT_ 8 23 (B_ 511 19) ?_
   refine b5 HT_ 11 26 (B_ 2559 19) ?_
   refine b5 HT_ 12 27 (B_ 6655 19) ?_
   refine b5 HT_ 13 28 (B_ 14847 19) ?_
   refine xy HT_ HW_ hHeld 9 24 (B_ 15359 19) ?_
   refine xy HT_ HW_ hHeld 14 29 (B_ 31743 19) ?_
   refine o2 HT_ 10 25 (B_ 32767 19) (fun K hK => ?_)
   refine gu Tryz.func83 (by kernel_rfl) rfl #[.slice (some nH) zq.length Pr, .int .i64 (rd fN aJ)] (by rfl) rfl rfl (by (try simp only [List.map_toArray, List.map_cons, List.map_nil]); first | done | rfl | (simp only [List.length_drop, List.length_take]; rfl)) ?_
   with_reducible refine (aD.calls k1 _ _ zq (rd fN aJ) zp _ ?ah ?aj A15.out).mono ?_
   (case ah => repeat (first | exact (by repeat (first | (with_reducible exact o_.out) | (with_reducible refine Kd.cz ?_ _) | (with_reducible refine Kd.cA ?_ _) | (with_reducible refine Kd.di ?_) | exact o_.out)) | (with_reducible refine Kd.cz ?_ _) | (with_reducible refine Kd.cA ?_ _) | (with_reducible refine Kd.di ?_)))
   (case aj => exact Pn.out)
   rintro e w29 ⟨aqY, rfl, b0, hb⟩
   have Hz := (hb.cell (World.block_lt_of_cell? _ _ (hHeld.1))).trans (hHeld.1)
   have CO := (hb.cell (World.block_lt_of_cell? _ _ (hHeld.2.1))).trans (hHeld.2.1)
   refine ⟨_, rfl, ?_⟩
   replace dC := aa.mk (Kd.aY (b9 dC.out) hb)
   replace bJ := aa.mk (Kd.aY (b9 bJ.out) hb)
   have zr := aa.mk (Kd.aW b0 (ag (gA HB.out)))
   replace o_ := aa.mk (Kd.dx (by repeat (first | (with_reducible exact o_.out) | (with_reducible refine Kd.cz ?_ _) | (with_reducible refine Kd.cA ?_ _) | (with_reducible refine Kd.di ?_) | exact o_.out)) hb)
   replace HB := jL HB hb
   (try clear hb)
   (try clear b0)
   obtain ⟨aq2, aq3, UQ⟩ := Kd.aN zr.out
   (first | subst UQ | (injection UQ with ox tM oy; have tN := ox.symm; have tO := oy.symm; clear ox tM oy; subst tN; subst tO))
   have HC : 0 ≤ ((rd fN aJ) : Int) := bO
   have HD : (rd fN aJ) < (zp.length : Int) := bO
   obtain ⟨Pp, ab9, uD⟩ := Kd.fc (Kd.ao zr.out).2.2 (rd fN aJ) HC HD
   (try rw [← Yv.out] at uD)
   cases ab9
   replace HC := eq_true HC
   replace HD := eq_true HD
   refine hK.out _ _ ⟨Hz, CO, trivial⟩ (fun _ => ?_); refine rC (S' := fun w' => w'.cell? (nH.add (aJ).toNat) = some (.int .i64 (rd fN aJ)) ∧ w'.cell? (nH.add (aJ).toNat) = some (.int .i64 (rd fN aJ)) ∧ w'.cell? (Pp.add ((rd fN aJ)).toNat) = some (.bool false)) (fun _ h => ⟨h.1, h.2.1, trivial⟩) ⟨Hz, CO, uD⟩ (fun hHeld => ?_)
   clear hK K
   refine ep (a' := ?_) ?_ ?_
   rotate_left
   · show Act.put _ (some 25) _ = _
     simp only [Act.put, jK, jA, jB, b6, dw]
     rfl
   refine b5 HT_ 15 30 (B_ 65535 19) ?_
   refine xy HT_ HW_ hHeld 16 31 (B_ 131071 19) ?_
   refine b5 HT_ 17 32 (B_ 262143 19) ?_
   refine b5 HT_ 18 33 (B_ 524287 19) ?_
   refine ik (eS HT_.out (by kernel_rfl)) ?_
   have acd : 0 ≤ (aJ : Int) := bO
   have ace : aJ < (fN.length : Int) := bO
   obtain ⟨ahY, aq4, an7⟩ := Kd.aZ (Kd.ao bJ.out).2.2 aJ acd ace
   obtain rfl : nH = ahY := (by injection aq4)
   replace acd := eq_true acd
   replace ace := eq_true ace
   try go_wp2_with (first | ((with_reducible refine gate_builtin (b := .append) (xs := #[.tmp 34, .tmp 39]) rfl ?_); at_builtin; refine Kd.ke (Kd.int .i64) (w0 := w) w.heap.size rfl (.tmp 34) (.tmp 39) 24 3 (.int .i64 0) 8 rfl Tryz.underlying24 iS rfl (by decide) (by omega) u3 bd (rd fN aJ) [.int .i64 (rd fN aJ)] (fun k_ => some k_ ≠ (.slice (some nH) fN.length Pr : Value).ownBlock) (fun _ => False) rfl rfl ?aP (fun _ hk => hk.elim) ?aF ?aO ?aB ?aS ?aL ?_; (case aP => exact rfl); (case aB => exact (gA HB.out)); (case aF => exact (fun k_ hk => Kd.cM (Kd.gy (b9 bJ.out)) k_ hk)); (case aO => exact (b9 dC.out)); (case aS => exact (ag (gA HB.out))); (case aL => have := ahS.out; omega); intro azV TP ho hb hg hat; rw [← ahU.out] at ho; replace zr := aa.mk (Kd.o0 (b9 zr.out) (Kd.oZ (b9 dC.out)) (by decide) hg); replace HB := aa.mk (hb); replace o_ := aa.mk ((show Kd.C (Kd.int .i64) TP (some nH) zq.length zq from by rw [EF.out]; exact Kd.Cj (m := (aJ : Int).toNat) ((Kd.ao (Kd.kt (ok := (fun _ => True)) (by (with_reducible repeat (first | apply Kd.bQ | apply Kd.bT | apply Kd.bR)); exact Kd.bB bJ.out (fun _ hk => ⟨trivial, hk⟩)) hg hat)).2.2) aq1.out)); replace bJ := aa.mk (Kd.kt (ok := (fun _ => True)) (by (with_reducible repeat (first | apply Kd.bQ | apply Kd.bT | apply Kd.bR)); exact Kd.bB bJ.out (fun _ hk => ⟨trivial, hk⟩)) hg hat); have ahZ := aa.mk (ho); clear dC; clear ho hb hg hat))
   go_roundg k1
   case measure => have := fu.out; omega
   case rel => exact ⟨(ahT), (wrap64 (aJ + 1)), eF, H', ⟨by have := fu.out; omega⟩, ⟨b9 ahZ.out⟩, ⟨by (with_reducible repeat (first | apply Kd.bQ | apply Kd.bT | apply Kd.bR)); exact Kd.bB bJ.out (fun _ hk => hk.2)⟩, ⟨gA HB.out⟩⟩
def cQ.l0 : Nat → List Int → List Bool → Int → Option (Bool)
 | 0, _, _, _ => none
 | k + 1, x0, x3, x4 => if 0 < (x0.length : Int) then (if x4 < (wrap64 (200 + (rd x0 0))) then (if 0 ≤ x4 then (if x4 < (x3.length : Int) then (if e6 false x3 x4 = true then (cQ.l0 k x0 x3 (wrap64 (x4 + 1))) else (some false)) else (none)) else (none)) else (some true)) else (none)
def cQ.f (k : Nat) (l0 : List Int) : Option (Bool) := (aD.f k l0 260).bind fun CP => (cQ.l0 k l0 CP 200)
theorem cQ.er : ∀ k, (∀ y0 y1 y2, bK (cQ.l0 k y0 y1 y2) (cQ.l0 (k + 1) y0 y1 y2))
 | 0 => fun _ _ _ r h => by simp [cQ.l0] at h
 | k + 1 => by
  have ia := cQ.er k
  · intro y0 y1 y2
    unfold cQ.l0
    repeat' first
    | (with_reducible exact ia _ _ _)
    | (with_reducible exact aD.mono _ _ _)
    | (with_reducible exact bK.refl _)
    | (with_reducible exact bK.none _)
    | (with_reducible refine bK.ite ?_ ?_)
    | (with_reducible refine bK.bind ?_ (fun _ => ?_))
    | exact ia _ _ _
    | exact bK.none _
    | refine bK.ite ?_ ?_
    | refine bK.bind ?_ (fun _ => ?_)
theorem cQ.mono : ∀ a0 k, bK (cQ.f k a0) (cQ.f (k + 1) a0) := by
 intro a0 k
 have ia := cQ.er k
 unfold cQ.f
 repeat' first
  | (with_reducible exact ia _ _ _)
  | (with_reducible exact aD.mono _ _ _)
  | (with_reducible exact bK.refl _)
  | (with_reducible exact bK.none _)
  | (with_reducible refine bK.ite ?_ ?_)
  | (with_reducible refine bK.bind ?_ (fun _ => ?_))
  | exact ia _ _ _
  | exact bK.none _
  | refine bK.ite ?_ ?_
  | refine bK.bind ?_ (fun _ => ?_)
theorem cQ.calls (k : Nat) (A0 : Option Addr) (c0 : Nat) (l0 : List Int) (r : Bool) (w : World) (fH : Kd.C (Kd.int .i64) w A0 l0.length l0) (gL : l0.length ≤ c0) (h : cQ.f k l0 = some r) :
 Calls Tryz.prog 95 #[.slice A0 l0.length c0] w fun e w' => e = .returned (.bool r) ∧ Below w.heap.size w w' := by
 have eZ := aa.mk fH
 have jN := aa.mk gL
 clear fH gL
 have HB := aa.mk (Below.refl w.heap.size w)
 have H := h
 clear h
 unfold cQ.f at H
 obtain ⟨CP, A2, H⟩ := eA H
 have H' := aa.mk H
 clear H
 go_enter Tryz.func95, Tryz.ntmps95
 go_wp2_with (first | ((with_reducible refine gate_callee (f := 83) rfl ?_); refine dU (some 6) Tryz.func83 #[.slice A0 l0.length c0, .int .i64 260] ?_; (with_reducible refine (aD.calls k _ _ l0 260 CP _ ?ah ?aj A2.out).mono ?_); (case ah => exact kx (eZ.out)); (case aj => exact jN.out); rintro e w3 ⟨aq5, rfl, b0, hb⟩; refine ⟨_, rfl, ?_⟩; have ah0 := aa.mk (Kd.aW b0 (ag (gA HB.out))); replace HB := jL HB hb; (try clear hb); (try clear b0)))
 go_loopg [4] k (fun kq v4 w' => ∃ (bx : Int), v4 = .int .i64 bx ∧ aa (cQ.l0 kq l0 CP bx = some r) ∧ aa (kq ≤ k) ∧ aa (Kd.R Kd.bool 4 w' w.heap.size (fun _ => True) aq5 CP) ∧ aa (Below w.heap.size w w'))
 case atStart => exact ⟨(200), eF, H', ⟨Nat.le_refl _⟩, ⟨b9 ah0.out⟩, ⟨gA HB.out⟩⟩
 case round =>
  clear H'
  obtain ⟨bx, rfl, HA, fu, dC, HB⟩ := hrel
  cases gk with
  | zero => exact absurd HA.out (by simp [cQ.l0])
  | succ k1 =>
   have H := HA.out
   clear HA
   simp only [cQ.l0] at H
   obtain ⟨c4, H⟩ := kG H
   have kI : decide (0 < (l0.length : Int)) = true := decide_eq_true c4
   have Ea : decide (0 < l0.length) = true := decide_eq_true (by omega)
   clear c4
   by_cases c5 : bx < (wrap64 (200 + (rd l0 0)))
   rotate_left
   · rw [if_neg c5] at H
     have qJ : decide (bx < (wrap64 (200 + (rd l0 0)))) = false := decide_eq_false c5
     clear c5
     obtain rfl := Option.some.inj H
     have zt : 0 ≤ (0 : Int) := (by omega)
     have zu : 0 < (l0.length : Int) := bO
     obtain ⟨Yy, Ps, jv⟩ := Kd.aZ eZ.out 0 zt zu
     cases Ps
     have Yz : (0 < l0.length) = True := eq_true (by omega)
     (try rw [show ((0 : Int)).toNat = 0 from rfl] at jv)
     (try rw [Addr.add_zero'] at jv)
     (try replace jv := (HB.out.cell (World.block_lt_of_cell? w _ jv)).trans jv)
     replace zt := eq_true zt
     replace zu := eq_true zu
     go_wp2
     go_ret
     exact ⟨ig, gA HB.out⟩
   rw [if_pos c5] at H
   have qJ : decide (bx < (wrap64 (200 + (rd l0 0)))) = true := decide_eq_true c5
   clear c5
   obtain ⟨pH, H⟩ := dB H
   obtain ⟨oO, H⟩ := dB H
   obtain ⟨bq8, acf⟩ : ∃ b_ : Bool, b_ = (e6 false CP bx) := ⟨_, rfl⟩
   replace H : (if bq8 = true then (cQ.l0 k1 l0 CP (wrap64 (bx + 1))) else (some false)) = some r := by rw [← acf] at H; exact H
   have ah1 := aa.mk acf
   clear acf
   by_cases c9 : bq8 = true
   rotate_left
   · replace c9 := Bool.eq_false_iff.mpr c9
     subst c9
     rw [if_neg (show ¬ (false = true) by decide)] at H
     obtain rfl := Option.some.inj H
     have zt : 0 ≤ (0 : Int) := (by omega)
     have zu : 0 < (l0.length : Int) := bO
     obtain ⟨Yy, Ps, jv⟩ := Kd.aZ eZ.out 0 zt zu
     cases Ps
     have Yz : (0 < l0.length) = True := eq_true (by omega)
     (try rw [show ((0 : Int)).toNat = 0 from rfl] at jv)
     (try rw [Addr.add_zero'] at jv)
     (try replace jv := (HB.out.cell (World.block_lt_of_cell? w _ jv)).trans jv)
     replace zt := eq_true zt
     replace zu := eq_true zu
     obtain ⟨azW, apA, Uq⟩ := Kd.aN dC.out
     subst Uq
     have HE : 0 ≤ (bx : Int) := bO
     have HF : bx < (CP.length : Int) := bO
     obtain ⟨ah2, acg, CQ⟩ := Kd.fc (Kd.ao dC.out).2.2 bx HE HF
     (try rw [← ah1.out] at CQ)
     cases acg
     replace HE := eq_true HE
     replace HF := eq_true HF
     go_wp2
     go_ret
     exact ⟨ig, gA HB.out⟩
   subst c9
   rw [if_pos rfl] at H
   have H' := aa.mk H
   clear H
   have zt : 0 ≤ (0 : Int) := (by omega)
   have zu : 0 < (l0.length : Int) := bO
   obtain ⟨Yy, Ps, jv⟩ := Kd.aZ eZ.out 0 zt zu
   cases Ps
   have Yz : (0 < l0.length) = True := eq_true (by omega)
   (try rw [show ((0 : Int)).toNat = 0 from rfl] at jv)
   (try rw [Addr.add_zero'] at jv)
   (try replace jv := (HB.out.cell (World.block_lt_of_cell? w _ jv)).trans jv)
   replace zt := eq_true zt
   replace zu := eq_true zu
   obtain ⟨pJ, oQ, rJ⟩ := Kd.aN dC.out
   subst rJ
   have HE : 0 ≤ (bx : Int) := bO
   have HF : bx < (CP.length : Int) := bO
   obtain ⟨ah2, acg, CQ⟩ := Kd.fc (Kd.ao dC.out).2.2 bx HE HF
   (try rw [← ah1.out] at CQ)
   cases acg
   replace HE := eq_true HE
   replace HF := eq_true HF
   go_wp2
   go_roundg k1
   case measure => have := fu.out; omega
   case rel => exact ⟨(wrap64 (bx + 1)), eF, H', ⟨by have := fu.out; omega⟩, ⟨b9 dC.out⟩, ⟨gA HB.out⟩⟩
end Go.Proofs.YtjodlkbhaofkkaaGreat.PA
end
