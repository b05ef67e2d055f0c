-- Bundled by shake.py from this session's printed and written texts; Lean checks it.
import Derived.Test.YtjodlkbhaofkkaaGreatZFnTreex2
section
namespace Go.Proofs.YtjodlkbhaofkkaaGreat.PA
open Go.RowKit Go.Proofs.YtjodlkbhaofkkaaGreatW.PrintWords Go.Proofs.YtjodlkbhaofkkaaGreatW.PrintLast Go.Proofs.YtjodlkbhaofkkaaGreatW.PrintMore
attribute [local go_sem] ja jb j5 j6 hY hZ jc jd
set_option linter.unusedVariables false
set_option linter.unusedSimpArgs false
set_option maxHeartbeats 8000000
set_option maxRecDepth 100000
def dg.l0 : Nat → List Int → List Bool → Int → Int → List Int → Option (List Bool)
 | 0, _, _, _, _, _ => none
 | k + 1, x5, x6, Jt, Br, sR => if Br < Jt then (if 0 < (sR.length : Int) then (if (rd sR 0) = 0 then (none) else (if 0 ≤ (Int.tmod Br (rd sR 0)) then (if (Int.tmod Br (rd sR 0)) < (x5.length : Int) then (if 0 ≤ Br then (if Br < (x6.length : Int) then (dg.l0 k x5 (x6.set (Br : Int).toNat (decide ((rd x5 (Int.tmod Br (rd sR 0))) ≤ Br))) Jt (wrap64 (Br + 1)) sR) else (none)) else (none)) else (none)) else (none))) else (none)) else (some x6)
def dg.f (k : Nat) (an : List Int) (a1 : Int) : Option (List Bool) := if 0 < (an.length : Int) then ((ar.f k an (rd an 0)).bind fun t148 => (if 0 ≤ (wrap64 (a1 + 1)) then (if (wrap64 (a1 + 1) : Int).toNat ≤ 281474976710656 then ((some (List.replicate (wrap64 (a1 + 1) : Int).toNat false : List Bool)).bind fun tf => (dg.l0 k t148 tf (tf.length : Int) 0 an)) else (none)) else (none))) else (none)
def dg.T1 : Bool × List (List Nat × List Nat) := (true, [([], []), ([0], [0]), ([], []), ([2], [2]), ([3], [3]), ([4], [4]), ([1, 5], [1, 5]), ([6, 6, 0, 1, 2, 3, 4, 5, 6], [6])])
def dg.B1 : List Nat := [0, 1, 0, 4, 12, 28, 63, 127]
theorem dg.El : gX .any (opsOf Tryz.f75 1) = dg.T1 := by kernel_rfl
theorem dg.wM : gm dg.T1.2 dg.B1 = true := by kernel_rfl
theorem dg.calls (k : Nat) (bF : Option Addr) (bl : Nat) (an : List Int) (a1 : Int) (r : List Bool) (w : World) (eB : Kd.C (Kd.int .i64) w bF an.length an) (eC : an.length ≤ bl) (h : dg.f k an a1 = some r) :
 Calls Tryz.prog 75 #[.agg #[.slice bF an.length bl], .int .i64 a1] w fun e w' => ∃ jf : Value, e = .returned (jf) ∧ Kd.R Kd.bool 4 w' w.heap.size (fun _ => True) jf r ∧ Below w.heap.size w w' := by
 have kJ := Tryz.underlying26
 have bV := aa.mk eB
 have cH := aa.mk eC
 clear eB eC
 have HB := aa.mk (Below.refl w.heap.size w)
 have H := h
 clear h
 unfold dg.f at H
 obtain ⟨c3, H⟩ := kG H
 have jD : decide (0 < (an.length : Int)) = true := decide_eq_true c3
 have ow : decide (0 < an.length) = true := decide_eq_true (by omega)
 clear c3
 obtain ⟨t148, A4, H⟩ := eA H
 obtain ⟨Jo, xz⟩ : ∃ j_ : Int, (wrap64 (a1 + 1)) = j_ := ⟨_, rfl⟩
 replace H : (if 0 ≤ (Jo) then (if (Jo : Int).toNat ≤ 281474976710656 then ((some (List.replicate (Jo : Int).toNat false : List Bool)).bind fun tf => (dg.l0 k t148 tf (tf.length : Int) 0 an)) else (none)) else (none)) = some r := by first | (rw [xz] at H; exact H) | (simp only [xz] at H ⊢; exact H)
 (try rw [xz] at A4)
 have avi : (IntKind.i64.wrap (a1 + 1)) = Jo := (b6 _).trans xz
 obtain ⟨c6, H⟩ := kG H
 have pH := eq_true c6
 have LU : decide (0 ≤ (Jo)) = true := decide_eq_true c6
 clear c6
 obtain ⟨c7, H⟩ := kG H
 have oO := eq_true c7
 have xB : decide ((Jo : Int).toNat ≤ 281474976710656) = true := decide_eq_true c7
 clear c7
 obtain ⟨tf, Of⟩ : ∃ y_ : List Bool, y_ = (List.replicate (Jo : Int).toNat false) := ⟨_, rfl⟩
 replace H : (dg.l0 k t148 tf (tf.length : Int) 0 an) = some r := by subst Of; exact H
 have XY := aa.mk Of
 clear Of
 have H' := aa.mk H
 clear H
 go_enter Tryz.func75, Tryz.ntmps75
 try go_wp2_with (first | ((with_reducible refine gate_dst (N := 2) rfl ?_); refine iP 2 #[.slice bF an.length bl] 26 ?_; intro XZ hg w8 hbox hb; have mH := aa.mk (hbox); have avj := ij hg HB; have avk := ij hg HB; replace HB := jL HB hb; clear hb hbox hg))
 replace mH := aa.mk (bg mH.out)
 replace HB := aa.mk (bD HB.out)
 have Uz : 0 ≤ (0 : Int) := (by omega)
 have UA : 0 < (an.length : Int) := bO
 obtain ⟨Em, ap1, o7⟩ := Kd.aZ bV.out 0 Uz UA
 have qM := o7
 (try rw [show ((0 : Int)).toNat = 0 from rfl] at qM)
 (try rw [show 0 * 1 = 0 from rfl] at qM)
 (try rw [Addr.add_zero'] at qM)
 cases ap1
 have avl : (0 < an.length) = True := eq_true (by omega)
 (try rw [show ((0 : Int)).toNat = 0 from rfl] at o7)
 (try rw [Addr.add_zero'] at o7)
 (try replace o7 := (HB.out.cell (World.block_lt_of_cell? w _ o7)).trans o7)
 replace Uz := eq_true Uz
 replace UA := eq_true UA
 refine fy (n := 8) (S := fun w' => w'.cell? ⟨XZ, 0, none⟩ = some (.slice (some Em) an.length bl) ∧ w'.cell? Em = some (.int .i64 (rd an 0))) (ds := []) (B_ 0 8) (by kernel_rfl) rfl rfl ⟨(aH mH.out 0).trans rfl, ((HB.out.cell (World.block_lt_of_cell? w _ qM)).trans qM)⟩ (fun hHeld => ?_); refine dv dg.El dg.wM (fun HT_ HW_ => ?_)
 generalize w8.drew = w9 at mH HB o7 hHeld ⊢
 refine b5 HT_ 0 8 (B_ 1 8) ?_
 refine b5 HT_ 2 10 (B_ 5 8) ?_
 refine ni HT_ HW_ hHeld 1 9 (B_ 7 8) ?_
 refine ni HT_ HW_ hHeld 3 11 (B_ 15 8) ?_
 refine b5 HT_ 4 12 (B_ 31 8) ?_
 refine ni HT_ HW_ hHeld 5 13 (B_ 63 8) ?_
 refine o2 HT_ 6 14 (B_ 127 8) (fun K hK => ?_)
 refine gu Tryz.func88 (by kernel_rfl) rfl #[.slice (some Em) an.length bl, .int .i64 (rd an 0)] (by rfl) rfl rfl (by (try simp only [List.map_toArray, List.map_cons, List.map_nil]); first | done | rfl | (simp only [List.length_drop, List.length_take]; rfl)) ?_
 with_reducible refine (ar.calls k _ _ an (rd an 0) t148 _ ?ah ?aj A4.out).mono ?_
 (case ah => exact iZ bV HB)
 (case aj => exact cH.out)
 rintro e Ju ⟨ap2, rfl, b0, hb⟩
 refine ⟨_, rfl, ?_⟩
 have Og := aa.mk (Kd.aW b0 (ag (bC HB)))
 replace mH := cn mH hb
 replace HB := eM HB hb
 (try clear hb)
 (try clear b0)
 refine hK.out _ _ ⟨(aH mH.out 0).trans rfl, ((HB.out.cell (World.block_lt_of_cell? w _ qM)).trans qM)⟩ (fun hHeld => ?_)
 clear hK K
 refine ep (a' := ?_) ?_ ?_
 rotate_left
 · show Act.put _ (some 14) _ = _
   simp only [Act.put, jK, jA, jB, b6, dw]
   rfl
 refine b5 HT_ 7 5 (B_ 255 8) ?_
 refine ik (eS HT_.out (by kernel_rfl)) ?_
 try go_wp2_with (first | ((with_reducible refine gate_dst (N := 17) rfl ?_); refine Kd.vG Kd.bool _ 4 rfl (N := 17) rfl 66 _ _ rfl Jo rfl rfl Tryz.underlying66 (.bool false) 1 D9 rfl (by decide) (by omega) false (ok := fun _ => True) (okp := fun _ => True) rfl (fun _ hk => hk) trivial (bO) (Nat.le_trans (Nat.mul_le_mul_right _ (bO : Jo.toNat ≤ 281474976710656)) (by omega)) (Below.refl _ _) (Nat.le_refl _) ?_; intro v152 Bn nU hb hg_ hnew_; clear hg_ hnew_; (first | rw [← XY.out] at nU | (simp only [Int.reduceToNat] at nU; rw [← XY.out] at nU)); replace Og := aa.mk (Kd.aY (b9 Og.out) hb); have X0 := aa.mk (Kd.aW nU (ag (bC HB))); replace mH := cn mH hb; replace HB := eM HB hb; clear hb nU; obtain ⟨NP, GK, GL⟩ := Kd.aN X0.out; subst GL))
 go_loopg [20] k (fun kq v20 w' => ∃ (bY : List Bool) (ku : Int), v20 = .int .i64 ku ∧ aa (dg.l0 kq t148 bY (tf.length : Int) ku an = some r) ∧ aa (kq ≤ k) ∧ aa (Kd.R (Kd.int .i64) 3 w' w.heap.size (fun _ => True) ap2 t148) ∧ aa (Kd.R Kd.bool 4 w' w.heap.size (fun _ => True) (.slice NP tf.length GK) bY) ∧ aa (w'.heap[XZ]? = some (.cells #[(.slice (some Em) an.length bl)] 26 (0, 0))) ∧ aa (Below w.heap.size w w'))
 case atStart => exact ⟨(tf), (0), eF, H', ⟨Nat.le_refl _⟩, ⟨b9 Og.out⟩, ⟨b9 X0.out⟩, ⟨cC mH.out⟩, ⟨bC HB⟩⟩
 case round =>
  clear H'
  try clear jD
  try clear ow
  try clear pH
  try clear LU
  try clear oO
  try clear xB
  try clear o7
  try clear Uz
  try clear UA
  obtain ⟨bY, ku, rfl, HA, fu, cr, dh, mH, HB⟩ := hrel
  have p4 := (Kd.ao dh.out).1
  rw [p4] at dh
  (try simp only [p4])
  (try simp only [p4] at mH)
  (try simp only [p4] at cr)
  cases gk with
  | zero => exact absurd HA.out (by simp [dg.l0])
  | succ k1 =>
   have H := HA.out
   clear HA
   simp only [dg.l0] at H
   by_cases mG : ku < (tf.length : Int)
   rotate_left
   · rw [if_neg mG] at H
     have jQ : decide (ku < (tf.length : Int)) = false := decide_eq_false mG
     (try (have NW := jQ; simp only [p4] at NW))
     clear mG
     obtain rfl := Option.some.inj H
     go_wp2
     go_ret
     exact ⟨_, by first | rfl | (simp [cD, cF] <;> rfl) | (simp only [← xz]; first | rfl | (simp [cD, cF] <;> rfl)) | (simp [*, cD, cF] <;> rfl), b9 dh.out, bC HB⟩
   rw [if_pos mG] at H
   have jQ : decide (ku < (tf.length : Int)) = true := decide_eq_true mG
   (try (have NW := jQ; simp only [p4] at NW))
   clear mG
   obtain ⟨AU, H⟩ := kG H
   have rH : decide (0 < (an.length : Int)) = true := decide_eq_true AU
   have Ob : decide (0 < an.length) = true := decide_eq_true (by omega)
   (try (have ap3 := rH; simp only [p4] at ap3))
   clear AU
   obtain ⟨rI, H⟩ := in_ H
   have yX : ((rd an 0) == 0) = false := beq_eq_false_iff_ne.mpr rI
   have agB : ((rd an 0) != 0) = true := bne_iff_ne.mpr rI
   obtain ⟨AV, X1⟩ : ∃ j_ : Int, (Int.tmod ku (rd an 0)) = j_ := ⟨_, rfl⟩
   replace H : (if 0 ≤ (AV) then (if (AV) < (t148.length : Int) then (if 0 ≤ ku then (if ku < (bY.length : Int) then (dg.l0 k1 t148 (bY.set (ku : Int).toNat (decide ((rd t148 (AV)) ≤ ku))) (tf.length : Int) (wrap64 (ku + 1)) an) else (none)) else (none)) else (none)) else (none)) = some r := by first | (rw [X1] at H; exact H) | (simp only [X1] at H ⊢; exact H)
   obtain ⟨za, H⟩ := dB H
   obtain ⟨rE, H⟩ := kG H
   have pY : decide ((AV) < (t148.length : Int)) = true := decide_eq_true rE
   (try (have NZ := pY; simp only [p4] at NZ))
   clear rE
   obtain ⟨tr, H⟩ := dB H
   obtain ⟨GP, H⟩ := kG H
   have tt : decide (ku < (bY.length : Int)) = true := decide_eq_true GP
   (try (have aa1 := tt; simp only [p4] at aa1))
   clear GP
   obtain ⟨abh, Oh⟩ : ∃ y_ : List Bool, y_ = (bY.set (ku : Int).toNat (decide ((rd t148 (AV)) ≤ ku))) := ⟨_, rfl⟩
   replace H : (dg.l0 k1 t148 abh (tf.length : Int) (wrap64 (ku + 1)) an) = some r := by subst Oh; exact H
   have agL := aa.mk Oh
   clear Oh
   have H' := aa.mk H
   clear H
   have Jv := fG mH
   have Jw := af mH.out 0
   have abi : 0 ≤ (0 : Int) := (by omega)
   have abj : 0 < (an.length : Int) := bO
   obtain ⟨agM, ap4, uu⟩ := Kd.aZ bV.out 0 abi abj
   obtain rfl : Em = agM := (by injection ap4)
   have avm : (0 < an.length) = True := eq_true (by omega)
   (try rw [show ((0 : Int)).toNat = 0 from rfl] at uu)
   (try rw [Addr.add_zero'] at uu)
   (try replace uu := (HB.out.cell (World.block_lt_of_cell? w _ uu)).trans uu)
   replace abi := eq_true abi
   replace abj := eq_true abj
   obtain ⟨kL, kM, zb⟩ := Kd.aN cr.out
   subst zb
   have abk : 0 ≤ ((AV) : Int) := bO
   have abl : (AV) < (t148.length : Int) := bO
   obtain ⟨avn, ap5, an0⟩ := Kd.aZ (Kd.ao cr.out).2.2 (AV) abk abl
   cases ap5
   replace abk := eq_true abk
   replace abl := eq_true abl
   have p22 : 0 ≤ (ku : Int) := bO
   have Oi : (ku : Int) < ((bY.length : Int) : Int) := bO
   obtain ⟨En, G6, CC, Oj, abn, ap6, Ol⟩ := Kd.ry dh.out (by omega)
   (first | cases CC | (injection CC with ea_ en_ ec_; (first | subst ea_ | (injection ea_ with ea_; subst ea_)); subst ec_; clear en_))
   have abo := aa.mk Oj
   have ap7 := aa.mk Ol
   clear Oj abn Ol
   obtain ⟨abp, abq⟩ := Kd.lK false dh.out (ku : Int) p22 Oi
   replace p22 := eq_true p22
   replace Oi := eq_true Oi
   have abr := Kd.pz dh.out (ku : Int) (decide ((rd t148 (AV)) ≤ ku))
   go_wp2_with (first | ((with_reducible refine gate_store (t := 4) (p := 36) rfl ?_); refine fw (t := 4) (p := 36) (v := ?abt) (w1 := (wr.setCell ⟨En, (ku : Int).toNat, none⟩ (.bool (decide ((rd t148 (AV)) ≤ ku))))) ?hg ?ho ?hn ?hr ?_; (case ho => rfl); (case hg => rfl); (case hn => rfl); (case hr => first | (go_simp; done) | (go_simp; rfl)); intro Eo hw; have hg : wr.grownBy Eo (some En) := (by rw [hw]; exact abr.2); have hp_ : Kd.R Kd.bool 4 Eo w.heap.size (fun _ => True) (.slice (some ⟨En, 0, none⟩) bY.length GK) abh := (by rw [hw, agL.out]; exact abr.1); clear abr; replace cr := aa.mk (Kd.o0 (v := (.slice (some ⟨En, 0, none⟩) bY.length GK)) (b9 cr.out) (Kd.oZ dh.out) (by decide) hg); replace mH := aa.mk (cS (cC mH.out) hg (Kd.nR dh.out mH.out (by decide))); replace dh := aa.mk (hp_); replace HB := aa.mk ((by rw [hw]; exact hP (HB.out) abo.out : Below w.heap.size w Eo)); clear hg hw hp_))
   (try simp only [← p4])
   go_roundg k1
   case measure => have := fu.out; omega
   case rel => exact ⟨(abh), (wrap64 (ku + 1)), eF, H', ⟨by have := fu.out; omega⟩, ⟨by (try simp only [p4]); (with_reducible repeat (first | apply Kd.bQ | apply Kd.bT | apply Kd.bR)); exact cr.out⟩, ⟨by (try simp only [p4]); (with_reducible repeat (first | apply Kd.bQ | apply Kd.bT | apply Kd.bR)); exact dh.out⟩, ⟨by (try simp only [p4]); exact pB mH⟩, ⟨bC HB⟩⟩
def cU.l0 : Nat → List Int → List Bool → Int → Int → Option (List Int)
 | 0, _, _, _, _ => none
 | k + 1, x3, vz, Gq, rn => if rn < Gq then (if 0 ≤ rn then (if rn < (vz.length : Int) then (if e6 false vz rn = true then (cU.l0 k x3 vz Gq (wrap64 (rn + 1))) else (if x3.length < 17592186044416 then (cU.l0 k (x3 ++ [rn]) vz Gq (wrap64 (rn + 1))) else (none))) else (none)) else (none)) else (some x3)
def cU.f (k : Nat) (an : List Int) : Option (List Int) := (ak.f k an).bind fun t158 => (if t158 = true then ((dg.f k an 200).bind fun t162 => (cU.l0 k (([] : List Int)) t162 (t162.length : Int) 0)) else (some ([] : List Int)))
theorem cU.calls (k : Nat) (bF : Option Addr) (bl : Nat) (an : List Int) (r : List Int) (w : World) (eB : Kd.C (Kd.int .i64) w bF an.length an) (eC : an.length ≤ bl) (h : cU.f k an = some r) :
 Calls Tryz.prog 36 #[.agg #[.slice bF an.length bl]] w fun e w' => ∃ jf : Value, e = .returned (jf) ∧ Kd.R (Kd.int .i64) 3 w' w.heap.size (fun _ => True) jf r ∧ Below w.heap.size w w' := by
 have kJ := Tryz.underlying26
 have bV := aa.mk eB
 have cH := aa.mk eC
 clear eB eC
 have HB := aa.mk (Below.refl w.heap.size w)
 have H := h
 clear h
 unfold cU.f at H
 obtain ⟨t158, A2, H⟩ := eA H
 by_cases c3 : t158 = true
 rotate_left
 · replace c3 := Bool.eq_false_iff.mpr c3
   subst c3
   rw [if_neg (show ¬ (false = true) by decide)] at H
   obtain rfl := Option.some.inj H
   go_enter Tryz.func36, Tryz.ntmps36
   go_wp2_with (first | ((with_reducible refine gate_dst (N := 1) rfl ?_); refine iP 1 #[.slice bF an.length bl] 26 ?_; intro X2 hg UB hbox hb; have kR := aa.mk (hbox); have agN := ij hg HB; have agO := ij hg HB; replace HB := jL HB hb; clear hb hbox hg; have Jx := fG kR; have Jy := af kR.out 0) | ((with_reducible refine gate_callee (f := 42) rfl ?_); refine dU (some 7) Tryz.func42 #[.agg #[.slice bF an.length bl]] ?_; (with_reducible refine (ak.calls k _ _ an false _ ?ah ?aj A2.out).mono ?_); (case ah => exact iZ bV HB); (case aj => exact cH.out); rintro e DT ⟨rfl, hb⟩; refine ⟨_, rfl, ?_⟩; replace kR := cn kR hb; replace HB := eM HB hb; (try clear hb)))
   go_ret
   exact ⟨_, ig, by first | exact Kd.kQ _ _ _ _ _ | exact Kd.mE _ _ _ _ _ | exact Kd.mF _ _ _ _ _ | exact Kd.mC _ _ _ _ _ | exact Kd.mD _ _ _ _ _, bC HB⟩
 subst c3
 rw [if_pos rfl] at H
 obtain ⟨agP, Om⟩ : ∃ y_ : List Int, y_ = (([] : List Int)) := ⟨_, rfl⟩
 replace H : ((dg.f k an 200).bind fun t162 => (cU.l0 k agP t162 (t162.length : Int) 0)) = some r := by subst Om; exact H
 have X3 := aa.mk Om
 clear Om
 obtain ⟨t162, A4, H⟩ := eA H
 have H' := aa.mk H
 clear H
 go_enter Tryz.func36, Tryz.ntmps36
 go_wp2_with (first | ((with_reducible refine gate_dst (N := 1) rfl ?_); refine iP 1 #[.slice bF an.length bl] 26 ?_; intro X2 hg w5 hbox hb; have kR := aa.mk (hbox); have agN := ij hg HB; have agO := ij hg HB; replace HB := jL HB hb; clear hb hbox hg; have lV := fG kR; have lW := af kR.out 0) | ((with_reducible refine gate_callee (f := 42) rfl ?_); refine dU (some 7) Tryz.func42 #[.agg #[.slice bF an.length bl]] ?_; (with_reducible refine (ak.calls k _ _ an true _ ?ah ?aj A2.out).mono ?_); (case ah => exact iZ bV HB); (case aj => exact cH.out); rintro e w7 ⟨rfl, hb⟩; refine ⟨_, rfl, ?_⟩; replace kR := cn kR hb; replace HB := eM HB hb; (try clear hb)) | ((with_reducible refine gate_dst (N := 9) rfl ?_); refine Kd.iK (Kd.int .i64) _ 3 ?hg (N := 9) ?hd (xs := ([] : List Int)) (inner := []) (ok := fun _ => True) (okp := fun _ => True) ?hr ?hp (fun _ hk => hk) trivial (Below.refl _ _) (Nat.le_refl _) (by simp) ?_; (case hd => rfl); (case hg => rfl); (case hr => first | (go_simp; done) | (go_simp; rfl)); (case hp => exact (bE.none _ _)); intro v160 w8 Ep hb hg_ hnew_; clear hg_ hnew_; (first | rw [← X3.out] at Ep | (simp only [Int.reduceToNat] at Ep; rw [← X3.out] at Ep)); have On := aa.mk (Kd.aW Ep (ag (bC HB))); replace kR := cn kR hb; replace HB := eM HB hb; clear hb Ep; have sS := fG kR; have sT := af kR.out 0) | ((with_reducible refine gate_callee (f := 75) rfl ?_); refine dU (some 11) Tryz.func75 #[.agg #[.slice bF an.length bl], .int .i64 200] ?_; (with_reducible refine (dg.calls k _ _ an 200 t162 _ ?ah ?aj A4.out).mono ?_); (case ah => exact iZ bV HB); (case aj => exact cH.out); rintro e Bn ⟨azx, rfl, b0, hb⟩; refine ⟨_, rfl, ?_⟩; replace On := aa.mk (Kd.aY (b9 On.out) hb); have X4 := aa.mk (Kd.aW b0 (ag (bC HB))); replace kR := cn kR hb; replace HB := eM HB hb; (try clear hb); (try clear b0); obtain ⟨Er, uv, Oo⟩ := Kd.aN X4.out; subst Oo))
 go_loopg [3, 13] k (fun kq v3 v13 w' => ∃ (bd : List Int) (fi : Int), v13 = .int .i64 fi ∧ aa (cU.l0 kq bd t162 (t162.length : Int) fi = some r) ∧ aa (kq ≤ k) ∧ aa (Kd.R (Kd.int .i64) 3 w' w.heap.size (fun _ => True) v3 bd) ∧ aa (Kd.R Kd.bool 4 w' w.heap.size (fun _ => True) (.slice Er t162.length uv) t162) ∧ aa (w'.heap[X2]? = some (.cells #[(.slice bF an.length bl)] 26 (0, 0))) ∧ aa (Below w.heap.size w w'))
 case atStart => exact ⟨(agP), (0), eF, H', ⟨Nat.le_refl _⟩, ⟨b9 On.out⟩, ⟨b9 X4.out⟩, ⟨cC kR.out⟩, ⟨bC HB⟩⟩
 case round =>
  clear H'
  try clear sS
  try clear lV
  try clear sT
  try clear lW
  obtain ⟨bd, fi, rfl, HA, fu, dC, Bt, kR, HB⟩ := hrel
  cases gk with
  | zero => exact absurd HA.out (by simp [cU.l0])
  | succ k1 =>
   have H := HA.out
   clear HA
   simp only [cU.l0] at H
   by_cases mY : fi < (t162.length : Int)
   rotate_left
   · rw [if_neg mY] at H
     have lS : decide (fi < (t162.length : Int)) = false := decide_eq_false mY
     clear mY
     obtain rfl := Option.some.inj H
     go_wp2
     go_ret
     exact ⟨_, ig, b9 dC.out, bC HB⟩
   rw [if_pos mY] at H
   have lS : decide (fi < (t162.length : Int)) = true := decide_eq_true mY
   clear mY
   obtain ⟨jQ, H⟩ := dB H
   obtain ⟨rH, H⟩ := dB H
   obtain ⟨agR, Oq⟩ : ∃ b_ : Bool, b_ = (e6 false t162 fi) := ⟨_, rfl⟩
   replace H : (if agR = true then (cU.l0 k1 bd t162 (t162.length : Int) (wrap64 (fi + 1))) else (if bd.length < 17592186044416 then (cU.l0 k1 (bd ++ [fi]) t162 (t162.length : Int) (wrap64 (fi + 1))) else (none))) = some r := by rw [← Oq] at H; exact H
   have X5 := aa.mk Oq
   clear Oq
   by_cases oN : agR = true
   · subst oN
     rw [if_pos rfl] at H
     have H' := aa.mk H
     clear H
     have G7 : 0 ≤ (fi : Int) := bO
     have G8 : fi < (t162.length : Int) := bO
     obtain ⟨agS, abu, CD⟩ := Kd.fc (Kd.ao Bt.out).2.2 fi G7 G8
     (try rw [← X5.out] at CD)
     cases abu
     replace G7 := eq_true G7
     replace G8 := eq_true G8
     go_wp2
     go_roundg k1
     case measure => have := fu.out; omega
     case rel => exact ⟨(bd), (wrap64 (fi + 1)), eF, H', ⟨by have := fu.out; omega⟩, ⟨b9 dC.out⟩, ⟨b9 Bt.out⟩, ⟨cC kR.out⟩, ⟨bC HB⟩⟩
   replace oN := Bool.eq_false_iff.mpr oN
   subst oN
   rw [if_neg (show ¬ (false = true) by decide)] at H
   obtain ⟨vN, H⟩ := kG H
   have Ot := aa.mk vN
   clear vN
   obtain ⟨agT, Ou⟩ : ∃ y_ : List Int, y_ = (bd ++ [fi]) := ⟨_, rfl⟩
   replace H : (cU.l0 k1 agT t162 (t162.length : Int) (wrap64 (fi + 1))) = some r := by subst Ou; exact H
   have agU := aa.mk Ou
   clear Ou
   have H' := aa.mk H
   clear H
   have G7 : 0 ≤ (fi : Int) := bO
   have G8 : fi < (t162.length : Int) := bO
   obtain ⟨agS, abu, CD⟩ := Kd.fc (Kd.ao Bt.out).2.2 fi G7 G8
   (try rw [← X5.out] at CD)
   cases abu
   replace G7 := eq_true G7
   replace G8 := eq_true G8
   go_wp2_with (first | ((with_reducible refine gate_builtin (b := .append) (xs := #[.tmp 20, .tmp 22]) rfl ?_); at_builtin; refine Kd.ke (Kd.int .i64) (w0 := w) w.heap.size rfl (.tmp 20) (.tmp 22) 24 3 (.int .i64 0) 8 rfl Tryz.underlying24 iS rfl (by decide) (by omega) u3 bd fi [.int .i64 fi] (fun _ => True) (fun _ => False) rfl rfl ?aP (fun _ hk => hk.elim) ?aF ?aO ?aB ?aS ?aL ?_; (case aP => exact rfl); (case aB => exact (bC HB)); (case aF => exact (fun _ _ => trivial)); (case aO => exact (b9 dC.out)); (case aS => exact (ag (bC HB))); (case aL => have := Ot.out; omega); intro v167 TJ ho hb hg hat; rw [← agU.out] at ho; replace Bt := aa.mk (Kd.o0 (b9 Bt.out) (Kd.oZ (b9 dC.out)) (by decide) hg); replace kR := aa.mk (cS (cC kR.out) hg (Kd.nR dC.out kR.out (by decide))); replace HB := aa.mk (hb); have agV := aa.mk (ho); clear dC; clear ho hb hg hat))
   go_roundg k1
   case measure => have := fu.out; omega
   case rel => exact ⟨(agT), (wrap64 (fi + 1)), eF, H', ⟨by have := fu.out; omega⟩, ⟨b9 agV.out⟩, ⟨b9 Bt.out⟩, ⟨cC kR.out⟩, ⟨bC HB⟩⟩
def ff.f (k : Nat) (an : List Int) : Option (Int) := (ak.f k an).bind fun t170 => (if t170 = true then ((cU.f k an).bind fun t171 => (some (t171.length : Int))) else (some (-1)))
theorem ff.calls (k : Nat) (bF : Option Addr) (bl : Nat) (an : List Int) (r : Int) (w : World) (eB : Kd.C (Kd.int .i64) w bF an.length an) (eC : an.length ≤ bl) (h : ff.f k an = some r) :
 Calls Tryz.prog 53 #[.agg #[.slice bF an.length bl]] w fun e w' => e = .returned (.int .i64 r) ∧ Below w.heap.size w w' := by
 have kJ := Tryz.underlying26
 have bV := aa.mk eB
 have cH := aa.mk eC
 clear eB eC
 have HB := aa.mk (Below.refl w.heap.size w)
 have H := h
 clear h
 unfold ff.f at H
 obtain ⟨t170, A2, H⟩ := eA H
 by_cases c3 : t170 = true
 rotate_left
 · replace c3 := Bool.eq_false_iff.mpr c3
   subst c3
   rw [if_neg (show ¬ (false = true) by decide)] at H
   obtain rfl := Option.some.inj H
   go_enter Tryz.func53, Tryz.ntmps53
   go_wp2_with (first | ((with_reducible refine gate_dst (N := 1) rfl ?_); refine iP 1 #[.slice bF an.length bl] 26 ?_; intro agW hg Bn hbox hb; have p5 := aa.mk (hbox); have agX := ij hg HB; have agY := ij hg HB; replace HB := jL HB hb; clear hb hbox hg; have nV := fG p5; have nW := af p5.out 0) | ((with_reducible refine gate_callee (f := 42) rfl ?_); refine dU (some 4) Tryz.func42 #[.agg #[.slice bF an.length bl]] ?_; (with_reducible refine (ak.calls k _ _ an false _ ?ah ?aj A2.out).mono ?_); (case ah => exact iZ bV HB); (case aj => exact cH.out); rintro e Eb ⟨rfl, hb⟩; refine ⟨_, rfl, ?_⟩; replace p5 := cn p5 hb; replace HB := eM HB hb; (try clear hb)))
   go_ret
   exact ⟨ig, bC HB⟩
 subst c3
 rw [if_pos rfl] at H
 obtain ⟨t171, A4, H⟩ := eA H
 obtain rfl := Option.some.inj H
 go_enter Tryz.func53, Tryz.ntmps53
 go_wp2_with (first | ((with_reducible refine gate_dst (N := 1) rfl ?_); refine iP 1 #[.slice bF an.length bl] 26 ?_; intro agW hg w5 hbox hb; have p5 := aa.mk (hbox); have agX := ij hg HB; have agY := ij hg HB; replace HB := jL HB hb; clear hb hbox hg; have lV := fG p5; have lW := af p5.out 0) | ((with_reducible refine gate_callee (f := 42) rfl ?_); refine dU (some 4) Tryz.func42 #[.agg #[.slice bF an.length bl]] ?_; (with_reducible refine (ak.calls k _ _ an true _ ?ah ?aj A2.out).mono ?_); (case ah => exact iZ bV HB); (case aj => exact cH.out); rintro e w7 ⟨rfl, hb⟩; refine ⟨_, rfl, ?_⟩; replace p5 := cn p5 hb; replace HB := eM HB hb; (try clear hb); have lX := fG p5; have lY := af p5.out 0) | ((with_reducible refine gate_callee (f := 36) rfl ?_); refine dU (some 7) Tryz.func36 #[.agg #[.slice bF an.length bl]] ?_; (with_reducible refine (cU.calls k _ _ an t171 _ ?ah ?aj A4.out).mono ?_); (case ah => exact iZ bV HB); (case aj => exact cH.out); rintro e w9 ⟨azy, rfl, b0, hb⟩; refine ⟨_, rfl, ?_⟩; have agZ := aa.mk (Kd.aW b0 (ag (bC HB))); replace p5 := cn p5 hb; replace HB := eM HB hb; (try clear hb); (try clear b0); obtain ⟨pJ, oQ, rJ⟩ := Kd.aN agZ.out; subst rJ))
 go_ret
 exact ⟨ig, bC HB⟩
def cmp_isNaN_int.f (a0 : Int) : Option (Bool) := some (a0 != a0)
theorem cmp_isNaN_int.calls (a0 : Int) (r : Bool) (w : World) (h : cmp_isNaN_int.f a0 = some r) :
 Calls Tryz.prog 132 #[.int .i64 a0] w fun e w' => e = .returned (.bool r) ∧ av w w' := by
 have H := h
 clear h
 unfold cmp_isNaN_int.f at H
 obtain rfl := Option.some.inj H
 go_enter Tryz.func132, Tryz.ntmps132
 go_wp2
 go_ret
 exact ⟨by first | rfl | (simp; done) | (simp [*]; done), by repeat (first | exact av.refl _ | apply av.step)⟩
def gS.f (a0 : Int) (a1 : Int) : Option (Int) := (cmp_isNaN_int.f a0).bind fun t174 => ((cmp_isNaN_int.f a1).bind fun t175 => (if t174 = true then (if t175 = true then (some 0) else (some (-1))) else (if t175 = true then (some 1) else (if a0 < a1 then (some (-1)) else (if a0 > a1 then (some 1) else (some 0))))))
theorem gS.calls (a0 : Int) (a1 : Int) (r : Int) (w : World) (h : gS.f a0 a1 = some r) :
 Calls Tryz.prog 117 #[.int .i64 a0, .int .i64 a1] w fun e w' => e = .returned (.int .i64 r) ∧ av w w' := by
 have H := h
 clear h
 unfold gS.f at H
 obtain ⟨t174, A3, H⟩ := eA H
 obtain ⟨t175, A4, H⟩ := eA H
 by_cases c5 : t174 = true
 · subst c5
   rw [if_pos rfl] at H
   by_cases c6 : t175 = true
   · subst c6
     rw [if_pos rfl] at H
     obtain rfl := Option.some.inj H
     go_enter Tryz.func117, Tryz.ntmps117
     go_wp2_with (first | ((with_reducible refine gate_callee (f := 132) rfl ?_); refine dU (some 8) Tryz.func132 #[.int .i64 a0] ?_; (with_reducible refine (cmp_isNaN_int.calls a0 true _ A3.out).mono ?_); rintro e w' ⟨rfl, ⟨nd, rfl⟩⟩; refine ⟨_, rfl, ?_⟩) | ((with_reducible refine gate_callee (f := 132) rfl ?_); refine dU (some 10) Tryz.func132 #[.int .i64 a1] ?_; (with_reducible refine (cmp_isNaN_int.calls a1 true _ A4.out).mono ?_); rintro e w' ⟨rfl, ⟨nd, rfl⟩⟩; refine ⟨_, rfl, ?_⟩))
     go_ret
     exact ⟨by first | rfl | (simp; done) | (simp [*]; done), by repeat (first | exact av.refl _ | apply av.step)⟩
   replace c6 := Bool.eq_false_iff.mpr c6
   subst c6
   rw [if_neg (show ¬ (false = true) by decide)] at H
   obtain rfl := Option.some.inj H
   go_enter Tryz.func117, Tryz.ntmps117
   go_wp2_with (first | ((with_reducible refine gate_callee (f := 132) rfl ?_); refine dU (some 8) Tryz.func132 #[.int .i64 a0] ?_; (with_reducible refine (cmp_isNaN_int.calls a0 true _ A3.out).mono ?_); rintro e w' ⟨rfl, ⟨nd, rfl⟩⟩; refine ⟨_, rfl, ?_⟩) | ((with_reducible refine gate_callee (f := 132) rfl ?_); refine dU (some 10) Tryz.func132 #[.int .i64 a1] ?_; (with_reducible refine (cmp_isNaN_int.calls a1 false _ A4.out).mono ?_); rintro e w' ⟨rfl, ⟨nd, rfl⟩⟩; refine ⟨_, rfl, ?_⟩))
   go_ret
   exact ⟨by first | rfl | (simp; done) | (simp [*]; done), by repeat (first | exact av.refl _ | apply av.step)⟩
 replace c5 := Bool.eq_false_iff.mpr c5
 subst c5
 rw [if_neg (show ¬ (false = true) by decide)] at H
 by_cases c7 : t175 = true
 · subst c7
   rw [if_pos rfl] at H
   obtain rfl := Option.some.inj H
   go_enter Tryz.func117, Tryz.ntmps117
   go_wp2_with (first | ((with_reducible refine gate_callee (f := 132) rfl ?_); refine dU (some 8) Tryz.func132 #[.int .i64 a0] ?_; (with_reducible refine (cmp_isNaN_int.calls a0 false _ A3.out).mono ?_); rintro e w' ⟨rfl, ⟨nd, rfl⟩⟩; refine ⟨_, rfl, ?_⟩) | ((with_reducible refine gate_callee (f := 132) rfl ?_); refine dU (some 10) Tryz.func132 #[.int .i64 a1] ?_; (with_reducible refine (cmp_isNaN_int.calls a1 true _ A4.out).mono ?_); rintro e w' ⟨rfl, ⟨nd, rfl⟩⟩; refine ⟨_, rfl, ?_⟩))
   go_ret
   exact ⟨by first | rfl | (simp; done) | (simp [*]; done), by repeat (first | exact av.refl _ | apply av.step)⟩
 replace c7 := Bool.eq_false_iff.mpr c7
 subst c7
 rw [if_neg (show ¬ (false = true) by decide)] at H
 by_cases c8 : a0 < a1
 · rw [if_pos c8] at H
   have rD : decide (a0 < a1) = true := decide_eq_true c8
   clear c8
   obtain rfl := Option.some.inj H
   go_enter Tryz.func117, Tryz.ntmps117
   go_wp2_with (first | ((with_reducible refine gate_callee (f := 132) rfl ?_); refine dU (some 8) Tryz.func132 #[.int .i64 a0] ?_; (with_reducible refine (cmp_isNaN_int.calls a0 false _ A3.out).mono ?_); rintro e w' ⟨rfl, ⟨nd, rfl⟩⟩; refine ⟨_, rfl, ?_⟩) | ((with_reducible refine gate_callee (f := 132) rfl ?_); refine dU (some 10) Tryz.func132 #[.int .i64 a1] ?_; (with_reducible refine (cmp_isNaN_int.calls a1 false _ A4.out).mono ?_); rintro e w' ⟨rfl, ⟨nd, rfl⟩⟩; refine ⟨_, rfl, ?_⟩))
   go_ret
   exact ⟨by first | rfl | (simp; done) | (simp [*]; done), by repeat (first | exact av.refl _ | apply av.step)⟩
 rw [if_neg c8] at H
 have rD : decide (a0 < a1) = false := decide_eq_false c8
 clear c8
 by_cases c9 : a0 > a1
 rotate_left
 · rw [if_neg c9] at H
   have uo : decide (a1 < a0) = false := decide_eq_false c9
   clear c9
   obtain rfl := Option.some.inj H
   go_enter Tryz.func117, Tryz.ntmps117
   go_wp2_with (first | ((with_reducible refine gate_callee (f := 132) rfl ?_); refine dU (some 8) Tryz.func132 #[.int .i64 a0] ?_; (with_reducible refine (cmp_isNaN_int.calls a0 false _ A3.out).mono ?_); rintro e w' ⟨rfl, ⟨nd, rfl⟩⟩; refine ⟨_, rfl, ?_⟩) | ((with_reducible refine gate_callee (f := 132) rfl ?_); refine dU (some 10) Tryz.func132 #[.int .i64 a1] ?_; (with_reducible refine (cmp_isNaN_int.calls a1 false _ A4.out).mono ?_); rintro e w' ⟨rfl, ⟨nd, rfl⟩⟩; refine ⟨_, rfl, ?_⟩))
   go_ret
   exact ⟨by first | rfl | (simp; done) | (simp [*]; done), by repeat (first | exact av.refl _ | apply av.step)⟩
 rw [if_pos c9] at H
 have uo : decide (a1 < a0) = true := decide_eq_true c9
 clear c9
 obtain rfl := Option.some.inj H
 go_enter Tryz.func117, Tryz.ntmps117
 go_wp2_with (first | ((with_reducible refine gate_callee (f := 132) rfl ?_); refine dU (some 8) Tryz.func132 #[.int .i64 a0] ?_; (with_reducible refine (cmp_isNaN_int.calls a0 false _ A3.out).mono ?_); rintro e w' ⟨rfl, ⟨nd, rfl⟩⟩; refine ⟨_, rfl, ?_⟩) | ((with_reducible refine gate_callee (f := 132) rfl ?_); refine dU (some 10) Tryz.func132 #[.int .i64 a1] ?_; (with_reducible refine (cmp_isNaN_int.calls a1 false _ A4.out).mono ?_); rintro e w' ⟨rfl, ⟨nd, rfl⟩⟩; refine ⟨_, rfl, ?_⟩))
 go_ret
 exact ⟨by first | rfl | (simp; done) | (simp [*]; done), by repeat (first | exact av.refl _ | apply av.step)⟩
def ck.l0 : Nat → List Int → List Int → List Int → Int → Int → Option (Int)
 | 0, _, _, _, _, _ => none
 | k + 1, x0, x1, x9, AQ, vz => if vz < AQ then (if 0 ≤ vz then (if vz < (x9.length : Int) then (if vz ≥ (x1.length : Int) then (some 1) else (if vz < (x1.length : Int) then ((gS.f (rd x9 vz) (rd x1 vz)).bind fun t178 => (if t178 = 0 then (ck.l0 k x0 x1 x9 AQ (wrap64 (vz + 1))) else (some t178))) else (none))) else (none)) else (none)) else (if (x0.length : Int) < (x1.length : Int) then (some (-1)) else (some 0))
def ck.f (k : Nat) (l0 : List Int) (l1 : List Int) : Option (Int) := ck.l0 k l0 l1 l0 (l0.length : Int) 0
theorem ck.calls (k : Nat) (A0 : Option Addr) (c0 : Nat) (l0 : List Int) (A1 : Option Addr) (c1 : Nat) (l1 : List Int) (r : Int) (w : World) (fH : Kd.C (Kd.int .i64) w A0 l0.length l0) (gL : l0.length ≤ c0) (uh : Kd.C (Kd.int .i64) w A1 l1.length l1) (Es : l1.length ≤ c1) (h : ck.f k l0 l1 = some r) :
 Calls Tryz.prog 99 #[.slice A0 l0.length c0, .slice A1 l1.length c1] w fun e w' => e = .returned (.int .i64 r) ∧ av w w' := by
 have eZ := aa.mk fH
 have jN := aa.mk gL
 clear fH gL
 have Et := aa.mk uh
 have HC1 := aa.mk Es
 clear uh Es
 have H := h
 clear h
 unfold ck.f at H
 have H' := aa.mk H
 clear H
 go_enter Tryz.func99, Tryz.ntmps99
 go_wp2
 go_loopg [11] k (fun kq v11 w' => ∃ (fk : Int), v11 = .int .i64 fk ∧ aa (ck.l0 kq l0 l1 l0 (l0.length : Int) fk = some r) ∧ aa (kq ≤ k) ∧ av w w')
 case atStart => exact ⟨(0), eF, H', ⟨Nat.le_refl _⟩, by repeat (first | exact av.refl _ | apply av.step)⟩
 case round =>
  clear H'
  try clear c1
  obtain ⟨fk, rfl, HA, fu, ⟨m1, rfl⟩⟩ := hrel
  cases gk with
  | zero => exact absurd HA.out (by simp [ck.l0])
  | succ k1 =>
   have H := HA.out
   clear HA
   simp only [ck.l0] at H
   by_cases c3 : fk < (l0.length : Int)
   rotate_left
   · rw [if_neg c3] at H
     have jD : decide (fk < (l0.length : Int)) = false := decide_eq_false c3
     clear c3
     by_cases rh : (l0.length : Int) < (l1.length : Int)
     rotate_left
     · rw [if_neg rh] at H
       have pW : decide ((l0.length : Int) < (l1.length : Int)) = false := decide_eq_false rh
       have NS : decide (l0.length < l1.length) = false := decide_eq_false (fun h => rh (Int.ofNat_lt.mpr h))
       clear rh
       obtain rfl := Option.some.inj H
       go_wp2
       go_ret
       exact ⟨by first | rfl | (simp; done) | (simp [*]; done), by repeat (first | exact av.refl _ | apply av.step)⟩
     rw [if_pos rh] at H
     have pW : decide ((l0.length : Int) < (l1.length : Int)) = true := decide_eq_true rh
     have NS : decide (l0.length < l1.length) = true := decide_eq_true (Int.ofNat_lt.mp rh)
     clear rh
     obtain rfl := Option.some.inj H
     go_wp2
     go_ret
     exact ⟨by first | rfl | (simp; done) | (simp [*]; done), by repeat (first | exact av.refl _ | apply av.step)⟩
   rw [if_pos c3] at H
   have jD : decide (fk < (l0.length : Int)) = true := decide_eq_true c3
   clear c3
   obtain ⟨kI, H⟩ := dB H
   obtain ⟨qJ, H⟩ := dB H
   by_cases c6 : fk ≥ (l1.length : Int)
   · rw [if_pos c6] at H
     have pH : decide ((l1.length : Int) ≤ fk) = true := decide_eq_true c6
     clear c6
     obtain rfl := Option.some.inj H
     have zc : 0 ≤ (fk : Int) := bO
     have zd : fk < (l0.length : Int) := bO
     obtain ⟨X6, Ov, Jz⟩ := Kd.aZ eZ.out fk zc zd
     cases Ov
     replace zc := eq_true zc
     replace zd := eq_true zd
     go_wp2
     go_ret
     exact ⟨by first | rfl | (simp; done) | (simp [*]; done), by repeat (first | exact av.refl _ | apply av.step)⟩
   rw [if_neg c6] at H
   have pH : decide ((l1.length : Int) ≤ fk) = false := decide_eq_false c6
   clear c6
   obtain ⟨oO, H⟩ := dB H
   obtain ⟨t178, A8, H⟩ := eA H
   by_cases c9 : t178 = 0
   rotate_left
   · rw [if_neg c9] at H
     have uo : (t178 == 0) = false := beq_eq_false_iff_ne.mpr c9
     have agw : (t178 != 0) = true := bne_iff_ne.mpr c9
     obtain rfl := Option.some.inj H
     have zc : 0 ≤ (fk : Int) := bO
     have zd : fk < (l0.length : Int) := bO
     obtain ⟨X6, Ov, Jz⟩ := Kd.aZ eZ.out fk zc zd
     cases Ov
     replace zc := eq_true zc
     replace zd := eq_true zd
     have G9 : 0 ≤ (fk : Int) := bO
     have G_ : fk < (l1.length : Int) := bO
     obtain ⟨ag1, abv, UC⟩ := Kd.aZ Et.out fk G9 G_
     cases abv
     replace G9 := eq_true G9
     replace G_ := eq_true G_
     go_wp2_with (first | ((with_reducible refine gate_callee (f := 117) rfl ?_); refine dU (some 26) Tryz.func117 #[.int .i64 (rd l0 fk), .int .i64 (rd l1 fk)] ?_; (with_reducible refine (gS.calls (rd l0 fk) (rd l1 fk) t178 _ A8.out).mono ?_); rintro e w' ⟨rfl, ⟨nd, rfl⟩⟩; refine ⟨_, rfl, ?_⟩))
     go_ret
     exact ⟨by first | rfl | (simp; done) | (simp [*]; done), by repeat (first | exact av.refl _ | apply av.step)⟩
   rw [if_pos c9] at H
   have uo : (t178 == 0) = true := beq_iff_eq.mpr c9
   have agw : (t178 != 0) = false := bne_eq_false_iff_eq.mpr c9
   clear c9
   have H' := aa.mk H
   clear H
   have zc : 0 ≤ (fk : Int) := bO
   have zd : fk < (l0.length : Int) := bO
   obtain ⟨X6, Ov, Jz⟩ := Kd.aZ eZ.out fk zc zd
   cases Ov
   replace zc := eq_true zc
   replace zd := eq_true zd
   have G9 : 0 ≤ (fk : Int) := bO
   have G_ : fk < (l1.length : Int) := bO
   obtain ⟨ag1, abv, UC⟩ := Kd.aZ Et.out fk G9 G_
   cases abv
   replace G9 := eq_true G9
   replace G_ := eq_true G_
   go_wp2_with (first | ((with_reducible refine gate_callee (f := 117) rfl ?_); refine dU (some 26) Tryz.func117 #[.int .i64 (rd l0 fk), .int .i64 (rd l1 fk)] ?_; (with_reducible refine (gS.calls (rd l0 fk) (rd l1 fk) t178 _ A8.out).mono ?_); rintro e w' ⟨rfl, ⟨nd, rfl⟩⟩; refine ⟨_, rfl, ?_⟩))
   go_roundg k1
   case measure => have := fu.out; omega
   case rel => exact ⟨(wrap64 (fk + 1)), eF, H', ⟨by have := fu.out; omega⟩, by repeat (first | exact av.refl _ | apply av.step)⟩
def iI.f (k : Nat) (an : List Int) (jg : List Int) : Option (Int) := (ff.f k an).bind fun t181 => ((ff.f k jg).bind fun t182 => (if (wrap64 (t181 - t182)) = 0 then ((cU.f k an).bind fun t183 => ((cU.f k jg).bind fun t186 => ((ck.f k t183 t186).bind fun t189 => (some t189)))) else (some (wrap64 (t181 - t182)))))
theorem iI.calls (k : Nat) (bF : Option Addr) (bl : Nat) (an : List Int) (nX : Option Addr) (nY : Nat) (jg : List Int) (r : Int) (w : World) (eB : Kd.C (Kd.int .i64) w bF an.length an) (eC : an.length ≤ bl) (wN : Kd.C (Kd.int .i64) w nX jg.length jg) (wO : jg.length ≤ nY) (h : iI.f k an jg = some r) :
 Calls Tryz.prog 98 #[.agg #[.slice bF an.length bl], .agg #[.slice nX jg.length nY]] w fun e w' => e = .returned (.int .i64 r) ∧ Below w.heap.size w w' := by
 have kJ := Tryz.underlying26
 have bV := aa.mk eB
 have cH := aa.mk eC
 clear eB eC
 have wP := aa.mk wN
 have wQ := aa.mk wO
 clear wN wO
 have HB := aa.mk (Below.refl w.heap.size w)
 have H := h
 clear h
 unfold iI.f at H
 obtain ⟨t181, A3, H⟩ := eA H
 obtain ⟨t182, A4, H⟩ := eA H
 by_cases c5 : (wrap64 (t181 - t182)) = 0
 rotate_left
 · rw [if_neg c5] at H
   have qJ : ((wrap64 (t181 - t182)) == 0) = false := beq_eq_false_iff_ne.mpr c5
   have Ow : ((wrap64 (t181 - t182)) != 0) = true := bne_iff_ne.mpr c5
   obtain rfl := Option.some.inj H
   go_enter Tryz.func98, Tryz.ntmps98
   try go_wp2_with (first | ((with_reducible refine gate_dst (N := 2) rfl ?_); refine iP 2 #[.slice bF an.length bl] 26 ?_; intro JA hg TJ hbox hb; have gH := aa.mk (hbox); have ag2 := ij hg HB; have ag3 := ij hg HB; replace HB := jL HB hb; clear hb hbox hg) | ((with_reducible refine gate_dst (N := 3) rfl ?_); refine iP 3 #[.slice nX jg.length nY] 26 ?_; intro JB hg UB hbox hb; have iT := aa.mk (hbox); have ag4 := kW hg (bC HB); have ag5 := kW hg (bC HB); replace HB := eM HB hb; have LV := mw hg gH; have LW := my hg gH; replace gH := cn gH hb; clear hb hbox hg))
   replace gH := aa.mk (bg gH.out)
   replace iT := aa.mk (bg iT.out)
   replace HB := aa.mk (bD HB.out)
   refine fy (n := 6) (S := fun w' => w'.cell? ⟨JA, 0, none⟩ = some (.slice bF an.length bl) ∧ w'.cell? ⟨JB, 0, none⟩ = some (.slice nX jg.length nY)) (ds := []) (B_ 0 6) (by kernel_rfl) rfl rfl ⟨(aH gH.out 0).trans rfl, (aH iT.out 0).trans rfl⟩ (fun hHeld => ?_)
   generalize UB.drew = TK at gH iT HB hHeld ⊢
   refine q6 (i := 0) (N := some 6) (v := ?_) (a' := ?_) (B_ 1 6) rfl rfl (by kernel_rfl) (fun _ _ _ h => h) (Or.inl ⟨by rfl, ?_⟩) hHeld ?_ ?_
   rotate_left
   · rintro w' ⟨s0, s1⟩
     go_simp
     with_reducible rfl
   rotate_left
   · simp only [Act.put, jK, jA, jB, b6, dw]
     rfl
   refine q6 (i := 2) (N := some 8) (v := ?_) (a' := ?_) (B_ 5 6) rfl rfl (by kernel_rfl) (fun _ _ _ h => h) (Or.inl ⟨by rfl, ?_⟩) hHeld ?_ ?_
   rotate_left
   · rintro w' ⟨s0, s1⟩
     go_simp
     with_reducible rfl
   rotate_left
   · simp only [Act.put, jK, jA, jB, b6, dw]
     rfl
   refine AO (i := 1) (N := some 7) (B_ 7 6) rfl rfl (by kernel_rfl) (by decide) (fun K hK => ?_)
   refine gu Tryz.func53 (by kernel_rfl) rfl #[.agg #[.slice bF an.length bl]] (by rfl) rfl rfl (by (try simp only [List.map_toArray, List.map_cons, List.map_nil]); first | done | rfl | (simp only [List.length_drop, List.length_take]; rfl)) ?_
   with_reducible refine (ff.calls k _ _ an t181 _ ?ah ?aj A3.out).mono ?_
   (case ah => exact iZ bV HB)
   (case aj => exact cH.out)
   rintro e DT ⟨rfl, hb⟩
   refine ⟨_, rfl, ?_⟩
   replace gH := cn gH hb
   replace iT := cn iT hb
   replace HB := eM HB hb
   (try clear hb)
   refine hK.out _ _ ⟨(aH gH.out 0).trans rfl, (aH iT.out 0).trans rfl⟩ (fun hHeld => ?_)
   clear hK K
   refine ep (a' := ?_) ?_ ?_
   rotate_left
   · show Act.put _ (some 7) _ = _
     simp only [Act.put, jK, jA, jB, b6, dw]
     rfl
   refine AO (i := 3) (N := some 9) (B_ 15 6) rfl rfl (by kernel_rfl) (by decide) (fun K hK => ?_)
   refine gu Tryz.func53 (by kernel_rfl) rfl #[.agg #[.slice nX jg.length nY]] (by rfl) rfl rfl (by (try simp only [List.map_toArray, List.map_cons, List.map_nil]); first | done | rfl | (simp only [List.length_drop, List.length_take]; rfl)) ?_
   with_reducible refine (ff.calls k _ _ jg t182 _ ?ah ?aj A4.out).mono ?_
   (case ah => exact iZ wP HB)
   (case aj => exact wQ.out)
   rintro e xV ⟨rfl, hb⟩
   refine ⟨_, rfl, ?_⟩
   replace gH := cn gH hb
   replace iT := cn iT hb
   replace HB := eM HB hb
   (try clear hb)
   refine hK.out _ _ ⟨(aH gH.out 0).trans rfl, (aH iT.out 0).trans rfl⟩ (fun hHeld => ?_)
   clear hK K
   refine ep (a' := ?_) ?_ ?_
   rotate_left
   · show Act.put _ (some 9) _ = _
     simp only [Act.put, jK, jA, jB, b6, dw]
     rfl
   refine yG (i := 4) (N := some 10) (v := ?_) (a' := ?_) (B_ 31 6) rfl rfl (by kernel_rfl) (fun _ _ _ h => h) (Or.inl ⟨by rfl, ?_⟩) ?_ ?_
   rotate_left
   · intro w'
     go_simp
     with_reducible rfl
   rotate_left
   · simp only [Act.put, jK, jA, jB, b6, dw]
     rfl
   refine yG (i := 5) (N := some 5) (v := ?_) (a' := ?_) (B_ 63 6) rfl rfl (by kernel_rfl) (fun _ _ _ h => h) (Or.inl ⟨by rfl, ?_⟩) ?_ ?_
   rotate_left
   · intro w'
     go_simp
     with_reducible rfl
   rotate_left
   · simp only [Act.put, jK, jA, jB, b6, dw]
     rfl
   refine ik (by kernel_rfl) ?_
   try go_wp2
   go_ret
   exact ⟨ig, bC HB⟩
 rw [if_pos c5] at H
 have qJ : ((wrap64 (t181 - t182)) == 0) = true := beq_iff_eq.mpr c5
 have Ow : ((wrap64 (t181 - t182)) != 0) = false := bne_eq_false_iff_eq.mpr c5
 clear c5
 obtain ⟨t183, A6, H⟩ := eA H
 obtain ⟨t186, A7, H⟩ := eA H
 obtain ⟨t189, A8, H⟩ := eA H
 obtain rfl := Option.some.inj H
 go_enter Tryz.func98, Tryz.ntmps98
 try go_wp2_with (first | ((with_reducible refine gate_dst (N := 2) rfl ?_); refine iP 2 #[.slice bF an.length bl] 26 ?_; intro JA hg w9 hbox hb; have gH := aa.mk (hbox); have ag2 := ij hg HB; have ag3 := ij hg HB; replace HB := jL HB hb; clear hb hbox hg) | ((with_reducible refine gate_dst (N := 3) rfl ?_); refine iP 3 #[.slice nX jg.length nY] 26 ?_; intro JB hg Ju hbox hb; have iT := aa.mk (hbox); have ag4 := kW hg (bC HB); have ag5 := kW hg (bC HB); replace HB := eM HB hb; have LV := mw hg gH; have LW := my hg gH; replace gH := cn gH hb; clear hb hbox hg))
 replace gH := aa.mk (bg gH.out)
 replace iT := aa.mk (bg iT.out)
 replace HB := aa.mk (bD HB.out)
 refine fy (n := 6) (S := fun w' => w'.cell? ⟨JA, 0, none⟩ = some (.slice bF an.length bl) ∧ w'.cell? ⟨JB, 0, none⟩ = some (.slice nX jg.length nY)) (ds := []) (B_ 0 6) (by kernel_rfl) rfl rfl ⟨(aH gH.out 0).trans rfl, (aH iT.out 0).trans rfl⟩ (fun hHeld => ?_)
 generalize Ju.drew = Bn at gH iT HB hHeld ⊢
 refine q6 (i := 0) (N := some 6) (v := ?_) (a' := ?_) (B_ 1 6) rfl rfl (by kernel_rfl) (fun _ _ _ h => h) (Or.inl ⟨by rfl, ?_⟩) hHeld ?_ ?_
 rotate_left
 · rintro w' ⟨s0, s1⟩
   go_simp
   with_reducible rfl
 rotate_left
 · simp only [Act.put, jK, jA, jB, b6, dw]
   rfl
 refine q6 (i := 2) (N := some 8) (v := ?_) (a' := ?_) (B_ 5 6) rfl rfl (by kernel_rfl) (fun _ _ _ h => h) (Or.inl ⟨by rfl, ?_⟩) hHeld ?_ ?_
 rotate_left
 · rintro w' ⟨s0, s1⟩
   go_simp
   with_reducible rfl
 rotate_left
 · simp only [Act.put, jK, jA, jB, b6, dw]
   rfl
 refine AO (i := 1) (N := some 7) (B_ 7 6) rfl rfl (by kernel_rfl) (by decide) (fun K hK => ?_)
 refine gu Tryz.func53 (by kernel_rfl) rfl #[.agg #[.slice bF an.length bl]] (by rfl) rfl rfl (by (try simp only [List.map_toArray, List.map_cons, List.map_nil]); first | done | rfl | (simp only [List.length_drop, List.length_take]; rfl)) ?_
 with_reducible refine (ff.calls k _ _ an t181 _ ?ah ?aj A3.out).mono ?_
 (case ah => exact iZ bV HB)
 (case aj => exact cH.out)
 rintro e w12 ⟨rfl, hb⟩
 refine ⟨_, rfl, ?_⟩
 replace gH := cn gH hb
 replace iT := cn iT hb
 replace HB := eM HB hb
 (try clear hb)
 refine hK.out _ _ ⟨(aH gH.out 0).trans rfl, (aH iT.out 0).trans rfl⟩ (fun hHeld => ?_)
 clear hK K
 refine ep (a' := ?_) ?_ ?_
 rotate_left
 · show Act.put _ (some 7) _ = _
   simp only [Act.put, jK, jA, jB, b6, dw]
   rfl
 refine AO (i := 3) (N := some 9) (B_ 15 6) rfl rfl (by kernel_rfl) (by decide) (fun K hK => ?_)
 refine gu Tryz.func53 (by kernel_rfl) rfl #[.agg #[.slice nX jg.length nY]] (by rfl) rfl rfl (by (try simp only [List.map_toArray, List.map_cons, List.map_nil]); first | done | rfl | (simp only [List.length_drop, List.length_take]; rfl)) ?_
 with_reducible refine (ff.calls k _ _ jg t182 _ ?ah ?aj A4.out).mono ?_
 (case ah => exact iZ wP HB)
 (case aj => exact wQ.out)
 rintro e Eb ⟨rfl, hb⟩
 refine ⟨_, rfl, ?_⟩
 replace gH := cn gH hb
 replace iT := cn iT hb
 replace HB := eM HB hb
 (try clear hb)
 refine hK.out _ _ ⟨(aH gH.out 0).trans rfl, (aH iT.out 0).trans rfl⟩ (fun hHeld => ?_)
 clear hK K
 refine ep (a' := ?_) ?_ ?_
 rotate_left
 · show Act.put _ (some 9) _ = _
   simp only [Act.put, jK, jA, jB, b6, dw]
   rfl
 refine yG (i := 4) (N := some 10) (v := ?_) (a' := ?_) (B_ 31 6) rfl rfl (by kernel_rfl) (fun _ _ _ h => h) (Or.inl ⟨by rfl, ?_⟩) ?_ ?_
 rotate_left
 · intro w'
   go_simp
   with_reducible rfl
 rotate_left
 · simp only [Act.put, jK, jA, jB, b6, dw]
   rfl
 refine yG (i := 5) (N := some 5) (v := ?_) (a' := ?_) (B_ 63 6) rfl rfl (by kernel_rfl) (fun _ _ _ h => h) (Or.inl ⟨by rfl, ?_⟩) ?_ ?_
 rotate_left
 · intro w'
   go_simp
   with_reducible rfl
 rotate_left
 · simp only [Act.put, jK, jA, jB, b6, dw]
   rfl
 refine ik (by kernel_rfl) ?_
 try go_wp2
 replace gH := aa.mk (bg gH.out)
 replace iT := aa.mk (bg iT.out)
 replace HB := aa.mk (bD HB.out)
 refine fy (n := 6) (S := fun w' => w'.cell? ⟨JA, 0, none⟩ = some (.slice bF an.length bl) ∧ w'.cell? ⟨JB, 0, none⟩ = some (.slice nX jg.length nY)) (ds := []) (B_ 0 6) (by kernel_rfl) rfl rfl ⟨(aH gH.out 0).trans rfl, (aH iT.out 0).trans rfl⟩ (fun hHeld => ?_)
 generalize Eb.drew = TI at gH iT HB hHeld ⊢
 refine q6 (i := 0) (N := some 14) (v := ?_) (a' := ?_) (B_ 1 6) rfl rfl (by kernel_rfl) (fun _ _ _ h => h) (Or.inl ⟨by rfl, ?_⟩) hHeld ?_ ?_
 rotate_left
 · rintro w' ⟨s0, s1⟩
   go_simp
   with_reducible rfl
 rotate_left
 · simp only [Act.put, jK, jA, jB, b6, dw]
   rfl
 refine q6 (i := 2) (N := some 16) (v := ?_) (a' := ?_) (B_ 5 6) rfl rfl (by kernel_rfl) (fun _ _ _ h => h) (Or.inl ⟨by rfl, ?_⟩) hHeld ?_ ?_
 rotate_left
 · rintro w' ⟨s0, s1⟩
   go_simp
   with_reducible rfl
 rotate_left
 · simp only [Act.put, jK, jA, jB, b6, dw]
   rfl
 refine AO (i := 1) (N := some 15) (B_ 7 6) rfl rfl (by kernel_rfl) (by decide) (fun K hK => ?_)
 refine gu Tryz.func36 (by kernel_rfl) rfl #[.agg #[.slice bF an.length bl]] (by rfl) rfl rfl (by (try simp only [List.map_toArray, List.map_cons, List.map_nil]); first | done | rfl | (simp only [List.length_drop, List.length_take]; rfl)) ?_
 with_reducible refine (cU.calls k _ _ an t183 _ ?ah ?aj A6.out).mono ?_
 (case ah => exact iZ bV HB)
 (case aj => exact cH.out)
 rintro e LS ⟨azz, rfl, b0, hb⟩
 refine ⟨_, rfl, ?_⟩
 have Bu := aa.mk (Kd.aW b0 (ag (bC HB)))
 replace gH := cn gH hb
 replace iT := cn iT hb
 replace HB := eM HB hb
 (try clear hb)
 (try clear b0)
 refine hK.out _ _ ⟨(aH gH.out 0).trans rfl, (aH iT.out 0).trans rfl⟩ (fun hHeld => ?_)
 clear hK K
 refine ep (a' := ?_) ?_ ?_
 rotate_left
 · show Act.put _ (some 15) _ = _
   simp only [Act.put, jK, jA, jB, b6, dw]
   rfl
 refine AO (i := 3) (N := some 17) (B_ 15 6) rfl rfl (by kernel_rfl) (by decide) (fun K hK => ?_)
 refine gu Tryz.func36 (by kernel_rfl) rfl #[.agg #[.slice nX jg.length nY]] (by rfl) rfl rfl (by (try simp only [List.map_toArray, List.map_cons, List.map_nil]); first | done | rfl | (simp only [List.length_drop, List.length_take]; rfl)) ?_
 with_reducible refine (cU.calls k _ _ jg t186 _ ?ah ?aj A7.out).mono ?_
 (case ah => exact iZ wP HB)
 (case aj => exact wQ.out)
 rintro e LX ⟨azA, rfl, b0, hb⟩
 refine ⟨_, rfl, ?_⟩
 have Ox := aa.mk (Kd.aW (Kd.eV b0 (Kd.gy (b9 Bu.out))) (ag (bC HB)))
 replace Bu := aa.mk (Kd.dZ (b9 Bu.out) (Kd.cV b0) hb)
 replace gH := cn gH hb
 replace iT := cn iT hb
 replace HB := eM HB hb
 (try clear hb)
 (try clear b0)
 obtain ⟨ap8, ap9, ag6⟩ := Kd.aN Bu.out
 (first | subst ag6 | (injection ag6 with ox tM oy; have tN := ox.symm; have tO := oy.symm; clear ox tM oy; subst tN; subst tO))
 obtain ⟨nn, mQ, ze⟩ := Kd.aN Ox.out
 (first | subst ze | (injection ze with ox tM oy; have tN := ox.symm; have tO := oy.symm; clear ox tM oy; subst tN; subst tO))
 refine hK.out _ _ ⟨(aH gH.out 0).trans rfl, (aH iT.out 0).trans rfl⟩ (fun hHeld => ?_)
 clear hK K
 refine ep (a' := ?_) ?_ ?_
 rotate_left
 · show Act.put _ (some 17) _ = _
   simp only [Act.put, jK, jA, jB, b6, dw]
   rfl
 refine AO (i := 4) (N := some 18) (B_ 31 6) rfl rfl (by kernel_rfl) (by decide) (fun K hK => ?_)
 refine gu Tryz.func99 (by kernel_rfl) rfl #[.slice ap8 t183.length ap9, .slice nn t186.length mQ] (by rfl) rfl rfl (by (try simp only [List.map_toArray, List.map_cons, List.map_nil]); first | done | rfl | (simp only [List.length_drop, List.length_take]; rfl)) ?_
 with_reducible refine (ck.calls k _ _ t183 _ _ t186 t189 _ ?ah ?aj ?fB ?hD A8.out).mono ?_
 (case ah => exact kx ((Kd.ao Bu.out).2.2))
 (case aj => exact (Kd.ao Bu.out).2.1)
 (case fB => exact kx ((Kd.ao Ox.out).2.2))
 (case hD => exact (Kd.ao Ox.out).2.1)
 rintro e w' ⟨rfl, ⟨nd, rfl⟩⟩
 refine ⟨_, rfl, ?_⟩
 refine hK.out _ _ ⟨(aH gH.out 0).trans rfl, (aH iT.out 0).trans rfl⟩ (fun hHeld => ?_)
 clear hK K
 refine ep (a' := ?_) ?_ ?_
 rotate_left
 · show Act.put _ (some 18) _ = _
   simp only [Act.put, jK, jA, jB, b6, dw]
   rfl
 refine yG (i := 5) (N := some 4) (v := ?_) (a' := ?_) (B_ 63 6) rfl rfl (by kernel_rfl) (fun _ _ _ h => h) (Or.inl ⟨by rfl, ?_⟩) ?_ ?_
 rotate_left
 · intro w'
   go_simp
   with_reducible rfl
 rotate_left
 · simp only [Act.put, jK, jA, jB, b6, dw]
   rfl
 refine ik (by kernel_rfl) ?_
 try go_wp2
 go_ret
 exact ⟨ig, bC HB⟩
def oz.f (l0 : List Int) : Option (Bool) := some (decide ((l0.length : Int) > 1048576))
theorem oz.calls (A0 : Option Addr) (c0 : Nat) (l0 : List Int) (r : Bool) (w : World) (fH : Kd.C (Kd.int .u8) w A0 l0.length l0) (gL : l0.length ≤ c0) (h : oz.f l0 = some r) :
 Calls Tryz.prog 5 #[.slice A0 l0.length c0] w fun e w' => e = .returned (.bool r) ∧ av w w' := by
 have eZ := aa.mk fH
 have jN := aa.mk gL
 clear fH gL
 have H := h
 clear h
 unfold oz.f at H
 obtain rfl := Option.some.inj H
 go_enter Tryz.func5, Tryz.ntmps5
 go_wp2
 go_ret
 exact ⟨by first | rfl | (simp; done) | (simp [*]; done), by repeat (first | exact av.refl _ | apply av.step)⟩
def ae (w0 W : World) (g : Nat) (f0 : List Int) (f1 : Int) (f2 : Int) : Prop := ∃ A0 c0, W.heap[g]? = some (.cells #[.slice A0 f0.length c0, .int .i64 f1, .int .i64 f2] 65 (0, 0)) ∧ w0.heap.size ≤ g ∧ Kd.C (Kd.int .u8) w0 A0 f0.length f0
theorem ae.grown {w0 W : World} {g : Nat} {f0 : List Int} {f1 : Int} {f2 : Int} {W1 : World} {row : Option Nat} (h : ae w0 W g f0 f1 f2) (hw : W.grownBy W1 row) (hne : some g ≠ row) : ae w0 W1 g f0 f1 f2 := by
 obtain ⟨A0, c0, hb, hg, fH⟩ := h
 exact ⟨A0, c0, cS hb hw hne, hg, fH⟩
theorem ae.fresh {w0 W : World} {g : Nat} {f0 : List Int} {f1 : Int} {f2 : Int} (h : ae w0 W g f0 f1 f2) : ∀ k, W.heap.size ≤ k → k ≠ g := by
 obtain ⟨A0, c0, hb, hg, fH⟩ := h
 exact Kd.dX hb
theorem ae.kept {w0 W : World} {g : Nat} {f0 : List Int} {f1 : Int} {f2 : Int} {W1 : World} {S : Nat → Prop} (h : ae w0 W g f0 f1 f2) (hk : Kept W W1 S) (hne : ¬ S g) : ae w0 W1 g f0 f1 f2 := by
 obtain ⟨A0, c0, hb, hg, fH⟩ := h
 exact ⟨A0, c0, NB hb hk hne, hg, fH⟩
theorem ae.below {w0 W : World} {g : Nat} {f0 : List Int} {f1 : Int} {f2 : Int} {W1 : World} (h : ae w0 W g f0 f1 f2) (hw : Below W.heap.size W W1) : ae w0 W1 g f0 f1 f2 := h.grown (ru hw none) (by simp)
theorem ae.alloc {w0 W : World} {g : Nat} {f0 : List Int} {f1 : Int} {f2 : Int} (h : ae w0 W g f0 f1 f2) (o : Obj) : ae w0 (W.alloc o) g f0 f1 f2 := h.below (fJ (Below.refl _ _) o)
theorem ae.drewN {w0 W : World} {g : Nat} {f0 : List Int} {f1 : Int} {f2 : Int} (h : ae w0 W g f0 f1 f2) (m : Nat) : ae w0 (W.drewN m) g f0 f1 f2 := h
theorem ae.drew {w0 W : World} {g : Nat} {f0 : List Int} {f1 : Int} {f2 : Int} (h : ae w0 W g f0 f1 f2) : ae w0 W.drew g f0 f1 f2 := h
theorem ae.at_ {w0 W : World} {g : Nat} {f0 : List Int} {f1 : Int} {f2 : Int} {w' : World} {m : Nat} (hq : W.drewN m = w') (h : ae w0 W g f0 f1 f2) : ae w0 w' g f0 f1 f2 := by subst hq; exact ae.drewN h m
theorem ae.apart {w0 W : World} {g : Nat} {f0 : List Int} {f1 : Int} {f2 : Int} {α : Type} {d : Kd α} {e : Nat} {base : Nat} {ok : Nat → Prop} {v : Value} {xs : List α} (h : ae w0 W g f0 f1 f2) (ho : d.R e W base ok v xs) (ht : ∀ q, q ∈ e :: d.E → q ≠ 65) : d.R e W base (fun k => ok k ∧ k ≠ g) v xs := by
 obtain ⟨A0, c0, hb, hg, fH⟩ := h
 exact Kd.cI ho hb ht
theorem ae.mK {w0 W : World} {g : Nat} {f0 : List Int} {f1 : Int} {f2 : Int} {α : Type} {d : Kd α} {e : Nat} {base : Nat} {ok : Nat → Prop} {v : Value} {xs : List α} (h : ae w0 W g f0 f1 f2) (ho : d.R e W base ok v xs) (ht : e ≠ 65) : some g ≠ v.ownBlock := by
 obtain ⟨A0, c0, hb, hg, fH⟩ := h
 exact Kd.nR ho hb ht
theorem ae.CE {w0 W : World} {g : Nat} {f0 : List Int} {f1 : Int} {f2 : Int} {α : Type} {d : Kd α} {e : Nat} {base : Nat} {ok : Nat → Prop} {v : Value} {xs : List α} (h : ae w0 W g f0 f1 f2) (ho : d.Q e W base ok v xs) (ht : ∀ q, q ∈ e :: d.E → q ≠ 65) : d.Q e W base (fun k => ok k ∧ k ≠ g) v xs := by
 obtain ⟨A0, c0, hb, hg, fH⟩ := h
 exact Kd.bz ho hb ht
theorem ae.lt {w0 W : World} {g : Nat} {f0 : List Int} {f1 : Int} {f2 : Int} (h : ae w0 W g f0 f1 f2) : g < W.heap.size := by
 obtain ⟨A0, c0, hb, hg, fH⟩ := h
 exact mL hb
theorem ae.ge {w0 W : World} {g : Nat} {f0 : List Int} {f1 : Int} {f2 : Int} (h : ae w0 W g f0 f1 f2) : w0.heap.size ≤ g := by
 obtain ⟨A0, c0, hb, hg, fH⟩ := h
 exact hg
theorem ae.rK {w0 W : World} {g : Nat} {f0 : List Int} {f1 : Int} {f2 : Int} {a : Nat} {cs : Array Value} {t : TypeId} {fr : Nat × Nat} (h : ae w0 W g f0 f1 f2) (vA : W.heap[a]? = some (.cells cs t fr)) (ht : t ≠ 65) : g ≠ a := by
 obtain ⟨A0, c0, hb, hg, fH⟩ := h
 rintro rfl
 rw [hb] at vA
 injection vA with vA
 injection vA with _ ht2
 exact ht ht2.symm
theorem ae.far {w0 W : World} {g : Nat} {f0 : List Int} {f1 : Int} {f2 : Int} {p : Addr} (h : ae w0 W g f0 f1 f2) (hne : g ≠ p.block) (u : Value) : ae w0 (W.setCell p u) g f0 f1 f2 := by
 obtain ⟨A0, c0, hb, hg, fH⟩ := h
 exact ⟨A0, c0, sF hb hne u, hg, fH⟩
theorem Bv {W : World} {g : Nat} {A0 : Option Addr} {c0 : Nat} {f0 : List Int} {f1 : Int} {f2 : Int} (h : W.heap[g]? = some (.cells #[.slice A0 f0.length c0, .int .i64 f1, .int .i64 f2] 65 (0, 0))) : W.cell? ⟨g, 0, none⟩ = some (.slice A0 f0.length c0) := (aH h 0).trans rfl
theorem Bw {W : World} {g : Nat} {A0 : Option Addr} {c0 : Nat} {f0 : List Int} {f1 : Int} {f2 : Int} (h : W.heap[g]? = some (.cells #[.slice A0 f0.length c0, .int .i64 f1, .int .i64 f2] 65 (0, 0))) : W.cell? ⟨g, 1, none⟩ = some (.int .i64 f1) := (aH h 1).trans rfl
theorem ae.ag7 {w0 W : World} {g : Nat} {f0 : List Int} {f1 : Int} {f2 : Int} (h : ae w0 W g f0 f1 f2) (x : Int) : ae w0 (W.setCell ⟨g, 1, none⟩ (.int .i64 x)) g f0 x f2 := by
 obtain ⟨A0, c0, hb, hg, fH⟩ := h
 exact ⟨A0, c0, by simpa using Cd hb 1 (.int .i64 x), hg, fH⟩
theorem Bx {W : World} {g : Nat} {A0 : Option Addr} {c0 : Nat} {f0 : List Int} {f1 : Int} {f2 : Int} (h : W.heap[g]? = some (.cells #[.slice A0 f0.length c0, .int .i64 f1, .int .i64 f2] 65 (0, 0))) : W.cell? ⟨g, 2, none⟩ = some (.int .i64 f2) := (aH h 2).trans rfl
theorem ae.ag8 {w0 W : World} {g : Nat} {f0 : List Int} {f1 : Int} {f2 : Int} (h : ae w0 W g f0 f1 f2) (x : Int) : ae w0 (W.setCell ⟨g, 2, none⟩ (.int .i64 x)) g f0 f1 x := by
 obtain ⟨A0, c0, hb, hg, fH⟩ := h
 exact ⟨A0, c0, by simpa using Cd hb 2 (.int .i64 x), hg, fH⟩
theorem ae.new (w0 W : World) (A0 : Option Addr) (c0 : Nat) (f0 : List Int) (f1 : Int) (f2 : Int) (hB : Below w0.heap.size w0 W) (fH : Kd.C (Kd.int .u8) w0 A0 f0.length f0) : ae w0 (W.alloc (.cells #[.slice A0 f0.length c0, .int .i64 f1, .int .i64 f2] 65)) W.heap.size f0 f1 f2 := ⟨A0, c0, by simpa using heap_alloc_new W _, hB.size, fH⟩
theorem ae.q_ {w0 W W' : World} {g : Nat} {f0 : List Int} {f1 : Int} {f2 : Int} {f0' : List Int} {f1' : Int} {f2' : Int} (h : aa (ae w0 W g f0 f1 f2)) (k : ae w0 W g f0 f1 f2 → ae w0 W' g f0' f1' f2' := by intro h_; repeat (first | (with_reducible first | exact h_ | apply ae.alloc | apply ae.drew | apply ae.drewN | apply ae.ag7 | apply ae.ag8 | refine ae.far ?_ (aa.out (by assumption)) _) | exact h_)) : ae w0 W' g f0' f1' f2' := k h.out
def fM.f (cd : List Int) (eD : Int) (eJ : Int) : Option (Int × Int × Int) := if eD < (cd.length : Int) then (if 0 ≤ eD then (some (Go.bits .and .i64 (wrap64 ((Go.bits .and .i64 (Go.bits .xor .i64 ((wrap64 ((wrap64 (eJ * 6364136223846793005)) + 1442695040888963407)) / 8589934592) ((wrap64 ((wrap64 (eJ * 6364136223846793005)) + 1442695040888963407)) / 35184372088832)) 255) + (wrap64 (rd cd eD)))) 255, wrap64 (eD + 1), wrap64 ((wrap64 (eJ * 6364136223846793005)) + 1442695040888963407))) else (none)) else (some (Go.bits .and .i64 (Go.bits .xor .i64 ((wrap64 ((wrap64 (eJ * 6364136223846793005)) + 1442695040888963407)) / 8589934592) ((wrap64 ((wrap64 (eJ * 6364136223846793005)) + 1442695040888963407)) / 35184372088832)) 255, eD, wrap64 ((wrap64 (eJ * 6364136223846793005)) + 1442695040888963407)))
theorem fM.calls (g : Nat) (cd : List Int) (eD : Int) (eJ : Int) (r1 : Int) (r2 : Int) (r3 : Int) (w0 w : World) (hI : ae w0 w g cd eD eJ) (hB : Below w0.heap.size w0 w) (h : fM.f cd eD eJ = some (r1, r2, r3)) :
 Calls Tryz.prog 106 #[.pointer (some ⟨g, 0, none⟩)] w fun e w' => e = .returned (.int .i64 r1) ∧ ae w0 w' g cd r2 r3 ∧ Below w0.heap.size w0 w' ∧ aq w w' g none := by
 have bX := aa.mk hI
 have HK := aa.mk (aq.refl w g none)
 have HL := aa.mk hB.size
 clear hI
 have wR := aa.mk hB.size
 have HB := aa.mk hB
 clear hB
 have H := h
 clear h
 unfold fM.f at H
 by_cases c2 : eD < (cd.length : Int)
 rotate_left
 · rw [if_neg c2] at H
   have tL : decide (eD < (cd.length : Int)) = false := decide_eq_false c2
   clear c2
   simp only [Option.some.injEq, Prod.mk.injEq] at H
   obtain ⟨rfl, rfl, rfl⟩ := H
   obtain ⟨ap_, aqa, LY, aqb, aqc⟩ := bX.out
   have CG := Bv LY
   have aqd := Bw LY
   have aqe := Bx LY
   have aqf := af LY 1
   have aqg := af LY 2
   clear LY aqb
   go_enter Tryz.func106, Tryz.ntmps106
   go_wp2
   repeat (go_quiet (fail); try go_wp2)
   go_ret
   exact ⟨ig, ae.q_ bX, gF HB (ae.ge bX.out), e9 HK⟩
 rw [if_pos c2] at H
 have tL : decide (eD < (cd.length : Int)) = true := decide_eq_true c2
 clear c2
 obtain ⟨jD, H⟩ := dB H
 simp only [Option.some.injEq, Prod.mk.injEq] at H
 obtain ⟨rfl, rfl, rfl⟩ := H
 obtain ⟨aqh, aqi, LZ, aqj, abw⟩ := bX.out
 have Oa := Bv LZ
 have aqk := Bw LZ
 have aql := Bx LZ
 have aqm := af LZ 1
 have aqn := af LZ 2
 clear LZ aqj
 have abx : 0 ≤ (eD : Int) := bO
 have aby : eD < (cd.length : Int) := bO
 obtain ⟨ag9, aqo, sU⟩ := Kd.aZ abw eD abx aby
 cases aqo
 have xW : ag9.block ≠ g := Nat.ne_of_lt (Nat.lt_of_lt_of_le (by have := World.block_lt_of_cell? _ _ sU; first | rwa [eW] at this | exact this) (ae.ge bX.out))
 replace sU := kX HB.out sU
 replace sU := (cell_far (p := ⟨g, 2, none⟩) (by first | (rw [eW]; exact xW) | (show (Addr.add _ _).block ≠ _; rw [eW]; exact xW) | exact xW) (.int .i64 (wrap64 ((wrap64 (eJ * 6364136223846793005)) + 1442695040888963407)))).trans sU
 (try have an2 := fun (n_ : Nat) => (show (((w.drewN n_).setCell ⟨g, 2, none⟩ (.int .i64 (wrap64 ((wrap64 (eJ * 6364136223846793005)) + 1442695040888963407))))).cell? _ = some _ from sU))
 clear xW
 replace abx := eq_true abx
 replace aby := eq_true aby
 go_enter Tryz.func106, Tryz.ntmps106
 go_wp2
 repeat (go_quiet (fail); try go_wp2)
 go_ret
 exact ⟨ig, ae.q_ bX, gF HB (ae.ge bX.out), e9 HK⟩
def bS.f (cd : List Int) (eD : Int) (eJ : Int) (a1 : Int) : Option (Int × Int × Int) := if a1 ≤ 0 then (some (0, eD, eJ)) else (if a1 ≤ 256 then ((fM.f cd eD eJ).bind fun Oy => (if a1 = 0 then (none) else (some (Int.tmod Oy.1 a1, Oy.2.1, Oy.2.2)))) else ((fM.f cd eD eJ).bind fun Oz => ((fM.f cd Oz.2.1 Oz.2.2).bind fun OA => ((fM.f cd OA.2.1 OA.2.2).bind fun OB => ((fM.f cd OB.2.1 OB.2.2).bind fun OC => (if a1 = 0 then (none) else (some (Int.tmod (wrap64 ((wrap64 ((wrap64 ((wrap64 (Oz.1 * 16777216)) + (wrap64 (OA.1 * 65536)))) + (wrap64 (OB.1 * 256)))) + OC.1)) a1, OC.2.1, OC.2.2))))))))
theorem bS.calls (g : Nat) (cd : List Int) (eD : Int) (eJ : Int) (a1 : Int) (r1 : Int) (r2 : Int) (r3 : Int) (w0 w : World) (hI : ae w0 w g cd eD eJ) (hB : Below w0.heap.size w0 w) (h : bS.f cd eD eJ a1 = some (r1, r2, r3)) :
 Calls Tryz.prog 69 #[.pointer (some ⟨g, 0, none⟩), .int .i64 a1] w fun e w' => e = .returned (.int .i64 r1) ∧ ae w0 w' g cd r2 r3 ∧ Below w0.heap.size w0 w' ∧ aq w w' g none := by
 have bX := aa.mk hI
 have HK := aa.mk (aq.refl w g none)
 have HL := aa.mk hB.size
 clear hI
 have wR := aa.mk hB.size
 have HB := aa.mk hB
 clear hB
 have H := h
 clear h
 unfold bS.f at H
 by_cases c3 : a1 ≤ 0
 · rw [if_pos c3] at H
   have jD : decide (a1 ≤ 0) = true := decide_eq_true c3
   clear c3
   simp only [Option.some.injEq, Prod.mk.injEq] at H
   obtain ⟨rfl, rfl, rfl⟩ := H
   go_enter Tryz.func69, Tryz.ntmps69
   go_wp2
   go_ret
   exact ⟨ig, ae.q_ bX, gF HB (ae.ge bX.out), e9 HK⟩
 rw [if_neg c3] at H
 have jD : decide (a1 ≤ 0) = false := decide_eq_false c3
 clear c3
 by_cases c4 : a1 ≤ 256
 · rw [if_pos c4] at H
   have kI : decide (a1 ≤ 256) = true := decide_eq_true c4
   clear c4
   obtain ⟨⟨t191, t192, t193⟩, A5, H⟩ := eA H
   (try dsimp only at H)
   obtain ⟨c6, H⟩ := in_ H
   have pH : (a1 == 0) = false := beq_eq_false_iff_ne.mpr c6
   have LU : (a1 != 0) = true := bne_iff_ne.mpr c6
   simp only [Option.some.injEq, Prod.mk.injEq] at H
   obtain ⟨rfl, rfl, rfl⟩ := H
   go_enter Tryz.func69, Tryz.ntmps69
   go_wp2_with (first | ((with_reducible refine gate_callee (f := 106) rfl ?_); refine dU (some 14) Tryz.func106 #[.pointer (some ⟨g, 0, none⟩)] ?_; (with_reducible refine (fM.calls g cd eD eJ t191 t192 t193 w0 _ ?ah ?aj A5.out).mono ?_); (case ah => exact ae.q_ bX); (case aj => exact gF HB (ae.ge bX.out)); rintro e w7 ⟨rfl, hi, hb, hk⟩; refine ⟨_, rfl, ?_⟩; replace HK := aa.mk (aq.trans (e9 HK) hk (.inl rfl)); replace HB := aa.mk (hb); replace bX := aa.mk (hi); (try clear hb); (try clear hk); (try clear hi)))
   go_ret
   exact ⟨ig, ae.q_ bX, gF HB (ae.ge bX.out), e9 HK⟩
 rw [if_neg c4] at H
 have kI : decide (a1 ≤ 256) = false := decide_eq_false c4
 clear c4
 obtain ⟨⟨t194, t195, t196⟩, A8, H⟩ := eA H
 (try dsimp only at H)
 obtain ⟨⟨t197, t198, t199⟩, A9, H⟩ := eA H
 (try dsimp only at H)
 obtain ⟨⟨t200, t201, t202⟩, Nc, H⟩ := eA H
 (try dsimp only at H)
 obtain ⟨⟨t203, t204, t205⟩, A11, H⟩ := eA H
 (try dsimp only at H)
 obtain ⟨pK, H⟩ := in_ H
 have o6 : (a1 == 0) = false := beq_eq_false_iff_ne.mpr pK
 have OD : (a1 != 0) = true := bne_iff_ne.mpr pK
 simp only [Option.some.injEq, Prod.mk.injEq] at H
 obtain ⟨rfl, rfl, rfl⟩ := H
 go_enter Tryz.func69, Tryz.ntmps69
 go_wp2_with (first | ((with_reducible refine gate_callee (f := 106) rfl ?_); refine dU (some 18) Tryz.func106 #[.pointer (some ⟨g, 0, none⟩)] ?_; (with_reducible refine (fM.calls g cd eD eJ t194 t195 t196 w0 _ ?ah ?aj A8.out).mono ?_); (case ah => exact ae.q_ bX); (case aj => exact gF HB (ae.ge bX.out)); rintro e Eb ⟨rfl, hi, hb, hk⟩; refine ⟨_, rfl, ?_⟩; replace HK := aa.mk (aq.trans (e9 HK) hk (.inl rfl)); replace HB := aa.mk (hb); replace bX := aa.mk (hi); (try clear hb); (try clear hk); (try clear hi)) | ((with_reducible refine gate_callee (f := 106) rfl ?_); refine dU (some 20) Tryz.func106 #[.pointer (some ⟨g, 0, none⟩)] ?_; (with_reducible refine (fM.calls g cd t195 t196 t197 t198 t199 w0 _ ?ah ?aj A9.out).mono ?_); (case ah => exact ae.q_ bX); (case aj => exact gF HB (ae.ge bX.out)); rintro e TI ⟨rfl, hi, hb, hk⟩; refine ⟨_, rfl, ?_⟩; replace HK := aa.mk (aq.trans (e9 HK) hk (.inl rfl)); replace HB := aa.mk (hb); replace bX := aa.mk (hi); (try clear hb); (try clear hk); (try clear hi)) | ((with_reducible refine gate_callee (f := 106) rfl ?_); refine dU (some 22) Tryz.func106 #[.pointer (some ⟨g, 0, none⟩)] ?_; (with_reducible refine (fM.calls g cd t198 t199 t200 t201 t202 w0 _ ?ah ?aj Nc.out).mono ?_); (case ah => exact ae.q_ bX); (case aj => exact gF HB (ae.ge bX.out)); rintro e LS ⟨rfl, hi, hb, hk⟩; refine ⟨_, rfl, ?_⟩; replace HK := aa.mk (aq.trans (e9 HK) hk (.inl rfl)); replace HB := aa.mk (hb); replace bX := aa.mk (hi); (try clear hb); (try clear hk); (try clear hi)) | ((with_reducible refine gate_callee (f := 106) rfl ?_); refine dU (some 24) Tryz.func106 #[.pointer (some ⟨g, 0, none⟩)] ?_; (with_reducible refine (fM.calls g cd t201 t202 t203 t204 t205 w0 _ ?ah ?aj A11.out).mono ?_); (case ah => exact ae.q_ bX); (case aj => exact gF HB (ae.ge bX.out)); rintro e LX ⟨rfl, hi, hb, hk⟩; refine ⟨_, rfl, ?_⟩; replace HK := aa.mk (aq.trans (e9 HK) hk (.inl rfl)); replace HB := aa.mk (hb); replace bX := aa.mk (hi); (try clear hb); (try clear hk); (try clear hi)))
 go_ret
 exact ⟨ig, ae.q_ bX, gF HB (ae.ge bX.out), e9 HK⟩
def dQ.f (cd : List Int) (eD : Int) (eJ : Int) (l1 : List Int) : Option (Int × Int × Int) := (bS.f cd eD eJ (l1.length : Int)).bind fun Eu => (if 0 ≤ Eu.1 then (if Eu.1 < (l1.length : Int) then (some (rd l1 Eu.1, Eu.2.1, Eu.2.2)) else (none)) else (none))
theorem dQ.calls (g : Nat) (cd : List Int) (eD : Int) (eJ : Int) (A1 : Option Addr) (c1 : Nat) (l1 : List Int) (r1 : Int) (r2 : Int) (r3 : Int) (w0 w : World) (hI : ae w0 w g cd eD eJ) (hB : Below w0.heap.size w0 w) (uh : Kd.C (Kd.int .i64) w A1 l1.length l1) (Es : l1.length ≤ c1) (hf1 : ∀ ad, A1 = some ad → 0 < l1.length → ad.block ≠ g) (h : dQ.f cd eD eJ l1 = some (r1, r2, r3)) :
 Calls Tryz.prog 47 #[.pointer (some ⟨g, 0, none⟩), .slice A1 l1.length c1] w fun e w' => e = .returned (.int .i64 r1) ∧ ae w0 w' g cd r2 r3 ∧ Below w0.heap.size w0 w' ∧ aq w w' g none := by
 have Et := aa.mk uh
 have HC1 := aa.mk Es
 clear uh Es
 have bX := aa.mk hI
 have HK := aa.mk (aq.refl w g none)
 have HL := aa.mk hB.size
 clear hI
 have wR := aa.mk hB.size
 have HB := aa.mk hB
 clear hB
 have H := h
 clear h
 unfold dQ.f at H
 obtain ⟨⟨t206, t207, t208⟩, A3, H⟩ := eA H
 (try dsimp only at H)
 obtain ⟨kI, H⟩ := dB H
 obtain ⟨qJ, H⟩ := dB H
 simp only [Option.some.injEq, Prod.mk.injEq] at H
 obtain ⟨rfl, rfl, rfl⟩ := H
 go_enter Tryz.func47, Tryz.ntmps47
 go_wp2_with (first | ((with_reducible refine gate_callee (f := 69) rfl ?_); refine dU (some 9) Tryz.func69 #[.pointer (some ⟨g, 0, none⟩), .int .i64 (l1.length : Int)] ?_; (with_reducible refine (bS.calls g cd eD eJ (l1.length : Int) t206 t207 t208 w0 _ ?ah ?aj A3.out).mono ?_); (case ah => exact ae.q_ bX); (case aj => exact gF HB (ae.ge bX.out)); rintro e w6 ⟨rfl, hi, hb, hk⟩; refine ⟨_, rfl, ?_⟩; replace HK := aa.mk (aq.trans (e9 HK) hk (.inl rfl)); replace HB := aa.mk (hb); replace bX := aa.mk (hi); (try clear hb); (try clear hk); (try clear hi); have abz : 0 ≤ (t206 : Int) := bO; have abA : t206 < (l1.length : Int) := bO; obtain ⟨ag_, aqq, JC⟩ := Kd.aZ Et.out t206 abz abA; cases aqq; replace JC := sJ HK.out JC (by first | (rw [eW]; exact hf1 _ rfl (by omega)) | exact hf1 _ rfl (by omega) | exact hf1 ag_ rfl (by omega)); replace abz := eq_true abz; replace abA := eq_true abA))
 go_ret
 exact ⟨ig, ae.q_ bX, gF HB (ae.ge bX.out), e9 HK⟩
def gq.f (cd : List Int) (eD : Int) (eJ : Int) (a1 : Int) : Option (Bool × Int × Int) := (bS.f cd eD eJ a1).bind fun OE => (some ((OE.1 == 0), OE.2.1, OE.2.2))
theorem gq.calls (g : Nat) (cd : List Int) (eD : Int) (eJ : Int) (a1 : Int) (r1 : Bool) (r2 : Int) (r3 : Int) (w0 w : World) (hI : ae w0 w g cd eD eJ) (hB : Below w0.heap.size w0 w) (h : gq.f cd eD eJ a1 = some (r1, r2, r3)) :
 Calls Tryz.prog 50 #[.pointer (some ⟨g, 0, none⟩), .int .i64 a1] w fun e w' => e = .returned (.bool r1) ∧ ae w0 w' g cd r2 r3 ∧ Below w0.heap.size w0 w' ∧ aq w w' g none := by
 have bX := aa.mk hI
 have HK := aa.mk (aq.refl w g none)
 have HL := aa.mk hB.size
 clear hI
 have wR := aa.mk hB.size
 have HB := aa.mk hB
 clear hB
 have H := h
 clear h
 unfold gq.f at H
 obtain ⟨⟨t210, t211, t212⟩, A3, H⟩ := eA H
 (try dsimp only at H)
 simp only [Option.some.injEq, Prod.mk.injEq] at H
 obtain ⟨rfl, rfl, rfl⟩ := H
 go_enter Tryz.func50, Tryz.ntmps50
 go_wp2_with (first | ((with_reducible refine gate_callee (f := 69) rfl ?_); refine dU (some 7) Tryz.func69 #[.pointer (some ⟨g, 0, none⟩), .int .i64 a1] ?_; (with_reducible refine (bS.calls g cd eD eJ a1 t210 t211 t212 w0 _ ?ah ?aj A3.out).mono ?_); (case ah => exact ae.q_ bX); (case aj => exact gF HB (ae.ge bX.out)); rintro e w4 ⟨rfl, hi, hb, hk⟩; refine ⟨_, rfl, ?_⟩; replace HK := aa.mk (aq.trans (e9 HK) hk (.inl rfl)); replace HB := aa.mk (hb); replace bX := aa.mk (hi); (try clear hb); (try clear hk); (try clear hi)))
 go_ret
 exact ⟨ig, ae.q_ bX, gF HB (ae.ge bX.out), e9 HK⟩
def cJ.l0 : Nat → List Int → List Int → Int → Option (Bool)
 | 0, _, _, _ => none
 | k + 1, x0, x1, x5 => if x5 < (x0.length : Int) then (if 0 ≤ x5 then (if x5 < (x1.length : Int) then (if (rd x0 x5) = (rd x1 x5) then (cJ.l0 k x0 x1 (wrap64 (x5 + 1))) else (some false)) else (none)) else (none)) else (some true)
def cJ.f (k : Nat) (l0 : List Int) (l1 : List Int) : Option (Bool) := if (l0.length : Int) = (l1.length : Int) then (cJ.l0 k l0 l1 0) else (some false)
theorem cJ.er : ∀ k, (∀ y0 y1 y2, bK (cJ.l0 k y0 y1 y2) (cJ.l0 (k + 1) y0 y1 y2))
 | 0 => fun _ _ _ r h => by simp [cJ.l0] at h
 | k + 1 => by
  have ia := cJ.er k
  · intro y0 y1 y2
    unfold cJ.l0
    repeat' first
    | (with_reducible exact ia _ _ _)
    | (with_reducible exact bK.refl _)
    | (with_reducible exact bK.none _)
    | (with_reducible refine bK.ite ?_ ?_)
    | (with_reducible refine bK.bind ?_ (fun _ => ?_))
    | exact ia _ _ _
    | exact bK.none _
    | refine bK.ite ?_ ?_
    | refine bK.bind ?_ (fun _ => ?_)
theorem cJ.mono : ∀ a0 a1 k, bK (cJ.f k a0 a1) (cJ.f (k + 1) a0 a1) := by
 intro a0 a1 k
 have ia := cJ.er k
 unfold cJ.f
 repeat' first
  | (with_reducible exact ia _ _ _)
  | (with_reducible exact bK.refl _)
  | (with_reducible exact bK.none _)
  | (with_reducible refine bK.ite ?_ ?_)
  | (with_reducible refine bK.bind ?_ (fun _ => ?_))
  | exact ia _ _ _
  | exact bK.none _
  | refine bK.ite ?_ ?_
  | refine bK.bind ?_ (fun _ => ?_)
theorem cJ.calls (k : Nat) (A0 : Option Addr) (c0 : Nat) (l0 : List Int) (A1 : Option Addr) (c1 : Nat) (l1 : List Int) (r : Bool) (w : World) (fH : Kd.C (Kd.int .i64) w A0 l0.length l0) (gL : l0.length ≤ c0) (uh : Kd.C (Kd.int .i64) w A1 l1.length l1) (Es : l1.length ≤ c1) (h : cJ.f k l0 l1 = some r) :
 Calls Tryz.prog 56 #[.slice A0 l0.length c0, .slice A1 l1.length c1] w fun e w' => e = .returned (.bool r) ∧ av w w' := by
 have eZ := aa.mk fH
 have jN := aa.mk gL
 clear fH gL
 have Et := aa.mk uh
 have HC1 := aa.mk Es
 clear uh Es
 have H := h
 clear h
 unfold cJ.f at H
 by_cases c3 : (l0.length : Int) = (l1.length : Int)
 rotate_left
 · rw [if_neg c3] at H
   have jD : ((l0.length : Int) == (l1.length : Int)) = false := beq_eq_false_iff_ne.mpr c3
   have ow : ((l0.length : Int) != (l1.length : Int)) = true := bne_iff_ne.mpr c3
   have uw : (l0.length == l1.length) = false := by first | simpa using c3 | (simp at c3 ⊢; omega)
   obtain rfl := Option.some.inj H
   go_enter Tryz.func56, Tryz.ntmps56
   go_wp2
   repeat (go_quiet (fail); try go_wp2)
   go_ret
   exact ⟨by first | rfl | (simp; done) | (simp [*]; done), by repeat (first | exact av.refl _ | apply av.step)⟩
 rw [if_pos c3] at H
 have jD : ((l0.length : Int) == (l1.length : Int)) = true := beq_iff_eq.mpr c3
 have ow : ((l0.length : Int) != (l1.length : Int)) = false := bne_eq_false_iff_eq.mpr c3
 have uw : (l0.length == l1.length) = true := by first | simpa using c3 | (simp at c3 ⊢; omega)
 clear c3
 have H' := aa.mk H
 clear H
 go_enter Tryz.func56, Tryz.ntmps56
 go_wp2
 repeat (go_quiet (fail); try go_wp2)
 go_loopg [5] k (fun kq v5 w' => ∃ (aJ : Int), v5 = .int .i64 aJ ∧ aa (cJ.l0 kq l0 l1 aJ = some r) ∧ aa (kq ≤ k) ∧ av w w')
 case atStart => exact ⟨(0), eF, H', ⟨Nat.le_refl _⟩, by repeat (first | exact av.refl _ | apply av.step)⟩
 case round =>
  clear H'
  try clear c1
  try clear jD
  try clear ow
  try clear uw
  obtain ⟨aJ, rfl, HA, fu, ⟨m1, rfl⟩⟩ := hrel
  cases gk with
  | zero => exact absurd HA.out (by simp [cJ.l0])
  | succ k1 =>
   have H := HA.out
   clear HA
   simp only [cJ.l0] at H
   by_cases c4 : aJ < (l0.length : Int)
   rotate_left
   · rw [if_neg c4] at H
     have kI : decide (aJ < (l0.length : Int)) = false := decide_eq_false c4
     clear c4
     obtain rfl := Option.some.inj H
     go_wp2
     repeat (go_quiet (fail); try go_wp2)
     go_ret
     exact ⟨by first | rfl | (simp; done) | (simp [*]; done), by repeat (first | exact av.refl _ | apply av.step)⟩
   rw [if_pos c4] at H
   have kI : decide (aJ < (l0.length : Int)) = true := decide_eq_true c4
   clear c4
   obtain ⟨qJ, H⟩ := dB H
   obtain ⟨pH, H⟩ := dB H
   by_cases c7 : (rd l0 aJ) = (rd l1 aJ)
   rotate_left
   · rw [if_neg c7] at H
     have oO : ((rd l0 aJ) == (rd l1 aJ)) = false := beq_eq_false_iff_ne.mpr c7
     have xB : ((rd l0 aJ) != (rd l1 aJ)) = true := bne_iff_ne.mpr c7
     obtain rfl := Option.some.inj H
     have Ha : 0 ≤ (aJ : Int) := bO
     have Hb : aJ < (l0.length : Int) := bO
     obtain ⟨aha, abB, UD⟩ := Kd.aZ eZ.out aJ Ha Hb
     cases abB
     replace Ha := eq_true Ha
     replace Hb := eq_true Hb
     have Hc : 0 ≤ (aJ : Int) := bO
     have Hd : aJ < (l1.length : Int) := bO
     obtain ⟨ahb, abC, UE⟩ := Kd.aZ Et.out aJ Hc Hd
     cases abC
     replace Hc := eq_true Hc
     replace Hd := eq_true Hd
     go_wp2
     repeat (go_quiet (fail); try go_wp2)
     go_ret
     exact ⟨by first | rfl | (simp; done) | (simp [*]; done), by repeat (first | exact av.refl _ | apply av.step)⟩
   rw [if_pos c7] at H
   have oO : ((rd l0 aJ) == (rd l1 aJ)) = true := beq_iff_eq.mpr c7
   have xB : ((rd l0 aJ) != (rd l1 aJ)) = false := bne_eq_false_iff_eq.mpr c7
   clear c7
   have H' := aa.mk H
   clear H
   have Ha : 0 ≤ (aJ : Int) := bO
   have Hb : aJ < (l0.length : Int) := bO
   obtain ⟨aha, abB, UD⟩ := Kd.aZ eZ.out aJ Ha Hb
   cases abB
   replace Ha := eq_true Ha
   replace Hb := eq_true Hb
   have Hc : 0 ≤ (aJ : Int) := bO
   have Hd : aJ < (l1.length : Int) := bO
   obtain ⟨ahb, abC, UE⟩ := Kd.aZ Et.out aJ Hc Hd
   cases abC
   replace Hc := eq_true Hc
   replace Hd := eq_true Hd
   go_wp2
   repeat (go_quiet (fail); try go_wp2)
   go_roundg k1
   case measure => have := fu.out; omega
   case rel => exact ⟨(wrap64 (aJ + 1)), eF, H', ⟨by have := fu.out; omega⟩, by repeat (first | exact av.refl _ | apply av.step)⟩
def fv.f (a0 : Int) (a1 : Int) (a2 : Int) : Option (Bool) := if a0 ≥ a1 then (some (decide (a0 ≤ a2))) else (some false)
theorem fv.calls (a0 : Int) (a1 : Int) (a2 : Int) (r : Bool) (w : World) (h : fv.f a0 a1 a2 = some r) :
 Calls Tryz.prog 57 #[.int .i64 a0, .int .i64 a1, .int .i64 a2] w fun e w' => e = .returned (.bool r) ∧ av w w' := by
 have H := h
 clear h
 unfold fv.f at H
 by_cases c4 : a0 ≥ a1
 rotate_left
 · rw [if_neg c4] at H
   have kI : decide (a1 ≤ a0) = false := decide_eq_false c4
   clear c4
   obtain rfl := Option.some.inj H
   go_enter Tryz.func57, Tryz.ntmps57
   go_wp2
   go_ret
   exact ⟨by first | rfl | (simp; done) | (simp [*]; done), by repeat (first | exact av.refl _ | apply av.step)⟩
 rw [if_pos c4] at H
 have kI : decide (a1 ≤ a0) = true := decide_eq_true c4
 clear c4
 obtain rfl := Option.some.inj H
 go_enter Tryz.func57, Tryz.ntmps57
 go_wp2
 go_ret
 exact ⟨by first | rfl | (simp; done) | (simp [*]; done), by repeat (first | exact av.refl _ | apply av.step)⟩
def bZ.l0 : Nat → List Int → Int → Option (Bool)
 | 0, _, _ => none
 | k + 1, x0, x3 => if x3 < (x0.length : Int) then (if 0 ≤ x3 then ((fv.f (rd x0 x3) 1 60).bind fun t216 => (if t216 = true then (bZ.l0 k x0 (wrap64 (x3 + 1))) else (some false))) else (none)) else ((fv.f (x0.length : Int) 1 20).bind fun t217 => (some t217))
def bZ.f (k : Nat) (l0 : List Int) : Option (Bool) := bZ.l0 k l0 0
theorem bZ.er : ∀ k, (∀ y0 y1, bK (bZ.l0 k y0 y1) (bZ.l0 (k + 1) y0 y1))
 | 0 => fun _ _ r h => by simp [bZ.l0] at h
 | k + 1 => by
  have ia := bZ.er k
  · intro y0 y1
    unfold bZ.l0
    repeat' first
    | (with_reducible exact ia _ _)
    | (with_reducible exact bK.refl _)
    | (with_reducible exact bK.none _)
    | (with_reducible refine bK.ite ?_ ?_)
    | (with_reducible refine bK.bind ?_ (fun _ => ?_))
    | exact ia _ _
    | exact bK.none _
    | refine bK.ite ?_ ?_
    | refine bK.bind ?_ (fun _ => ?_)
theorem bZ.mono : ∀ a0 k, bK (bZ.f k a0) (bZ.f (k + 1) a0) := by
 intro a0 k
 have ia := bZ.er k
 unfold bZ.f
 repeat' first
  | (with_reducible exact ia _ _)
  | (with_reducible exact bK.refl _)
  | (with_reducible exact bK.none _)
  | (with_reducible refine bK.ite ?_ ?_)
  | (with_reducible refine bK.bind ?_ (fun _ => ?_))
  | exact ia _ _
  | exact bK.none _
  | refine bK.ite ?_ ?_
  | refine bK.bind ?_ (fun _ => ?_)
theorem bZ.calls (k : Nat) (A0 : Option Addr) (c0 : Nat) (l0 : List Int) (r : Bool) (w : World) (fH : Kd.C (Kd.int .i64) w A0 l0.length l0) (gL : l0.length ≤ c0) (h : bZ.f k l0 = some r) :
 Calls Tryz.prog 91 #[.slice A0 l0.length c0] w fun e w' => e = .returned (.bool r) ∧ av w w' := by
 have eZ := aa.mk fH
 have jN := aa.mk gL
 clear fH gL
 have H := h
 clear h
 unfold bZ.f at H
 have H' := aa.mk H
 clear H
 go_enter Tryz.func91, Tryz.ntmps91
 go_wp2
 go_loopg [3] k (fun kq v3 w' => ∃ (bd : Int), v3 = .int .i64 bd ∧ aa (bZ.l0 kq l0 bd = some r) ∧ aa (kq ≤ k) ∧ av w w')
 case atStart => exact ⟨(0), eF, H', ⟨Nat.le_refl _⟩, by repeat (first | exact av.refl _ | apply av.step)⟩
 case round =>
  clear H'
  obtain ⟨bd, rfl, HA, fu, ⟨m1, rfl⟩⟩ := hrel
  cases gk with
  | zero => exact absurd HA.out (by simp [bZ.l0])
  | succ k1 =>
   have H := HA.out
   clear HA
   simp only [bZ.l0] at H
   by_cases c2 : bd < (l0.length : Int)
   rotate_left
   · rw [if_neg c2] at H
     have tL : decide (bd < (l0.length : Int)) = false := decide_eq_false c2
     clear c2
     obtain ⟨t217, A6, H⟩ := eA H
     obtain rfl := Option.some.inj H
     go_wp2_with (first | ((with_reducible refine gate_callee (f := 57) rfl ?_); refine dU (some 18) Tryz.func57 #[.int .i64 (l0.length : Int), .int .i64 1, .int .i64 20] ?_; (with_reducible refine (fv.calls (l0.length : Int) 1 20 t217 _ A6.out).mono ?_); rintro e w' ⟨rfl, ⟨nd, rfl⟩⟩; refine ⟨_, rfl, ?_⟩))
     go_ret
     exact ⟨by first | rfl | (simp; done) | (simp [*]; done), by repeat (first | exact av.refl _ | apply av.step)⟩
   rw [if_pos c2] at H
   have tL : decide (bd < (l0.length : Int)) = true := decide_eq_true c2
   clear c2
   obtain ⟨jD, H⟩ := dB H
   obtain ⟨t216, A4, H⟩ := eA H
   by_cases c5 : t216 = true
   rotate_left
   · replace c5 := Bool.eq_false_iff.mpr c5
     subst c5
     rw [if_neg (show ¬ (false = true) by decide)] at H
     obtain rfl := Option.some.inj H
     have He : 0 ≤ (bd : Int) := bO
     have Hf : bd < (l0.length : Int) := bO
     obtain ⟨ahc, abD, UF⟩ := Kd.aZ eZ.out bd He Hf
     cases abD
     replace He := eq_true He
     replace Hf := eq_true Hf
     go_wp2_with (first | ((with_reducible refine gate_callee (f := 57) rfl ?_); refine dU (some 14) Tryz.func57 #[.int .i64 (rd l0 bd), .int .i64 1, .int .i64 60] ?_; (with_reducible refine (fv.calls (rd l0 bd) 1 60 false _ A4.out).mono ?_); rintro e w' ⟨rfl, ⟨nd, rfl⟩⟩; refine ⟨_, rfl, ?_⟩))
     go_ret
     exact ⟨by first | rfl | (simp; done) | (simp [*]; done), by repeat (first | exact av.refl _ | apply av.step)⟩
   subst c5
   rw [if_pos rfl] at H
   have H' := aa.mk H
   clear H
   have He : 0 ≤ (bd : Int) := bO
   have Hf : bd < (l0.length : Int) := bO
   obtain ⟨ahc, abD, UF⟩ := Kd.aZ eZ.out bd He Hf
   cases abD
   replace He := eq_true He
   replace Hf := eq_true Hf
   go_wp2_with (first | ((with_reducible refine gate_callee (f := 57) rfl ?_); refine dU (some 14) Tryz.func57 #[.int .i64 (rd l0 bd), .int .i64 1, .int .i64 60] ?_; (with_reducible refine (fv.calls (rd l0 bd) 1 60 true _ A4.out).mono ?_); rintro e w' ⟨rfl, ⟨nd, rfl⟩⟩; refine ⟨_, rfl, ?_⟩))
   go_roundg k1
   case measure => have := fu.out; omega
   case rel => exact ⟨(wrap64 (bd + 1)), eF, H', ⟨by have := fu.out; omega⟩, by repeat (first | exact av.refl _ | apply av.step)⟩
def bf.l0 : Nat → List Int → Int → Option (Bool)
 | 0, _, _ => none
 | k + 1, x0, x3 => if x3 < (x0.length : Int) then (if 0 ≤ (wrap64 (x3 - 1)) then (if (wrap64 (x3 - 1)) < (x0.length : Int) then (if 0 ≤ x3 then (if (rd x0 (wrap64 (x3 - 1))) ≥ (rd x0 x3) then (some false) else (bf.l0 k x0 (wrap64 (x3 + 1)))) else (none)) else (none)) else (none)) else (some true)
def bf.f (k : Nat) (l0 : List Int) : Option (Bool) := bf.l0 k l0 1
theorem bf.er : ∀ k, (∀ y0 y1, bK (bf.l0 k y0 y1) (bf.l0 (k + 1) y0 y1))
 | 0 => fun _ _ r h => by simp [bf.l0] at h
 | k + 1 => by
  have ia := bf.er k
  · intro y0 y1
    unfold bf.l0
    repeat' first
    | (with_reducible exact ia _ _)
    | (with_reducible exact bK.refl _)
    | (with_reducible exact bK.none _)
    | (with_reducible refine bK.ite ?_ ?_)
    | (with_reducible refine bK.bind ?_ (fun _ => ?_))
    | exact ia _ _
    | exact bK.none _
    | refine bK.ite ?_ ?_
    | refine bK.bind ?_ (fun _ => ?_)
theorem bf.mono : ∀ a0 k, bK (bf.f k a0) (bf.f (k + 1) a0) := by
 intro a0 k
 have ia := bf.er k
 unfold bf.f
 repeat' first
  | (with_reducible exact ia _ _)
  | (with_reducible exact bK.refl _)
  | (with_reducible exact bK.none _)
  | (with_reducible refine bK.ite ?_ ?_)
  | (with_reducible refine bK.bind ?_ (fun _ => ?_))
  | exact ia _ _
  | exact bK.none _
  | refine bK.ite ?_ ?_
  | refine bK.bind ?_ (fun _ => ?_)
theorem bf.calls (k : Nat) (A0 : Option Addr) (c0 : Nat) (l0 : List Int) (r : Bool) (w : World) (fH : Kd.C (Kd.int .i64) w A0 l0.length l0) (gL : l0.length ≤ c0) (h : bf.f k l0 = some r) :
 Calls Tryz.prog 92 #[.slice A0 l0.length c0] w fun e w' => e = .returned (.bool r) ∧ av w w' := by
 have eZ := aa.mk fH
 have jN := aa.mk gL
 clear fH gL
 have H := h
 clear h
 unfold bf.f at H
 have H' := aa.mk H
 clear H
 go_enter Tryz.func92, Tryz.ntmps92
 go_wp2
 repeat (go_quiet (fail); try go_wp2)
 go_loopg [3] k (fun kq v3 w' => ∃ (bd : Int), v3 = .int .i64 bd ∧ aa (bf.l0 kq l0 bd = some r) ∧ aa (kq ≤ k) ∧ av w w')
 case atStart => exact ⟨(1), eF, H', ⟨Nat.le_refl _⟩, by repeat (first | exact av.refl _ | apply av.step)⟩
 case round =>
  clear H'
  obtain ⟨bd, rfl, HA, fu, ⟨m1, rfl⟩⟩ := hrel
  cases gk with
  | zero => exact absurd HA.out (by simp [bf.l0])
  | succ k1 =>
   have H := HA.out
   clear HA
   simp only [bf.l0] at H
   by_cases c2 : bd < (l0.length : Int)
   rotate_left
   · rw [if_neg c2] at H
     have tL : decide (bd < (l0.length : Int)) = false := decide_eq_false c2
     clear c2
     obtain rfl := Option.some.inj H
     go_wp2
     repeat (go_quiet (fail); try go_wp2)
     go_ret
     exact ⟨by first | rfl | (simp; done) | (simp [*]; done), by repeat (first | exact av.refl _ | apply av.step)⟩
   rw [if_pos c2] at H
   have tL : decide (bd < (l0.length : Int)) = true := decide_eq_true c2
   clear c2
   obtain ⟨zf, CH⟩ : ∃ j_ : Int, (wrap64 (bd - 1)) = j_ := ⟨_, rfl⟩
   replace H : (if 0 ≤ (zf) then (if (zf) < (l0.length : Int) then (if 0 ≤ bd then (if (rd l0 (zf)) ≥ (rd l0 bd) then (some false) else (bf.l0 k1 l0 (wrap64 (bd + 1)))) else (none)) else (none)) else (none)) = some r := by first | (rw [CH] at H; exact H) | (simp only [CH] at H ⊢; exact H)
   have ahd : (IntKind.i64.wrap (bd - 1)) = zf := (b6 _).trans CH
   obtain ⟨kI, H⟩ := dB H
   obtain ⟨qJ, H⟩ := dB H
   obtain ⟨pH, H⟩ := dB H
   by_cases c7 : (rd l0 (zf)) ≥ (rd l0 bd)
   · rw [if_pos c7] at H
     have oO : decide ((rd l0 bd) ≤ (rd l0 (zf))) = true := decide_eq_true c7
     clear c7
     obtain rfl := Option.some.inj H
     have Hg : 0 ≤ ((zf) : Int) := bO
     have Hh : (zf) < (l0.length : Int) := bO
     obtain ⟨OF, abE, UG⟩ := Kd.aZ eZ.out (zf) Hg Hh
     cases abE
     replace Hg := eq_true Hg
     replace Hh := eq_true Hh
     have Hi : 0 ≤ (bd : Int) := bO
     have Hj : bd < (l0.length : Int) := bO
     obtain ⟨OG, abF, UH⟩ := Kd.aZ eZ.out bd Hi Hj
     obtain rfl : OF = OG := (by injection abF)
     replace Hi := eq_true Hi
     replace Hj := eq_true Hj
     go_wp2
     repeat (go_quiet (fail); try go_wp2)
     go_ret
     exact ⟨by first | rfl | (simp; done) | (simp only [← CH] <;> (first | rfl | simp)) | (simp [*]; done), by repeat (first | exact av.refl _ | apply av.step)⟩
   rw [if_neg c7] at H
   have oO : decide ((rd l0 bd) ≤ (rd l0 (zf))) = false := decide_eq_false c7
   clear c7
   have H' := aa.mk H
   clear H
   have Hg : 0 ≤ ((zf) : Int) := bO
   have Hh : (zf) < (l0.length : Int) := bO
   obtain ⟨OF, abE, UG⟩ := Kd.aZ eZ.out (zf) Hg Hh
   cases abE
   replace Hg := eq_true Hg
   replace Hh := eq_true Hh
   have Hi : 0 ≤ (bd : Int) := bO
   have Hj : bd < (l0.length : Int) := bO
   obtain ⟨OG, abF, UH⟩ := Kd.aZ eZ.out bd Hi Hj
   obtain rfl : OF = OG := (by injection abF)
   replace Hi := eq_true Hi
   replace Hj := eq_true Hj
   go_wp2
   repeat (go_quiet (fail); try go_wp2)
   go_roundg k1
   case measure => have := fu.out; omega
   case rel => exact ⟨(wrap64 (bd + 1)), eF, H', ⟨by have := fu.out; omega⟩, by repeat (first | exact av.refl _ | apply av.step)⟩
def iq.f (a0 : Int) : Option (Bool) := (fv.f a0 (-1000000) 1000000).bind fun t220 => (some t220)
theorem iq.calls (a0 : Int) (r : Bool) (w : World) (h : iq.f a0 = some r) :
 Calls Tryz.prog 120 #[.int .i64 a0] w fun e w' => e = .returned (.bool r) ∧ av w w' := by
 have H := h
 clear h
 unfold iq.f at H
 obtain ⟨t220, A2, H⟩ := eA H
 obtain rfl := Option.some.inj H
 go_enter Tryz.func120, Tryz.ntmps120
 go_wp2_with (first | ((with_reducible refine gate_callee (f := 57) rfl ?_); refine dU (some 4) Tryz.func57 #[.int .i64 a0, .int .i64 (-1000000), .int .i64 1000000] ?_; (with_reducible refine (fv.calls a0 (-1000000) 1000000 t220 _ A2.out).mono ?_); rintro e w' ⟨rfl, ⟨nd, rfl⟩⟩; refine ⟨_, rfl, ?_⟩))
 go_ret
 exact ⟨by first | rfl | (simp; done) | (simp [*]; done), by repeat (first | exact av.refl _ | apply av.step)⟩
def j7.f (a0 : Int) (a1 : Int) : Option (Int) := if a0 > a1 then (some a0) else (some a1)
theorem j7.calls (a0 : Int) (a1 : Int) (r : Int) (w : World) (h : j7.f a0 a1 = some r) :
 Calls Tryz.prog 121 #[.int .i64 a0, .int .i64 a1] w fun e w' => e = .returned (.int .i64 r) ∧ av w w' := by
 have H := h
 clear h
 unfold j7.f at H
 by_cases c3 : a0 > a1
 rotate_left
 · rw [if_neg c3] at H
   have jD : decide (a1 < a0) = false := decide_eq_false c3
   clear c3
   obtain rfl := Option.some.inj H
   go_enter Tryz.func121, Tryz.ntmps121
   go_wp2
   go_ret
   exact ⟨by first | rfl | (simp; done) | (simp [*]; done), by repeat (first | exact av.refl _ | apply av.step)⟩
 rw [if_pos c3] at H
 have jD : decide (a1 < a0) = true := decide_eq_true c3
 clear c3
 obtain rfl := Option.some.inj H
 go_enter Tryz.func121, Tryz.ntmps121
 go_wp2
 go_ret
 exact ⟨by first | rfl | (simp; done) | (simp [*]; done), by repeat (first | exact av.refl _ | apply av.step)⟩
mutual
def b8.j0 : Nat → Int → Int → Bool → Option (Int)
 | 0, _, _, _ => none
 | k + 1, x0, x1, rn => if rn = true then (some 0) else ((j7.f x0 (wrap64 (-x0))).bind fun t223 => ((j7.f x1 (wrap64 (-x1))).bind fun t224 => (b8.l0 k t223 t224)))
def b8.l0 : Nat → Int → Int → Option (Int)
 | 0, _, _ => none
 | k + 1, x0, x1 => if x1 > 0 then (if x1 = 0 then (none) else (b8.l0 k x1 (Int.tmod x0 x1))) else (some x0)
end
def b8.f (k : Nat) (a0 : Int) (a1 : Int) : Option (Int) := (iq.f a0).bind fun t221 => (if t221 = true then ((iq.f a1).bind fun t222 => (b8.j0 k a0 a1 (!t222))) else (b8.j0 k a0 a1 true))
theorem b8.er : ∀ k, (∀ y0 y1 y2, bK (b8.j0 k y0 y1 y2) (b8.j0 (k + 1) y0 y1 y2)) ∧ (∀ y0 y1, bK (b8.l0 k y0 y1) (b8.l0 (k + 1) y0 y1))
 | 0 => ⟨fun _ _ _ r h => by simp [b8.j0] at h, fun _ _ r h => by simp [b8.l0] at h⟩
 | k + 1 => by
  obtain ⟨ia, oP⟩ := b8.er k
  refine ⟨?_, ?_⟩
  · intro y0 y1 y2
    unfold b8.j0
    repeat' first
    | (with_reducible exact ia _ _ _)
    | (with_reducible exact oP _ _)
    | (with_reducible exact bK.refl _)
    | (with_reducible exact bK.none _)
    | (with_reducible refine bK.ite ?_ ?_)
    | (with_reducible refine bK.bind ?_ (fun _ => ?_))
    | exact ia _ _ _
    | exact oP _ _
    | exact bK.none _
    | refine bK.ite ?_ ?_
    | refine bK.bind ?_ (fun _ => ?_)
  · intro y0 y1
    unfold b8.l0
    repeat' first
    | (with_reducible exact ia _ _ _)
    | (with_reducible exact oP _ _)
    | (with_reducible exact bK.refl _)
    | (with_reducible exact bK.none _)
    | (with_reducible refine bK.ite ?_ ?_)
    | (with_reducible refine bK.bind ?_ (fun _ => ?_))
    | exact ia _ _ _
    | exact oP _ _
    | exact bK.none _
    | refine bK.ite ?_ ?_
    | refine bK.bind ?_ (fun _ => ?_)
theorem b8.mono : ∀ a0 a1 k, bK (b8.f k a0 a1) (b8.f (k + 1) a0 a1) := by
 intro a0 a1 k
 obtain ⟨ia, oP⟩ := b8.er k
 unfold b8.f
 repeat' first
  | (with_reducible exact ia _ _ _)
  | (with_reducible exact oP _ _)
  | (with_reducible exact bK.refl _)
  | (with_reducible exact bK.none _)
  | (with_reducible refine bK.ite ?_ ?_)
  | (with_reducible refine bK.bind ?_ (fun _ => ?_))
  | exact ia _ _ _
  | exact oP _ _
  | exact bK.none _
  | refine bK.ite ?_ ?_
  | refine bK.bind ?_ (fun _ => ?_)
theorem b8.calls (k : Nat) (a0 : Int) (a1 : Int) (r : Int) (w : World) (h : b8.f k a0 a1 = some r) :
 Calls Tryz.prog 114 #[.int .i64 a0, .int .i64 a1] w fun e w' => e = .returned (.int .i64 r) ∧ av w w' := by
 have H := h
 clear h
 unfold b8.f at H
 have CI := aa.mk H
 clear H
 go_enter Tryz.func114, Tryz.ntmps114
 go_upto_region 1 with (fail)
 go_cut [13] (fun v13 wc => ∃ (kq : Nat) (JD : Bool), v13 = .bool JD ∧ aa (b8.j0 kq a0 a1 JD = some r) ∧ aa (kq ≤ k) ∧ av w wc)
 case first =>
  have H := CI.out
  clear CI
  obtain ⟨t221, A4, H⟩ := eA H
  by_cases c5 : t221 = true
  rotate_left
  · replace c5 := Bool.eq_false_iff.mpr c5
    subst c5
    rw [if_neg (show ¬ (false = true) by decide)] at H
    have H' := aa.mk H
    clear H
    go_wp2_with (first | ((with_reducible refine gate_callee (f := 120) rfl ?_); refine dU (some 7) Tryz.func120 #[.int .i64 a0] ?_; (with_reducible refine (iq.calls a0 false _ A4.out).mono ?_); rintro e w' ⟨rfl, ⟨nd, rfl⟩⟩; refine ⟨_, rfl, ?_⟩))
    go_meet
    case rel => exact ⟨_, (true), eF, H', ⟨by first | omega | exact Nat.le_refl _⟩, by repeat (first | exact av.refl _ | apply av.step)⟩
  subst c5
  rw [if_pos rfl] at H
  obtain ⟨t222, A6, H⟩ := eA H
  have H' := aa.mk H
  clear H
  go_wp2_with (first | ((with_reducible refine gate_callee (f := 120) rfl ?_); refine dU (some 7) Tryz.func120 #[.int .i64 a0] ?_; (with_reducible refine (iq.calls a0 true _ A4.out).mono ?_); rintro e w' ⟨rfl, ⟨nd, rfl⟩⟩; refine ⟨_, rfl, ?_⟩) | (go_at_call 120; (with_reducible refine (iq.calls a1 t222 _ A6.out).mono ?_); rintro e w' ⟨rfl, ⟨nd, rfl⟩⟩))
  go_meet
  case rel => exact ⟨_, (!t222), eF, H', ⟨by first | omega | exact Nat.le_refl _⟩, by repeat (first | exact av.refl _ | apply av.step)⟩
 case rest =>
  clear CI
  obtain ⟨kq, JD, rfl, HA, vB, ⟨mc2, rfl⟩⟩ := hcut
  cases kq with
  | zero => exact absurd HA.out (by simp [b8.j0])
  | succ zg =>
   have H := HA.out
   clear HA
   simp only [b8.j0] at H
   by_cases c7 : JD = true
   · subst c7
     rw [if_pos rfl] at H
     obtain rfl := Option.some.inj H
     go_wp2
     go_ret
     exact ⟨by first | rfl | (simp; done) | (simp [*]; done), by repeat (first | exact av.refl _ | apply av.step)⟩
   replace c7 := Bool.eq_false_iff.mpr c7
   subst c7
   rw [if_neg (show ¬ (false = true) by decide)] at H
   obtain ⟨t223, A8, H⟩ := eA H
   obtain ⟨t224, A9, H⟩ := eA H
   have H' := aa.mk H
   clear H
   go_wp2_with (first | ((with_reducible refine gate_callee (f := 121) rfl ?_); refine dU (some 17) Tryz.func121 #[.int .i64 a0, .int .i64 (wrap64 (-a0))] ?_; (with_reducible refine (j7.calls a0 (wrap64 (-a0)) t223 _ A8.out).mono ?_); rintro e w' ⟨rfl, ⟨nd, rfl⟩⟩; refine ⟨_, rfl, ?_⟩) | ((with_reducible refine gate_callee (f := 121) rfl ?_); refine dU (some 21) Tryz.func121 #[.int .i64 a1, .int .i64 (wrap64 (-a1))] ?_; (with_reducible refine (j7.calls a1 (wrap64 (-a1)) t224 _ A9.out).mono ?_); rintro e w' ⟨rfl, ⟨nd, rfl⟩⟩; refine ⟨_, rfl, ?_⟩))
   go_loopg [0, 1] zg (fun kq v0 v1 w' => ∃ (UI : Int) (AW : Int), v0 = .int .i64 UI ∧ v1 = .int .i64 AW ∧ aa (b8.l0 kq UI AW = some r) ∧ aa (kq ≤ zg) ∧ av w w')
   case atStart => exact ⟨(t223), (t224), eF, eF, H', ⟨Nat.le_refl _⟩, by repeat (first | exact av.refl _ | apply av.step)⟩
   case round =>
    clear H'
    obtain ⟨UI, AW, rfl, rfl, HA, jo, ⟨m2, rfl⟩⟩ := hrel
    cases gk with
    | zero => exact absurd HA.out (by simp [b8.l0])
    | succ k2 =>
     have H := HA.out
     clear HA
     simp only [b8.l0] at H
     by_cases rh : AW > 0
     rotate_left
     · rw [if_neg rh] at H
       have pW : decide (0 < AW) = false := decide_eq_false rh
       clear rh
       obtain rfl := Option.some.inj H
       go_wp2
       go_ret
       exact ⟨by first | rfl | (simp; done) | (simp [*]; done), by repeat (first | exact av.refl _ | apply av.step)⟩
     rw [if_pos rh] at H
     have pW : decide (0 < AW) = true := decide_eq_true rh
     clear rh
     obtain ⟨rL, H⟩ := in_ H
     have yW : (AW == 0) = false := beq_eq_false_iff_ne.mpr rL
     have X7 : (AW != 0) = true := bne_iff_ne.mpr rL
     have H' := aa.mk H
     clear H
     go_wp2
     go_roundg k2
     case measure => have := vB.out; have := jo.out; omega
     case rel => exact ⟨(AW), (Int.tmod UI AW), eF, eF, H', ⟨by have := vB.out; have := jo.out; omega⟩, by repeat (first | exact av.refl _ | apply av.step)⟩
def bN.l0 : Nat → List Int → Int → Int → Option (Int)
 | 0, _, _, _ => none
 | k + 1, x0, x3, x4 => if x4 < (x0.length : Int) then (if 0 ≤ x4 then ((b8.f k x3 (rd x0 x4)).bind fun t226 => (bN.l0 k x0 t226 (wrap64 (x4 + 1)))) else (none)) else (some x3)
def bN.f (k : Nat) (l0 : List Int) : Option (Int) := bN.l0 k l0 0 0
theorem bN.er : ∀ k, (∀ y0 y1 y2, bK (bN.l0 k y0 y1 y2) (bN.l0 (k + 1) y0 y1 y2))
 | 0 => fun _ _ _ r h => by simp [bN.l0] at h
 | k + 1 => by
  have ia := bN.er k
  · intro y0 y1 y2
    unfold bN.l0
    repeat' first
    | (with_reducible exact ia _ _ _)
    | (with_reducible exact b8.mono _ _ _)
    | (with_reducible exact bK.refl _)
    | (with_reducible exact bK.none _)
    | (with_reducible refine bK.ite ?_ ?_)
    | (with_reducible refine bK.bind ?_ (fun _ => ?_))
    | exact ia _ _ _
    | exact bK.none _
    | refine bK.ite ?_ ?_
    | refine bK.bind ?_ (fun _ => ?_)
theorem bN.mono : ∀ a0 k, bK (bN.f k a0) (bN.f (k + 1) a0) := by
 intro a0 k
 have ia := bN.er k
 unfold bN.f
 repeat' first
  | (with_reducible exact ia _ _ _)
  | (with_reducible exact b8.mono _ _ _)
  | (with_reducible exact bK.refl _)
  | (with_reducible exact bK.none _)
  | (with_reducible refine bK.ite ?_ ?_)
  | (with_reducible refine bK.bind ?_ (fun _ => ?_))
  | exact ia _ _ _
  | exact bK.none _
  | refine bK.ite ?_ ?_
  | refine bK.bind ?_ (fun _ => ?_)
theorem bN.calls (k : Nat) (A0 : Option Addr) (c0 : Nat) (l0 : List Int) (r : Int) (w : World) (fH : Kd.C (Kd.int .i64) w A0 l0.length l0) (gL : l0.length ≤ c0) (h : bN.f k l0 = some r) :
 Calls Tryz.prog 93 #[.slice A0 l0.length c0] w fun e w' => e = .returned (.int .i64 r) ∧ av w w' := by
 have eZ := aa.mk fH
 have jN := aa.mk gL
 clear fH gL
 have H := h
 clear h
 unfold bN.f at H
 have H' := aa.mk H
 clear H
 go_enter Tryz.func93, Tryz.ntmps93
 go_wp2
 go_loopg [3, 4] k (fun kq v3 v4 w' => ∃ (bd : Int) (bx : Int), v3 = .int .i64 bd ∧ v4 = .int .i64 bx ∧ aa (bN.l0 kq l0 bd bx = some r) ∧ aa (kq ≤ k) ∧ av w w')
 case atStart => exact ⟨(0), (0), eF, eF, H', ⟨Nat.le_refl _⟩, by repeat (first | exact av.refl _ | apply av.step)⟩
 case round =>
  clear H'
  obtain ⟨bd, bx, rfl, rfl, HA, fu, ⟨m1, rfl⟩⟩ := hrel
  cases gk with
  | zero => exact absurd HA.out (by simp [bN.l0])
  | succ k1 =>
   have H := HA.out
   clear HA
   simp only [bN.l0] at H
   by_cases c2 : bx < (l0.length : Int)
   rotate_left
   · rw [if_neg c2] at H
     have tL : decide (bx < (l0.length : Int)) = false := decide_eq_false c2
     clear c2
     obtain rfl := Option.some.inj H
     go_wp2
     go_ret
     exact ⟨by first | rfl | (simp; done) | (simp [*]; done), by repeat (first | exact av.refl _ | apply av.step)⟩
   rw [if_pos c2] at H
   have tL : decide (bx < (l0.length : Int)) = true := decide_eq_true c2
   clear c2
   obtain ⟨jD, H⟩ := dB H
   obtain ⟨t226, A4, H⟩ := eA H
   have H' := aa.mk H
   clear H
   have abG : 0 ≤ (bx : Int) := bO
   have abH : bx < (l0.length : Int) := bO
   obtain ⟨avr, aqr, an3⟩ := Kd.aZ eZ.out bx abG abH
   cases aqr
   replace abG := eq_true abG
   replace abH := eq_true abH
   go_wp2_with (first | ((with_reducible refine gate_callee (f := 114) rfl ?_); refine dU (some 16) Tryz.func114 #[.int .i64 bd, .int .i64 (rd l0 bx)] ?_; (with_reducible refine (b8.calls k1 bd (rd l0 bx) t226 _ A4.out).mono ?_); rintro e w' ⟨rfl, ⟨nd, rfl⟩⟩; refine ⟨_, rfl, ?_⟩))
   go_roundg k1
   case measure => have := fu.out; omega
   case rel => exact ⟨(t226), (wrap64 (bx + 1)), eF, eF, H', ⟨by have := fu.out; omega⟩, by repeat (first | exact av.refl _ | apply av.step)⟩
end Go.Proofs.YtjodlkbhaofkkaaGreat.PA
end
