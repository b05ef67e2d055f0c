-- Bundled by shake.py from this session's printed and written texts; Lean checks it.
import Derived.Test.YtjodlkbhaofkkaaGreatZFnTreex11
section
namespace Go.Proofs.YtjodlkbhaofkkaaGreat.PA
open Go.RowKit Go.Proofs.YtjodlkbhaofkkaaGreatW.PrintWords Go.Proofs.YtjodlkbhaofkkaaGreatW.PrintLast Go.Proofs.YtjodlkbhaofkkaaGreatW.PrintMore
attribute [local go_sem] ja jb j5 j6 hY hZ jc jd
set_option linter.unusedVariables false
set_option linter.unusedSimpArgs false
set_option maxHeartbeats 8000000
set_option maxRecDepth 100000
theorem pn {p q : Prop} (hp : p) (h : p → q := by intro hk; (repeat' refine And.intro ?_ ?_) <;> (first | exact hk | exact hk.1 | exact hk.2 | exact hk.2.1 | exact hk.2.2 | exact hk.2.2.1 | exact hk.2.2.2 | exact hk.2.2.2.1 | exact hk.2.2.2.2 | exact hk.2.2.2.2.1 | exact hk.2.2.2.2.2 | exact hk.2.2.2.2.2.1 | exact hk.2.2.2.2.2.2 | exact hk.2.2.2.2.2.2.1 | exact hk.2.2.2.2.2.2.2 | exact hk.2.2.2.2.2.2.2.1 | exact hk.2.2.2.2.2.2.2.2 | exact hk.2.2.2.2.2.2.2.2.1 | exact hk.2.2.2.2.2.2.2.2.2 | exact hk.2.2.2.2.2.2.2.2.2.1 | exact hk.2.2.2.2.2.2.2.2.2.2 | exact hk.2.2.2.2.2.2.2.2.2.2.1 | exact hk.2.2.2.2.2.2.2.2.2.2.2 | exact hk.2.2.2.2.2.2.2.2.2.2.2.1 | exact hk.2.2.2.2.2.2.2.2.2.2.2.2 | exact hk.2.2.2.2.2.2.2.2.2.2.2.2.1 | exact hk.2.2.2.2.2.2.2.2.2.2.2.2.2 | exact hk.1.1 | exact hk.1.2 | exact hk.1.2.1 | exact hk.1.2.2 | exact hk.1.2.2.1 | exact hk.1.2.2.2 | exact hk.1.2.2.2.1 | exact hk.1.2.2.2.2 | exact hk.1.2.2.2.2.1 | exact hk.1.2.2.2.2.2 | exact hk.1.2.2.2.2.2.1 | exact hk.1.2.2.2.2.2.2 | exact hk.1.2.2.2.2.2.2.1 | exact hk.1.2.2.2.2.2.2.2 | exact hk.1.2.2.2.2.2.2.2.1 | exact hk.1.2.2.2.2.2.2.2.2 | exact hk.1.2.2.2.2.2.2.2.2.1 | exact hk.1.2.2.2.2.2.2.2.2.2 | exact hk.1.2.2.2.2.2.2.2.2.2.1 | exact hk.1.2.2.2.2.2.2.2.2.2.2 | exact hk.1.2.2.2.2.2.2.2.2.2.2.1 | exact hk.1.2.2.2.2.2.2.2.2.2.2.2 | exact hk.1.2.2.2.2.2.2.2.2.2.2.2.1 | exact hk.1.2.2.2.2.2.2.2.2.2.2.2.2 | exact hk.1.2.2.2.2.2.2.2.2.2.2.2.2.1 | exact hk.1.2.2.2.2.2.2.2.2.2.2.2.2.2 | exact hk.2.2.2.2.2.2.2.2.2.2.2.2.2.1 | exact hk.2.2.2.2.2.2.2.2.2.2.2.2.2.2)) : q := h hp
mutual
noncomputable def aw.j0 : Nat → List (cT) → Int → List (cT) → Int → List (cT) → Bool → Bool → List Int → List Int → Option (Bool)
 | 0, _, _, _, _, _, _, _, _, _ => none
 | k + 1, x9, rn, Nd, DU, tq, Ik, atN, nv, km => if atN = true then (some false) else (if DU ≥ 0 then (if DU ≤ 8 then ((fR.f k DU).bind fun po => ((some (([1, 1, 2, 4, 7, 12, 23, 39, 67] : List Int) : List Int)).bind fun k7 => (if 0 ≤ DU then (if DU < (k7.length : Int) then (aw.j1 k x9 rn Nd tq Ik (po != (rd k7 DU)) nv km) else (none)) else (none)))) else (aw.j1 k x9 rn Nd tq Ik false nv km)) else (aw.j1 k x9 rn Nd tq Ik false nv km))
noncomputable def aw.j1 : Nat → List (cT) → Int → List (cT) → List (cT) → Bool → Bool → List Int → List Int → Option (Bool)
 | 0, _, _, _, _, _, _, _, _ => none
 | k + 1, x9, rn, Nd, tq, Ik, atO, nv, km => if atO = true then (some false) else (aw.l0 k x9 rn Nd tq Ik 0 nv km)
noncomputable def aw.l0 : Nat → List (cT) → Int → List (cT) → List (cT) → Bool → Int → List Int → List Int → Option (Bool)
 | 0, _, _, _, _, _, _, _, _ => none
 | k + 1, x9, rn, Nd, tq, Ik, Mh, nv, km => if Mh < (x9.length : Int) then (if 0 ≤ Mh then ((fQ.f k ((cG x9 Mh).f0)).bind fun SI => (if SI.2 = true then ((cP.f k SI.1 nv).bind fun SJ => (if SJ = true then (aw.l0 k x9 rn Nd tq Ik (wrap64 (Mh + 1)) nv km) else (some false))) else (some false))) else (none)) else (aw.l1 k rn Nd tq Ik 0 km)
noncomputable def aw.l1 : Nat → Int → List (cT) → List (cT) → Bool → Int → List Int → Option (Bool)
 | 0, _, _, _, _, _, _ => none
 | k + 1, rn, Nd, tq, Ik, x24, km => if x24 < (Nd.length : Int) then (if 0 ≤ x24 then ((iR.f k ((cG Nd x24).f0)).bind fun BV => (if BV = rn then (aw.l1 k rn Nd tq Ik (wrap64 (x24 + 1)) km) else (some false))) else (none)) else (if Ik = true then ((iR.f k km).bind fun BW => (if (tq.length : Int) = (wrap64 (BW + 1)) then (if 0 ≤ (wrap64 ((tq.length : Int) - 1)) then (if (wrap64 ((tq.length : Int) - 1)) < (tq.length : Int) then ((cP.f k ((cG tq (wrap64 ((tq.length : Int) - 1))).f0) km).bind fun Fy => (some Fy)) else (none)) else (none)) else (some false))) else (some true))
end
noncomputable def aw.f (k : Nat) (l0 : List Int) : Option (Bool) := (oz.f l0).bind fun SK => (if SK = true then (some true) else ((iD.f k l0).bind fun cN => ((fQ.f k cN).bind fun SL => ((iu.f k cN).bind fun SM => ((gP.f k l0).bind fun cv => ((cL.f k cv).bind fun pP => ((br.f k cv).bind fun SN => ((gQ.f k l0).bind fun jY => ((bk.f k jY).bind fun iN => ((gR.f k l0).bind fun cB => ((jr.f k l0).bind fun cq => ((eR.f k cq).bind fun ko => ((cY.f k cq).bind fun SO => (if (SL.2 != SM.2) = true then (aw.j0 k pP.1 jY iN cB ko.1 ko.2 true cv cq) else ((cP.f k SL.1 SM.1).bind fun SP => (if SP = true then (if (pP.2 != SN.2) = true then (aw.j0 k pP.1 jY iN cB ko.1 ko.2 true cv cq) else ((cm.f k pP.1 SN.1).bind fun SQ => (if SQ = true then ((aM.f k jY).bind fun KV => ((cm.f k iN KV).bind fun SR => (if SR = true then ((fR.f k cB).bind fun BX => ((gT.f k cB).bind fun BY => (if BX = BY then (if (ko.2 != SO.2) = true then (aw.j0 k pP.1 jY iN cB ko.1 ko.2 true cv cq) else ((cm.f k ko.1 SO.1).bind fun KW => (aw.j0 k pP.1 jY iN cB ko.1 ko.2 (!KW) cv cq))) else (aw.j0 k pP.1 jY iN cB ko.1 ko.2 true cv cq)))) else (aw.j0 k pP.1 jY iN cB ko.1 ko.2 true cv cq)))) else (aw.j0 k pP.1 jY iN cB ko.1 ko.2 true cv cq)))) else (aw.j0 k pP.1 jY iN cB ko.1 ko.2 true cv cq)))))))))))))))))
def aw.T17 : Bool × List (List Nat × List Nat) := (true, [([], []), ([0], [0]), ([1], [1]), ([2], [2]), ([3, 2], [2, 3]), ([2, 4], [2, 4]), ([5, 2], [5]), ([6], [6]), ([7, 6, 6], [6, 7]), ([6], [6]), ([6], [6]), ([9, 10, 6], [6, 9, 10]), ([11, 6], [6, 11]), ([8, 12, 6], [6, 8, 12]), ([6, 13], [6, 13])])
def aw.B17 : List Nat := [0, 1, 3, 7, 15, 31, 63, 127, 255, 127, 127, 1663, 3711, 8191, 16383]
theorem aw.SS : gX .any (opsOf Tryz.f3 17) = aw.T17 := by kernel_rfl
theorem aw.IY : gm aw.T17.2 aw.B17 = true := by kernel_rfl
def aw.T30 : Bool × List (List Nat × List Nat) := (true, [([], []), ([0], [0]), ([1], [1]), ([2], [2]), ([3, 2], [2, 3]), ([2], [2]), ([5, 2, 2], [2, 5]), ([6, 2], [2, 6]), ([4, 7, 2], [2, 4, 7]), ([8, 6, 2], [2, 8]), ([9], [9]), ([9], [9]), ([11, 9], [9, 11]), ([12, 9], [9, 12]), ([10, 13, 9], [9, 10, 13]), ([14, 9], [9, 14]), ([9], [9]), ([15, 16, 9, 9], [9, 15, 16]), ([9, 17, 2], [2, 9, 17]), ([2, 18], [2, 18]), ([19, 17, 0, 1, 2, 3, 4, 5, 6, 7, 8, 9, 10, 11, 12, 13, 14, 15, 16, 17, 18, 19], [19])])
def aw.B30 : List Nat := [0, 1, 3, 7, 15, 7, 39, 103, 255, 511, 1023, 1023, 3071, 7167, 16383, 32767, 1023, 131071, 262143, 524287, 1048575]
theorem aw.aaa : gX .any (opsOf Tryz.f3 30) = aw.T30 := by kernel_rfl
theorem aw.SU : gm aw.T30.2 aw.B30 = true := by kernel_rfl
theorem aw.calls (k : Nat) (A0 : Option Addr) (c0 : Nat) (l0 : List Int) (r : Bool) (w : World) (fH : Kd.C (Kd.int .u8) w A0 l0.length l0) (gL : l0.length ≤ c0) (h : aw.f k l0 = some r) (hr_ : r = true := by rfl) :
 Calls Tryz.prog 3 #[.slice A0 l0.length c0] w fun e w' => e = .returned (.bool r) ∧ Below w.heap.size w w' := by
 have hr_ := aa.mk hr_
 have kJ := Tryz.underlying26
 have eZ := aa.mk fH
 have jN := aa.mk gL
 clear fH gL
 have HB := aa.mk (Below.refl w.heap.size w)
 have H := h
 clear h
 unfold aw.f at H
 obtain ⟨SK, A2, H⟩ := eA H
 by_cases c3 : SK = true
 · subst c3
   rw [if_pos rfl] at H
   obtain rfl := Option.some.inj H
   go_enter Tryz.func3, Tryz.ntmps3
   go_wp2_with (first | ((with_reducible refine gate_callee (f := 5) rfl ?_); refine dU (some 26) Tryz.func5 #[.slice A0 l0.length c0] ?_; (with_reducible refine (oz.calls _ _ l0 true _ ?ah ?aj A2.out).mono ?_); (case ah => exact kx (eZ.out)); (case aj => exact jN.out); rintro e w' ⟨rfl, ⟨nd, rfl⟩⟩; refine ⟨_, rfl, ?_⟩))
   go_ret
   exact ⟨ig, gA HB.out⟩
 replace c3 := Bool.eq_false_iff.mpr c3
 subst c3
 rw [if_neg (show ¬ (false = true) by decide)] at H
 obtain ⟨cN, A4, H⟩ := eA H
 obtain ⟨⟨dm, Fz⟩, A5, H⟩ := eA H
 (try dsimp only at H)
 obtain ⟨⟨dt, FA⟩, A6, H⟩ := eA H
 (try dsimp only at H)
 obtain ⟨cv, A7, H⟩ := eA H
 obtain ⟨⟨kT, FB⟩, A8, H⟩ := eA H
 (try dsimp only at H)
 obtain ⟨⟨KX, FC⟩, A9, H⟩ := eA H
 (try dsimp only at H)
 obtain ⟨jY, Nc, H⟩ := eA H
 obtain ⟨iN, A11, H⟩ := eA H
 obtain ⟨cB, A12, H⟩ := eA H
 obtain ⟨cq, Wl, H⟩ := eA H
 obtain ⟨⟨jU, pq⟩, A14, H⟩ := eA H
 (try dsimp only at H)
 obtain ⟨⟨aab, FD⟩, A15, H⟩ := eA H
 (try dsimp only at H)
 have ae0 := aa.mk H
 clear H
 go_enter Tryz.func3, Tryz.ntmps3
 go_upto_region 15 with (first | ((with_reducible refine gate_callee (f := 5) rfl ?_); refine dU (some 26) Tryz.func5 #[.slice A0 l0.length c0] ?_; (with_reducible refine (oz.calls _ _ l0 false _ ?ah ?aj A2.out).mono ?_); (case ah => exact kx (eZ.out)); (case aj => exact jN.out); rintro e w' ⟨rfl, ⟨nd, rfl⟩⟩; refine ⟨_, rfl, ?_⟩) | ((with_reducible refine gate_callee (f := 6) rfl ?_); refine dU (some 28) Tryz.func6 #[.slice A0 l0.length c0] ?_; (with_reducible refine (iD.calls k _ _ l0 cN _ ?ah ?aj A4.out).mono ?_); (case ah => exact kx (eZ.out)); (case aj => exact jN.out); rintro e LN ⟨ayh, rfl, b0, hb⟩; refine ⟨_, rfl, ?_⟩; have cX := aa.mk (Kd.oX b0 (ag (gA HB.out))); replace HB := jL HB hb; (try clear hb); (try clear b0)) | ((with_reducible refine gate_dst (N := 3) rfl ?_); (try (refine gate_guard (by rfl) ?_; dsimp only)); refine iP 3 #[.slice none 0 0] 26 ?_; intro e5 hg Ut hbox hb; replace cX := aa.mk (Kd.bt (fS cX.out) hb); have aK := aa.mk (hbox); have atP := ij hg HB; have atQ := ij hg HB; replace HB := jL HB hb; clear hb hbox hg; obtain ⟨eT, eI, LR, _⟩ := Kd.la cX.out; subst LR; have Dg := fG aK; have Dh := af aK.out 0) | ((with_reducible refine gate_callee (f := 7) rfl ?_); refine dU (some 31) Tryz.func7 #[.agg #[.slice eT cN.length eI]] ?_; (with_reducible refine (fQ.calls k _ _ cN dm Fz _ ?ah ?aj A5.out).mono ?_); (case ah => refine (Kd.eU (e := 3) (base := w.heap.size) (ok := fun k_ => True) (n := cN.length) (c := eI) ?_).2.2; exact (qB cX aK)); (case aj => exact (Kd.eU cX.out).2.1); rintro e TK ⟨ayi, rfl, b0, hb⟩; refine ⟨_, rfl, ?_⟩; have dD := aa.mk (Kd.aW (Kd.eV b0 (Kd.lH (qB cX aK))) (ag (bC HB))); replace cX := aa.mk (Kd.iY (qB cX aK) (Kd.cV b0) hb); replace aK := aa.mk (bW (g := e5) (o := .cells #[.slice eT cN.length eI] 26 (0, 0)) (mz aK) hb); replace HB := eM HB hb; (try clear hb); (try clear b0)) | ((with_reducible refine gate_dst (N := 4) rfl ?_); (try (refine gate_guard (by rfl) ?_; dsimp only)); refine iP 4 #[.slice none 0 0] 26 ?_; intro fh hg DT hbox hb; replace cX := aa.mk (Kd.bt (fS cX.out) hb); replace dD := aa.mk (Kd.aY (b9 dD.out) hb); have aQ := aa.mk (hbox); have atS := kW hg (bC HB); have atT := kW hg (bC HB); replace HB := eM HB hb; have xe := mw hg aK; have xf := my hg aK; replace aK := cn aK hb; clear hb hbox hg; obtain ⟨eG, eH, Qu⟩ := Kd.aN dD.out; subst Qu; have Y9 := xf.out; have Y_ := xe.out; have xX := fG aQ; have xY := af aQ.out 0; have KA := fG aK; have KB := af aK.out 0) | ((with_reducible refine gate_callee (f := 8) rfl ?_); refine dU (some 36) Tryz.func8 #[.agg #[.slice eT cN.length eI]] ?_; (with_reducible refine (iu.calls k _ _ cN dt FA _ ?ah ?aj A6.out).mono ?_); (case ah => refine (Kd.eU (e := 3) (base := w.heap.size) (ok := fun k_ => (True ∧ some k_ ≠ (.slice eG dm.length eH : Value).ownBlock)) (n := cN.length) (c := eI) ?_).2.2; exact (qB cX aQ)); (case aj => exact (Kd.eU cX.out).2.1); rintro e TL ⟨ayj, rfl, b0, hb⟩; refine ⟨_, rfl, ?_⟩; have dR := aa.mk (Kd.aW (Kd.eV (Kd.eV b0 (Kd.lH (qB cX aQ))) (Kd.gy (nh dD aQ))) (ag (bC HB))); replace cX := aa.mk (Kd.iY (qB cX aQ) (Kd.cV b0) hb); replace dD := aa.mk (Kd.dZ (nh dD aQ) (Kd.cV b0) hb); replace aK := aa.mk (bW (g := e5) (o := .cells #[.slice eT cN.length eI] 26 (0, 0)) (pB aK) hb); replace aQ := aa.mk (bW (g := fh) (o := .cells #[.slice eG dm.length eH] 26 (0, 0)) (mz aQ) hb); replace HB := eM HB hb; (try clear hb); (try clear b0)) | ((with_reducible refine gate_dst (N := 6) rfl ?_); (try (refine gate_guard (by rfl) ?_; dsimp only)); refine iP 6 #[.slice none 0 0] 26 ?_; intro fq hg Pe hbox hb; replace cX := aa.mk (Kd.bt (fS cX.out) hb); replace dD := aa.mk (Kd.aY (b9 dD.out) hb); replace dR := aa.mk (Kd.aY (b9 dR.out) hb); have aT := aa.mk (hbox); have atU := kW hg (bC HB); have atV := kW hg (bC HB); replace HB := eM HB hb; have xg := mw hg aK; have xh := my hg aK; replace aK := cn aK hb; have xi := mw hg aQ; have xj := my hg aQ; replace aQ := cn aQ hb; clear hb hbox hg; obtain ⟨fm, fo, QZ⟩ := Kd.aN dR.out; subst QZ; have ayk := xh.out; have ayl := xg.out; have aym := xj.out; have ayn := xi.out; have Dc := fG aT; have Dd := af aT.out 0) | ((with_reducible refine gate_callee (f := 9) rfl ?_); refine dU (some 40) Tryz.func9 #[.slice A0 l0.length c0] ?_; (with_reducible refine (gP.calls k _ _ l0 cv _ ?ah ?aj A7.out).mono ?_); (case ah => exact Kd.dx eZ.out (bC HB)); (case aj => exact jN.out); rintro e XO ⟨ayo, rfl, b0, hb⟩; refine ⟨_, rfl, ?_⟩; have ec := aa.mk (Kd.oX (Kd.rz (Kd.rz (Kd.rz b0 (Kd.lH (qB cX aT))) (Kd.gy (nh dD aT))) (Kd.gy (nh dR aT))) (ag (bC HB))); replace cX := aa.mk (Kd.iY (qB cX aT) (Kd.oo b0) hb); replace dD := aa.mk (Kd.dZ (nh dD aT) (Kd.oo b0) hb); replace dR := aa.mk (Kd.dZ (nh dR aT) (Kd.oo b0) hb); replace aK := aa.mk (bW (g := e5) (o := .cells #[.slice eT cN.length eI] 26 (0, 0)) (pB aK) hb); replace aQ := aa.mk (bW (g := fh) (o := .cells #[.slice eG dm.length eH] 26 (0, 0)) (pB aQ) hb); replace aT := aa.mk (bW (g := fq) (o := .cells #[.slice fm dt.length fo] 26 (0, 0)) (mz aT) hb); replace HB := eM HB hb; (try clear hb); (try clear b0)) | ((with_reducible refine gate_dst (N := 8) rfl ?_); (try (refine gate_guard (by rfl) ?_; dsimp only)); refine iP 8 #[.slice none 0 0] 26 ?_; intro fz hg PX hbox hb; replace cX := aa.mk (Kd.bt (fS cX.out) hb); replace dD := aa.mk (Kd.aY (b9 dD.out) hb); replace dR := aa.mk (Kd.aY (b9 dR.out) hb); replace ec := aa.mk (Kd.bt (fS ec.out) hb); have aV := aa.mk (hbox); have atW := kW hg (bC HB); have atX := kW hg (bC HB); replace HB := eM HB hb; have xk := mw hg aK; have xl := my hg aK; replace aK := cn aK hb; have so := mw hg aQ; have sq := my hg aQ; replace aQ := cn aQ hb; have sr := mw hg aT; have sw := my hg aT; replace aT := cn aT hb; clear hb hbox hg; obtain ⟨fp, fg, V1, _⟩ := Kd.la ec.out; subst V1; have ayp := xl.out; have ayq := xk.out; have ayr := sq.out; have ays := so.out; have aiE := sw.out; have aiF := sr.out; have CT := fG aV; have CU := af aV.out 0) | ((with_reducible refine gate_callee (f := 10) rfl ?_); refine dU (some 43) Tryz.func10 #[.agg #[.slice fp cv.length fg]] ?_; (with_reducible refine (cL.calls k _ _ cv kT FB _ ?ah ?aj A8.out).mono ?_); (case ah => refine (Kd.eU (e := 3) (base := w.heap.size) (ok := fun k_ => (((True ∧ some k_ ≠ (.slice eT cN.length eI : Value).ownBlock) ∧ some k_ ≠ (.slice eG dm.length eH : Value).ownBlock) ∧ some k_ ≠ (.slice fm dt.length fo : Value).ownBlock)) (n := cv.length) (c := fg) ?_).2.2; exact (qB ec aV)); (case aj => exact (Kd.eU ec.out).2.1); rintro e w40 ⟨mm, rfl, b0, hb⟩; refine ⟨_, rfl, ?_⟩; have dN := aa.mk (Kd.im (Kd.bU (ok' := fun k_ => some k_ ≠ (.slice eT cN.length eI : Value).ownBlock ∧ some k_ ≠ (.slice eG dm.length eH : Value).ownBlock ∧ some k_ ≠ (.slice fm dt.length fo : Value).ownBlock ∧ some k_ ≠ (.slice fp cv.length fg : Value).ownBlock ∧ k_ ≠ e5 ∧ k_ ≠ fh ∧ k_ ≠ fq ∧ k_ ≠ fz) (Kd.NG (Kd.qG b0)) (fun k_ hk_ => ⟨(Kd.cM (Kd.lH (qB cX aV)) k_ hk_.2.1), (Kd.cM (Kd.gy (nh dD aV)) k_ hk_.2.1), (Kd.cM (Kd.gy (nh dR aV)) k_ hk_.2.1), (Kd.cM (Kd.lH (qB ec aV)) k_ hk_.2.1), (Kd.dX (g := e5) (o := .cells #[.slice eT cN.length eI] 26 (0, 0)) (pB aK) k_ hk_.2.1), (Kd.dX (g := fh) (o := .cells #[.slice eG dm.length eH] 26 (0, 0)) (pB aQ) k_ hk_.2.1), (Kd.dX (g := fq) (o := .cells #[.slice fm dt.length fo] 26 (0, 0)) (pB aT) k_ hk_.2.1), (Kd.dX (g := fz) (o := .cells #[.slice fp cv.length fg] 26 (0, 0)) (mz aV) k_ hk_.2.1)⟩)) (ag (bC HB))); replace cX := aa.mk (Kd.bt (qB cX aV) hb); replace dD := aa.mk (Kd.aY (nh dD aV) hb); replace dR := aa.mk (Kd.aY (nh dR aV) hb); replace ec := aa.mk (Kd.bt (qB ec aV) hb); replace aK := aa.mk (bW (g := e5) (o := .cells #[.slice eT cN.length eI] 26 (0, 0)) (pB aK) hb); replace aQ := aa.mk (bW (g := fh) (o := .cells #[.slice eG dm.length eH] 26 (0, 0)) (pB aQ) hb); replace aT := aa.mk (bW (g := fq) (o := .cells #[.slice fm dt.length fo] 26 (0, 0)) (pB aT) hb); replace aV := aa.mk (bW (g := fz) (o := .cells #[.slice fp cv.length fg] 26 (0, 0)) (mz aV) hb); replace HB := eM HB hb; (try clear hb); (try clear b0); have C6 := fG aV; have C7 := af aV.out 0) | ((with_reducible refine gate_callee (f := 11) rfl ?_); refine dU (some 48) Tryz.func11 #[.agg #[.slice fp cv.length fg]] ?_; (with_reducible refine (br.calls k _ _ cv KX FC _ ?ah ?aj A9.out).mono ?_); (case ah => exact kx ((Kd.eU ec.out).2.2)); (case aj => exact (Kd.eU ec.out).2.1); rintro e Yi ⟨BZ, rfl, b0, hb⟩; refine ⟨_, rfl, ?_⟩; have dY := aa.mk (Kd.im (Kd.bU (ok' := fun k_ => some k_ ≠ (.slice eT cN.length eI : Value).ownBlock ∧ some k_ ≠ (.slice eG dm.length eH : Value).ownBlock ∧ some k_ ≠ (.slice fm dt.length fo : Value).ownBlock ∧ some k_ ≠ (.slice fp cv.length fg : Value).ownBlock ∧ some k_ ≠ (mm : Value).ownBlock ∧ k_ ≠ e5 ∧ k_ ≠ fh ∧ k_ ≠ fq ∧ k_ ≠ fz) (Kd.NG (Kd.qG b0)) (fun k_ hk_ => ⟨(Kd.cM (Kd.lH (fS cX.out)) k_ hk_.2.1), (Kd.cM (Kd.gy (b9 dD.out)) k_ hk_.2.1), (Kd.cM (Kd.gy (b9 dR.out)) k_ hk_.2.1), (Kd.cM (Kd.lH (fS ec.out)) k_ hk_.2.1), (Kd.cM (Kd.lM (d_ dN.out)) k_ hk_.2.1), (Kd.dX (g := e5) (o := .cells #[.slice eT cN.length eI] 26 (0, 0)) (cC aK.out) k_ hk_.2.1), (Kd.dX (g := fh) (o := .cells #[.slice eG dm.length eH] 26 (0, 0)) (cC aQ.out) k_ hk_.2.1), (Kd.dX (g := fq) (o := .cells #[.slice fm dt.length fo] 26 (0, 0)) (cC aT.out) k_ hk_.2.1), (Kd.dX (g := fz) (o := .cells #[.slice fp cv.length fg] 26 (0, 0)) (cC aV.out) k_ hk_.2.1)⟩)) (ag (bC HB))); replace cX := aa.mk (Kd.bt (fS cX.out) hb); replace dD := aa.mk (Kd.aY (b9 dD.out) hb); replace dR := aa.mk (Kd.aY (b9 dR.out) hb); replace ec := aa.mk (Kd.bt (fS ec.out) hb); replace dN := aa.mk (Kd.dP (d_ dN.out) (Kd.hU (Kd.NG b0)) hb); replace aK := cn aK hb; replace aQ := cn aQ hb; replace aT := cn aT hb; replace aV := cn aV hb; replace HB := eM HB hb; (try clear hb); (try clear b0)) | ((with_reducible refine gate_callee (f := 12) rfl ?_); refine dU (some 52) Tryz.func12 #[.slice A0 l0.length c0] ?_; (with_reducible refine (gQ.calls k _ _ l0 jY _ ?ah ?aj Nc.out).mono ?_); (case ah => exact iZ eZ HB); (case aj => exact jN.out); rintro e w43 ⟨rfl, hb⟩; refine ⟨_, rfl, ?_⟩; replace cX := aa.mk (Kd.bt (fS cX.out) hb); replace dD := aa.mk (Kd.aY (b9 dD.out) hb); replace dR := aa.mk (Kd.aY (b9 dR.out) hb); replace ec := aa.mk (Kd.bt (fS ec.out) hb); replace dN := aa.mk (Kd.bM (d_ dN.out) hb); replace dY := aa.mk (Kd.bM (d_ dY.out) hb); replace aK := cn aK hb; replace aQ := cn aQ hb; replace aT := cn aT hb; replace aV := cn aV hb; replace HB := eM HB hb; (try clear hb)) | ((with_reducible refine gate_callee (f := 13) rfl ?_); refine dU (some 54) Tryz.func13 #[.int .i64 jY] ?_; (with_reducible refine (bk.calls k jY iN _ A11.out).mono ?_); rintro e w44 ⟨lE, rfl, b0, hb⟩; refine ⟨_, rfl, ?_⟩; have et := aa.mk (Kd.im (Kd.bU (ok' := fun k_ => some k_ ≠ (.slice eT cN.length eI : Value).ownBlock ∧ some k_ ≠ (.slice eG dm.length eH : Value).ownBlock ∧ some k_ ≠ (.slice fm dt.length fo : Value).ownBlock ∧ some k_ ≠ (.slice fp cv.length fg : Value).ownBlock ∧ some k_ ≠ (mm : Value).ownBlock ∧ some k_ ≠ (BZ : Value).ownBlock ∧ k_ ≠ e5 ∧ k_ ≠ fh ∧ k_ ≠ fq ∧ k_ ≠ fz) b0 (fun k_ hk_ => ⟨(Kd.cM (Kd.lH (fS cX.out)) k_ hk_), (Kd.cM (Kd.gy (b9 dD.out)) k_ hk_), (Kd.cM (Kd.gy (b9 dR.out)) k_ hk_), (Kd.cM (Kd.lH (fS ec.out)) k_ hk_), (Kd.cM (Kd.lM (d_ dN.out)) k_ hk_), (Kd.cM (Kd.lM (d_ dY.out)) k_ hk_), (Kd.dX (g := e5) (o := .cells #[.slice eT cN.length eI] 26 (0, 0)) (cC aK.out) k_ hk_), (Kd.dX (g := fh) (o := .cells #[.slice eG dm.length eH] 26 (0, 0)) (cC aQ.out) k_ hk_), (Kd.dX (g := fq) (o := .cells #[.slice fm dt.length fo] 26 (0, 0)) (cC aT.out) k_ hk_), (Kd.dX (g := fz) (o := .cells #[.slice fp cv.length fg] 26 (0, 0)) (cC aV.out) k_ hk_)⟩)) (ag (bC HB))); replace cX := aa.mk (Kd.bt (fS cX.out) hb); replace dD := aa.mk (Kd.aY (b9 dD.out) hb); replace dR := aa.mk (Kd.aY (b9 dR.out) hb); replace ec := aa.mk (Kd.bt (fS ec.out) hb); replace dN := aa.mk (Kd.dP (d_ dN.out) (Kd.hU b0) hb); replace dY := aa.mk (Kd.dP (d_ dY.out) (Kd.hU b0) hb); replace aK := cn aK hb; replace aQ := cn aQ hb; replace aT := cn aT hb; replace aV := cn aV hb; replace HB := eM HB hb; (try clear hb); (try clear b0)) | ((with_reducible refine gate_callee (f := 14) rfl ?_); refine dU (some 56) Tryz.func14 #[.slice A0 l0.length c0] ?_; (with_reducible refine (gR.calls k _ _ l0 cB _ ?ah ?aj A12.out).mono ?_); (case ah => exact iZ eZ HB); (case aj => exact jN.out); rintro e w45 ⟨rfl, hb⟩; refine ⟨_, rfl, ?_⟩; replace cX := aa.mk (Kd.bt (fS cX.out) hb); replace dD := aa.mk (Kd.aY (b9 dD.out) hb); replace dR := aa.mk (Kd.aY (b9 dR.out) hb); replace ec := aa.mk (Kd.bt (fS ec.out) hb); replace dN := aa.mk (Kd.bM (d_ dN.out) hb); replace dY := aa.mk (Kd.bM (d_ dY.out) hb); replace et := aa.mk (Kd.bM (d_ et.out) hb); replace aK := cn aK hb; replace aQ := cn aQ hb; replace aT := cn aT hb; replace aV := cn aV hb; replace HB := eM HB hb; (try clear hb)) | ((with_reducible refine gate_callee (f := 15) rfl ?_); refine dU (some 58) Tryz.func15 #[.slice A0 l0.length c0] ?_; (with_reducible refine (jr.calls k _ _ l0 cq _ ?ah ?aj Wl.out).mono ?_); (case ah => exact iZ eZ HB); (case aj => exact jN.out); rintro e w46 ⟨ayt, rfl, b0, hb⟩; refine ⟨_, rfl, ?_⟩; replace dN := aa.mk (Kd.dP (d_ dN.out) (Kd.oo b0) hb); replace dY := aa.mk (Kd.dP (d_ dY.out) (Kd.oo b0) hb); replace et := aa.mk (Kd.dP (d_ et.out) (Kd.oo b0) hb); have eP := aa.mk (Kd.oX (Kd.rz (Kd.rz (Kd.rz (Kd.rz b0 (Kd.lH (fS cX.out))) (Kd.gy (b9 dD.out))) (Kd.gy (b9 dR.out))) (Kd.lH (fS ec.out))) (ag (bC HB))); replace cX := aa.mk (Kd.iY (fS cX.out) (Kd.oo b0) hb); replace dD := aa.mk (Kd.dZ (b9 dD.out) (Kd.oo b0) hb); replace dR := aa.mk (Kd.dZ (b9 dR.out) (Kd.oo b0) hb); replace ec := aa.mk (Kd.iY (fS ec.out) (Kd.oo b0) hb); replace aK := cn aK hb; replace aQ := cn aQ hb; replace aT := cn aT hb; replace aV := cn aV hb; replace HB := eM HB hb; (try clear hb); (try clear b0)) | ((with_reducible refine gate_dst (N := 16) rfl ?_); (try (refine gate_guard (by rfl) ?_; dsimp only)); refine iP 16 #[.slice none 0 0] 26 ?_; intro ev hg w47 hbox hb; replace cX := aa.mk (Kd.bt (fS cX.out) hb); replace dD := aa.mk (Kd.aY (b9 dD.out) hb); replace dR := aa.mk (Kd.aY (b9 dR.out) hb); replace ec := aa.mk (Kd.bt (fS ec.out) hb); replace dN := aa.mk (Kd.bM (Kd.ky (d_ dN.out) ev (Nat.le_of_eq hg.symm)) hb); replace dY := aa.mk (Kd.bM (Kd.ky (d_ dY.out) ev (Nat.le_of_eq hg.symm)) hb); replace et := aa.mk (Kd.bM (Kd.ky (d_ et.out) ev (Nat.le_of_eq hg.symm)) hb); replace eP := aa.mk (Kd.bt (fS eP.out) hb); have bh := aa.mk (hbox); have atY := kW hg (bC HB); have atZ := kW hg (bC HB); replace HB := eM HB hb; have FE := mw hg aK; have FF := my hg aK; replace aK := cn aK hb; have xm := mw hg aQ; have xn := my hg aQ; replace aQ := cn aQ hb; have xo := mw hg aT; have xq := my hg aT; replace aT := cn aT hb; have xr := mw hg aV; have xt := my hg aV; replace aV := cn aV hb; clear hb hbox hg; obtain ⟨fE, fF, at0, _⟩ := Kd.la eP.out; subst at0; have ayu := FF.out; have ayv := FE.out; have YR := xn.out; have YS := xm.out; have aiu := xq.out; have aiv := xo.out; have ayw := xt.out; have ayx := xr.out; have WM := fG bh; have WN := af bh.out 0) | ((with_reducible refine gate_store (t := 26) (p := 16) rfl ?_); refine fw (t := 26) (p := 16) (v := ?at1) (w1 := (w47.setCell ⟨ev, 0, none⟩ (.slice fE cq.length fF))) ?hg ?ho ?hn ?hr ?_; (case ho => rfl); (case hg => rfl); (case hn => rfl); (case hr => first | (go_simp; done) | (go_simp; rfl)); intro HG hw; have n5 : aa (Kd.Q (Kd.int .i64) 3 HG w.heap.size (fun k_ => some k_ ≠ (.slice eG dm.length eH : Value).ownBlock ∧ some k_ ≠ (.slice fm dt.length fo : Value).ownBlock ∧ some k_ ≠ (.slice fp cv.length fg : Value).ownBlock ∧ some k_ ≠ (.slice fE cq.length fF : Value).ownBlock) (.slice eT cN.length eI) cN) := ⟨(by rw [hw]; exact (by (with_reducible repeat (first | apply Kd.gf | apply Kd.gh | apply Kd.dV)); exact Kd.fe (Kd.oY (p := ⟨ev, 0, none⟩) (Kd.bz cX.out bh.out (by decide)) (fun _ hk => hk.2) (.slice fE cq.length fF)) (fun _ hk => by first | exact ⟨hk.1.1.1.1.2, ⟨hk.1.1.1.2, ⟨hk.1.1.2, hk.1.2⟩⟩⟩ | exact pn hk)))⟩; have n9 : aa (Kd.R (Kd.int .i64) 3 HG w.heap.size (fun k_ => some k_ ≠ (.slice eT cN.length eI : Value).ownBlock ∧ some k_ ≠ (.slice fm dt.length fo : Value).ownBlock ∧ some k_ ≠ (.slice fp cv.length fg : Value).ownBlock ∧ some k_ ≠ (.slice fE cq.length fF : Value).ownBlock) (.slice eG dm.length eH) dm) := ⟨(by rw [hw]; exact (by (with_reducible repeat (first | apply Kd.bQ | apply Kd.bT | apply Kd.bR)); exact Kd.bB (Kd.iJ (p := ⟨ev, 0, none⟩) (Kd.cI dD.out bh.out (by decide)) (fun _ hk => hk.2) (.slice fE cq.length fF)) (fun _ hk => by first | exact ⟨hk.1.1.1.1.2, ⟨hk.1.1.1.2, ⟨hk.1.1.2, hk.1.2⟩⟩⟩ | exact pn hk)))⟩; have rp : aa (Kd.R (Kd.int .i64) 3 HG w.heap.size (fun k_ => some k_ ≠ (.slice eT cN.length eI : Value).ownBlock ∧ some k_ ≠ (.slice eG dm.length eH : Value).ownBlock ∧ some k_ ≠ (.slice fp cv.length fg : Value).ownBlock ∧ some k_ ≠ (.slice fE cq.length fF : Value).ownBlock) (.slice fm dt.length fo) dt) := ⟨(by rw [hw]; exact (by (with_reducible repeat (first | apply Kd.bQ | apply Kd.bT | apply Kd.bR)); exact Kd.bB (Kd.iJ (p := ⟨ev, 0, none⟩) (Kd.cI dR.out bh.out (by decide)) (fun _ hk => hk.2) (.slice fE cq.length fF)) (fun _ hk => by first | exact ⟨hk.1.1.1.1.2, ⟨hk.1.1.1.2, ⟨hk.1.1.2, hk.1.2⟩⟩⟩ | exact pn hk)))⟩; have rq : aa (Kd.Q (Kd.int .i64) 3 HG w.heap.size (fun k_ => some k_ ≠ (.slice eT cN.length eI : Value).ownBlock ∧ some k_ ≠ (.slice eG dm.length eH : Value).ownBlock ∧ some k_ ≠ (.slice fm dt.length fo : Value).ownBlock ∧ some k_ ≠ (.slice fE cq.length fF : Value).ownBlock) (.slice fp cv.length fg) cv) := ⟨(by rw [hw]; exact (by (with_reducible repeat (first | apply Kd.gf | apply Kd.gh | apply Kd.dV)); exact Kd.fe (Kd.oY (p := ⟨ev, 0, none⟩) (Kd.bz ec.out bh.out (by decide)) (fun _ hk => hk.2) (.slice fE cq.length fF)) (fun _ hk => by first | exact ⟨hk.1.1.1.1.2, ⟨hk.1.1.1.2, ⟨hk.1.1.2, hk.1.2⟩⟩⟩ | exact pn hk)))⟩; have ti : aa (Kd.N ix 26 HG w.heap.size (fun k_ => some k_ ≠ (.slice eT cN.length eI : Value).ownBlock ∧ some k_ ≠ (.slice eG dm.length eH : Value).ownBlock ∧ some k_ ≠ (.slice fm dt.length fo : Value).ownBlock ∧ some k_ ≠ (.slice fp cv.length fg : Value).ownBlock ∧ some k_ ≠ (BZ : Value).ownBlock ∧ some k_ ≠ (lE : Value).ownBlock ∧ some k_ ≠ (.slice fE cq.length fF : Value).ownBlock ∧ k_ ≠ e5 ∧ k_ ≠ fh ∧ k_ ≠ fq ∧ k_ ≠ fz ∧ k_ ≠ ev) mm kT) := ⟨(by rw [hw]; exact (d_ (Kd.bU (Kd.q8 (p := ⟨ev, 0, none⟩) (Kd.bU dN.out (fun k_ hk => (⟨hk, hk.2⟩ : _ ∧ k_ ≠ ev))) (fun _ hk => hk.2) (.slice fE cq.length fF)) (fun _ hk => by first | exact ⟨hk.1.1.1.1.1.1, ⟨hk.1.1.1.1.1.2.1, ⟨hk.1.1.1.1.1.2.2.1, ⟨hk.1.1.1.1.1.2.2.2.1, ⟨hk.1.1.1.1.2, ⟨hk.1.1.1.2, ⟨hk.1.1.2, ⟨hk.1.1.1.1.1.2.2.2.2.1, ⟨hk.1.1.1.1.1.2.2.2.2.2.1, ⟨hk.1.1.1.1.1.2.2.2.2.2.2.1, ⟨hk.1.1.1.1.1.2.2.2.2.2.2.2, hk.1.2⟩⟩⟩⟩⟩⟩⟩⟩⟩⟩⟩ | exact pn hk))))⟩; have zH : aa (Kd.N ix 26 HG w.heap.size (fun k_ => some k_ ≠ (.slice eT cN.length eI : Value).ownBlock ∧ some k_ ≠ (.slice eG dm.length eH : Value).ownBlock ∧ some k_ ≠ (.slice fm dt.length fo : Value).ownBlock ∧ some k_ ≠ (.slice fp cv.length fg : Value).ownBlock ∧ some k_ ≠ (mm : Value).ownBlock ∧ some k_ ≠ (lE : Value).ownBlock ∧ some k_ ≠ (.slice fE cq.length fF : Value).ownBlock ∧ k_ ≠ e5 ∧ k_ ≠ fh ∧ k_ ≠ fq ∧ k_ ≠ fz ∧ k_ ≠ ev) BZ KX) := ⟨(by rw [hw]; exact (d_ (Kd.bU (Kd.q8 (p := ⟨ev, 0, none⟩) (Kd.bU dY.out (fun k_ hk => (⟨hk, hk.2⟩ : _ ∧ k_ ≠ ev))) (fun _ hk => hk.2) (.slice fE cq.length fF)) (fun _ hk => by first | exact ⟨hk.1.1.1.1.1, ⟨hk.1.1.1.1.2.1, ⟨hk.1.1.1.1.2.2.1, ⟨hk.1.1.1.1.2.2.2.1, ⟨hk.1.1.1.1.2.2.2.2.1, ⟨hk.1.1.1.2, ⟨hk.1.1.2, ⟨hk.1.1.1.1.2.2.2.2.2.1, ⟨hk.1.1.1.1.2.2.2.2.2.2.1, ⟨hk.1.1.1.1.2.2.2.2.2.2.2.1, ⟨hk.1.1.1.1.2.2.2.2.2.2.2.2, hk.1.2⟩⟩⟩⟩⟩⟩⟩⟩⟩⟩⟩ | exact pn hk))))⟩; have BH : aa (Kd.N ix 26 HG w.heap.size (fun k_ => some k_ ≠ (.slice eT cN.length eI : Value).ownBlock ∧ some k_ ≠ (.slice eG dm.length eH : Value).ownBlock ∧ some k_ ≠ (.slice fm dt.length fo : Value).ownBlock ∧ some k_ ≠ (.slice fp cv.length fg : Value).ownBlock ∧ some k_ ≠ (mm : Value).ownBlock ∧ some k_ ≠ (BZ : Value).ownBlock ∧ some k_ ≠ (.slice fE cq.length fF : Value).ownBlock ∧ k_ ≠ e5 ∧ k_ ≠ fh ∧ k_ ≠ fq ∧ k_ ≠ fz ∧ k_ ≠ ev) lE iN) := ⟨(by rw [hw]; exact (d_ (Kd.bU (Kd.q8 (p := ⟨ev, 0, none⟩) (Kd.bU et.out (fun k_ hk => (⟨hk, hk.2⟩ : _ ∧ k_ ≠ ev))) (fun _ hk => hk.2) (.slice fE cq.length fF)) (fun _ hk => by first | exact ⟨hk.1.1.1.1, ⟨hk.1.1.1.2.1, ⟨hk.1.1.1.2.2.1, ⟨hk.1.1.1.2.2.2.1, ⟨hk.1.1.1.2.2.2.2.1, ⟨hk.1.1.1.2.2.2.2.2.1, ⟨hk.1.1.2, ⟨hk.1.1.1.2.2.2.2.2.2.1, ⟨hk.1.1.1.2.2.2.2.2.2.2.1, ⟨hk.1.1.1.2.2.2.2.2.2.2.2.1, ⟨hk.1.1.1.2.2.2.2.2.2.2.2.2, hk.1.2⟩⟩⟩⟩⟩⟩⟩⟩⟩⟩⟩ | exact pn hk))))⟩; have Ko : aa (Kd.Q (Kd.int .i64) 3 HG w.heap.size (fun k_ => some k_ ≠ (.slice eT cN.length eI : Value).ownBlock ∧ some k_ ≠ (.slice eG dm.length eH : Value).ownBlock ∧ some k_ ≠ (.slice fm dt.length fo : Value).ownBlock ∧ some k_ ≠ (.slice fp cv.length fg : Value).ownBlock) (.slice fE cq.length fF) cq) := ⟨(by rw [hw]; exact (by (with_reducible repeat (first | apply Kd.gf | apply Kd.gh | apply Kd.dV)); exact Kd.fe (Kd.oY (p := ⟨ev, 0, none⟩) (Kd.bz eP.out bh.out (by decide)) (fun _ hk => hk.2) (.slice fE cq.length fF)) (fun _ hk => by first | exact ⟨hk.1.1.1.1.2, ⟨hk.1.1.1.2, ⟨hk.1.1.2, hk.1.2⟩⟩⟩ | exact pn hk)))⟩; have Kp : aa (HG.heap[e5]? = some (.cells #[.slice eT cN.length eI] 26 (0, 0))) := ⟨(by rw [hw]; exact (pB aK))⟩; have n9_ : aa (HG.heap[fh]? = some (.cells #[.slice eG dm.length eH] 26 (0, 0))) := ⟨(by rw [hw]; exact (pB aQ))⟩; have FH : aa (HG.heap[fq]? = some (.cells #[.slice fm dt.length fo] 26 (0, 0))) := ⟨(by rw [hw]; exact (pB aT))⟩; have FI : aa (HG.heap[fz]? = some (.cells #[.slice fp cv.length fg] 26 (0, 0))) := ⟨(by rw [hw]; exact (pB aV))⟩; have FJ : aa (HG.heap[ev]? = some (.cells #[.slice fE cq.length fF] 26 (0, 0))) := ⟨(by rw [hw]; exact (mz bh))⟩; have SV : aa (Below w.heap.size w HG) := ⟨(by rw [hw]; exact (bC HB))⟩; clear hw; clear cX; clear dD; clear dR; clear ec; clear dN; clear dY; clear et; clear eP; clear aK; clear aQ; clear aT; clear aV; clear bh; clear HB; have cX := n5; have dD := n9; have dR := rp; have ec := rq; have dN := ti; have dY := zH; have et := BH; have eP := Ko; have aK := Kp; have aQ := n9_; have aT := FH; have aV := FI; have bh := FJ; have HB := SV; clear n5 n9 rp rq ti zH BH Ko Kp n9_ FH FI FJ SV; have WO := fG bh; have WQ := af bh.out 0) | ((with_reducible refine gate_callee (f := 16) rfl ?_); refine dU (some 61) Tryz.func16 #[.agg #[.slice fE cq.length fF]] ?_; (with_reducible refine (eR.calls k (fun k_ => some k_ = (.slice fE cq.length fF : Value).ownBlock) _ _ cq jU pq _ ?ah A14.out).mono ?_); (case ah => exact Kd.Q_V (Kd.Uj rfl (Kd.bz (Kd.bz (Kd.bz (Kd.bz (Kd.bz (Kd.dz (Kd.dz (Kd.dz (eP.out) (Kd.dF dN.out) (by decide)) (Kd.dF dY.out) (by decide)) (Kd.dF et.out) (by decide)) aK.out (by decide)) aQ.out (by decide)) aT.out (by decide)) aV.out (by decide)) bh.out (by decide)))); rintro e w56 ⟨nN, rfl, b0, hb⟩; refine ⟨_, rfl, ?_⟩; have jn := aa.mk (Kd.im (Kd.bU (ok' := fun k_ => some k_ ≠ (.slice eT cN.length eI : Value).ownBlock ∧ some k_ ≠ (.slice eG dm.length eH : Value).ownBlock ∧ some k_ ≠ (.slice fm dt.length fo : Value).ownBlock ∧ some k_ ≠ (.slice fp cv.length fg : Value).ownBlock ∧ some k_ ≠ (mm : Value).ownBlock ∧ some k_ ≠ (BZ : Value).ownBlock ∧ some k_ ≠ (lE : Value).ownBlock ∧ k_ ≠ e5 ∧ k_ ≠ fh ∧ k_ ≠ fq ∧ k_ ≠ fz ∧ k_ ≠ ev) b0 (fun k_ hk_ => ⟨Or.elim hk_ (fun hs_ => ((Kd.bz (Kd.bz (Kd.bz (Kd.bz (Kd.bz (Kd.dz (Kd.dz (Kd.dz (eP.out) (Kd.dF dN.out) (by decide)) (Kd.dF dY.out) (by decide)) (Kd.dF et.out) (by decide)) aK.out (by decide)) aQ.out (by decide)) aT.out (by decide)) aV.out (by decide)) bh.out (by decide)).1 k_ hs_.symm).1.1.1.1.1.1.1.1.1) (fun hn_ => (Kd.cM (Kd.lH (fS cX.out)) k_ hn_)), Or.elim hk_ (fun hs_ => ((Kd.bz (Kd.bz (Kd.bz (Kd.bz (Kd.bz (Kd.dz (Kd.dz (Kd.dz (eP.out) (Kd.dF dN.out) (by decide)) (Kd.dF dY.out) (by decide)) (Kd.dF et.out) (by decide)) aK.out (by decide)) aQ.out (by decide)) aT.out (by decide)) aV.out (by decide)) bh.out (by decide)).1 k_ hs_.symm).1.1.1.1.1.1.1.1.2.1) (fun hn_ => (Kd.cM (Kd.gy (b9 dD.out)) k_ hn_)), Or.elim hk_ (fun hs_ => ((Kd.bz (Kd.bz (Kd.bz (Kd.bz (Kd.bz (Kd.dz (Kd.dz (Kd.dz (eP.out) (Kd.dF dN.out) (by decide)) (Kd.dF dY.out) (by decide)) (Kd.dF et.out) (by decide)) aK.out (by decide)) aQ.out (by decide)) aT.out (by decide)) aV.out (by decide)) bh.out (by decide)).1 k_ hs_.symm).1.1.1.1.1.1.1.1.2.2.1) (fun hn_ => (Kd.cM (Kd.gy (b9 dR.out)) k_ hn_)), Or.elim hk_ (fun hs_ => ((Kd.bz (Kd.bz (Kd.bz (Kd.bz (Kd.bz (Kd.dz (Kd.dz (Kd.dz (eP.out) (Kd.dF dN.out) (by decide)) (Kd.dF dY.out) (by decide)) (Kd.dF et.out) (by decide)) aK.out (by decide)) aQ.out (by decide)) aT.out (by decide)) aV.out (by decide)) bh.out (by decide)).1 k_ hs_.symm).1.1.1.1.1.1.1.1.2.2.2) (fun hn_ => (Kd.cM (Kd.lH (fS ec.out)) k_ hn_)), Or.elim hk_ (fun hs_ => ((Kd.bz (Kd.bz (Kd.bz (Kd.bz (Kd.bz (Kd.dz (Kd.dz (Kd.dz (eP.out) (Kd.dF dN.out) (by decide)) (Kd.dF dY.out) (by decide)) (Kd.dF et.out) (by decide)) aK.out (by decide)) aQ.out (by decide)) aT.out (by decide)) aV.out (by decide)) bh.out (by decide)).1 k_ hs_.symm).1.1.1.1.1.1.1.2) (fun hn_ => (Kd.cM (Kd.lM (d_ dN.out)) k_ hn_)), Or.elim hk_ (fun hs_ => ((Kd.bz (Kd.bz (Kd.bz (Kd.bz (Kd.bz (Kd.dz (Kd.dz (Kd.dz (eP.out) (Kd.dF dN.out) (by decide)) (Kd.dF dY.out) (by decide)) (Kd.dF et.out) (by decide)) aK.out (by decide)) aQ.out (by decide)) aT.out (by decide)) aV.out (by decide)) bh.out (by decide)).1 k_ hs_.symm).1.1.1.1.1.1.2) (fun hn_ => (Kd.cM (Kd.lM (d_ dY.out)) k_ hn_)), Or.elim hk_ (fun hs_ => ((Kd.bz (Kd.bz (Kd.bz (Kd.bz (Kd.bz (Kd.dz (Kd.dz (Kd.dz (eP.out) (Kd.dF dN.out) (by decide)) (Kd.dF dY.out) (by decide)) (Kd.dF et.out) (by decide)) aK.out (by decide)) aQ.out (by decide)) aT.out (by decide)) aV.out (by decide)) bh.out (by decide)).1 k_ hs_.symm).1.1.1.1.1.2) (fun hn_ => (Kd.cM (Kd.lM (d_ et.out)) k_ hn_)), Or.elim hk_ (fun hs_ => ((Kd.bz (Kd.bz (Kd.bz (Kd.bz (Kd.bz (Kd.dz (Kd.dz (Kd.dz (eP.out) (Kd.dF dN.out) (by decide)) (Kd.dF dY.out) (by decide)) (Kd.dF et.out) (by decide)) aK.out (by decide)) aQ.out (by decide)) aT.out (by decide)) aV.out (by decide)) bh.out (by decide)).1 k_ hs_.symm).1.1.1.1.2) (fun hn_ => (Kd.dX (g := e5) (o := .cells #[.slice eT cN.length eI] 26 (0, 0)) (cC aK.out) k_ hn_)), Or.elim hk_ (fun hs_ => ((Kd.bz (Kd.bz (Kd.bz (Kd.bz (Kd.bz (Kd.dz (Kd.dz (Kd.dz (eP.out) (Kd.dF dN.out) (by decide)) (Kd.dF dY.out) (by decide)) (Kd.dF et.out) (by decide)) aK.out (by decide)) aQ.out (by decide)) aT.out (by decide)) aV.out (by decide)) bh.out (by decide)).1 k_ hs_.symm).1.1.1.2) (fun hn_ => (Kd.dX (g := fh) (o := .cells #[.slice eG dm.length eH] 26 (0, 0)) (cC aQ.out) k_ hn_)), Or.elim hk_ (fun hs_ => ((Kd.bz (Kd.bz (Kd.bz (Kd.bz (Kd.bz (Kd.dz (Kd.dz (Kd.dz (eP.out) (Kd.dF dN.out) (by decide)) (Kd.dF dY.out) (by decide)) (Kd.dF et.out) (by decide)) aK.out (by decide)) aQ.out (by decide)) aT.out (by decide)) aV.out (by decide)) bh.out (by decide)).1 k_ hs_.symm).1.1.2) (fun hn_ => (Kd.dX (g := fq) (o := .cells #[.slice fm dt.length fo] 26 (0, 0)) (cC aT.out) k_ hn_)), Or.elim hk_ (fun hs_ => ((Kd.bz (Kd.bz (Kd.bz (Kd.bz (Kd.bz (Kd.dz (Kd.dz (Kd.dz (eP.out) (Kd.dF dN.out) (by decide)) (Kd.dF dY.out) (by decide)) (Kd.dF et.out) (by decide)) aK.out (by decide)) aQ.out (by decide)) aT.out (by decide)) aV.out (by decide)) bh.out (by decide)).1 k_ hs_.symm).1.2) (fun hn_ => (Kd.dX (g := fz) (o := .cells #[.slice fp cv.length fg] 26 (0, 0)) (cC aV.out) k_ hn_)), Or.elim hk_ (fun hs_ => ((Kd.bz (Kd.bz (Kd.bz (Kd.bz (Kd.bz (Kd.dz (Kd.dz (Kd.dz (eP.out) (Kd.dF dN.out) (by decide)) (Kd.dF dY.out) (by decide)) (Kd.dF et.out) (by decide)) aK.out (by decide)) aQ.out (by decide)) aT.out (by decide)) aV.out (by decide)) bh.out (by decide)).1 k_ hs_.symm).2) (fun hn_ => (Kd.dX (g := ev) (o := .cells #[.slice fE cq.length fF] 26 (0, 0)) (cC bh.out) k_ hn_))⟩)) (ag (bC HB))); replace cX := aa.mk (Kd.bt (fS cX.out) hb); replace dD := aa.mk (Kd.aY (b9 dD.out) hb); replace dR := aa.mk (Kd.aY (b9 dR.out) hb); replace ec := aa.mk (Kd.bt (fS ec.out) hb); replace dN := aa.mk (Kd.dP (d_ dN.out) (Kd.hU b0) hb); replace dY := aa.mk (Kd.dP (d_ dY.out) (Kd.hU b0) hb); replace et := aa.mk (Kd.dP (d_ et.out) (Kd.hU b0) hb); replace eP := aa.mk (Kd.bt (fS eP.out) hb); replace aK := cn aK hb; replace aQ := cn aQ hb; replace aT := cn aT hb; replace aV := cn aV hb; replace bh := cn bh hb; replace HB := eM HB hb; (try clear hb); (try clear b0); have CV := fG bh; have CW := af bh.out 0) | ((with_reducible refine gate_callee (f := 17) rfl ?_); refine dU (some 66) Tryz.func17 #[.agg #[.slice fE cq.length fF]] ?_; (with_reducible refine (cY.calls k _ _ cq aab FD _ ?ah ?aj A15.out).mono ?_); (case ah => exact kx ((Kd.eU eP.out).2.2)); (case aj => exact (Kd.eU eP.out).2.1); rintro e w58 ⟨amK, rfl, b0, hb⟩; refine ⟨_, rfl, ?_⟩; have kr := aa.mk (Kd.im (Kd.bU (ok' := fun k_ => some k_ ≠ (.slice eT cN.length eI : Value).ownBlock ∧ some k_ ≠ (.slice eG dm.length eH : Value).ownBlock ∧ some k_ ≠ (.slice fm dt.length fo : Value).ownBlock ∧ some k_ ≠ (.slice fp cv.length fg : Value).ownBlock ∧ some k_ ≠ (mm : Value).ownBlock ∧ some k_ ≠ (BZ : Value).ownBlock ∧ some k_ ≠ (lE : Value).ownBlock ∧ some k_ ≠ (.slice fE cq.length fF : Value).ownBlock ∧ some k_ ≠ (nN : Value).ownBlock ∧ k_ ≠ e5 ∧ k_ ≠ fh ∧ k_ ≠ fq ∧ k_ ≠ fz ∧ k_ ≠ ev) b0 (fun k_ hk_ => ⟨(Kd.cM (Kd.lH (fS cX.out)) k_ hk_), (Kd.cM (Kd.gy (b9 dD.out)) k_ hk_), (Kd.cM (Kd.gy (b9 dR.out)) k_ hk_), (Kd.cM (Kd.lH (fS ec.out)) k_ hk_), (Kd.cM (Kd.lM (d_ dN.out)) k_ hk_), (Kd.cM (Kd.lM (d_ dY.out)) k_ hk_), (Kd.cM (Kd.lM (d_ et.out)) k_ hk_), (Kd.cM (Kd.lH (fS eP.out)) k_ hk_), (Kd.cM (Kd.lM (d_ jn.out)) k_ hk_), (Kd.dX (g := e5) (o := .cells #[.slice eT cN.length eI] 26 (0, 0)) (cC aK.out) k_ hk_), (Kd.dX (g := fh) (o := .cells #[.slice eG dm.length eH] 26 (0, 0)) (cC aQ.out) k_ hk_), (Kd.dX (g := fq) (o := .cells #[.slice fm dt.length fo] 26 (0, 0)) (cC aT.out) k_ hk_), (Kd.dX (g := fz) (o := .cells #[.slice fp cv.length fg] 26 (0, 0)) (cC aV.out) k_ hk_), (Kd.dX (g := ev) (o := .cells #[.slice fE cq.length fF] 26 (0, 0)) (cC bh.out) k_ hk_)⟩)) (ag (bC HB))); replace cX := aa.mk (Kd.bt (fS cX.out) hb); replace dD := aa.mk (Kd.aY (b9 dD.out) hb); replace dR := aa.mk (Kd.aY (b9 dR.out) hb); replace ec := aa.mk (Kd.bt (fS ec.out) hb); replace dN := aa.mk (Kd.dP (d_ dN.out) (Kd.hU b0) hb); replace dY := aa.mk (Kd.dP (d_ dY.out) (Kd.hU b0) hb); replace et := aa.mk (Kd.dP (d_ et.out) (Kd.hU b0) hb); replace eP := aa.mk (Kd.bt (fS eP.out) hb); replace jn := aa.mk (Kd.dP (d_ jn.out) (Kd.hU b0) hb); replace aK := cn aK hb; replace aQ := cn aQ hb; replace aT := cn aT hb; replace aV := cn aV hb; replace bh := cn bh hb; replace HB := eM HB hb; (try clear hb); (try clear b0)))
 (try simp only [Act.put, jK, jA, jB])
 go_cut [113] (fun at2 wc => ∃ (kq : Nat) (yn : Bool), at2 = .bool yn ∧ aa (aw.j0 kq kT jY iN cB jU pq yn cv cq = some r) ∧ aa (kq ≤ k) ∧ aa (Kd.N ix 26 wc w.heap.size (fun k_ => some k_ ≠ (lE : Value).ownBlock ∧ some k_ ≠ (nN : Value).ownBlock ∧ some k_ ≠ ((.slice eT cN.length eI) : Value).ownBlock ∧ some k_ ≠ ((.slice eG dm.length eH) : Value).ownBlock ∧ some k_ ≠ ((.slice fm dt.length fo) : Value).ownBlock ∧ some k_ ≠ ((.slice fp cv.length fg) : Value).ownBlock ∧ some k_ ≠ ((.slice fE cq.length fF) : Value).ownBlock ∧ k_ ≠ e5 ∧ k_ ≠ fh ∧ k_ ≠ fq ∧ k_ ≠ fz ∧ k_ ≠ ev) mm kT) ∧ aa (Kd.N ix 26 wc w.heap.size (fun k_ => some k_ ≠ (mm : Value).ownBlock ∧ some k_ ≠ (nN : Value).ownBlock ∧ some k_ ≠ ((.slice eT cN.length eI) : Value).ownBlock ∧ some k_ ≠ ((.slice eG dm.length eH) : Value).ownBlock ∧ some k_ ≠ ((.slice fm dt.length fo) : Value).ownBlock ∧ some k_ ≠ ((.slice fp cv.length fg) : Value).ownBlock ∧ some k_ ≠ ((.slice fE cq.length fF) : Value).ownBlock ∧ k_ ≠ e5 ∧ k_ ≠ fh ∧ k_ ≠ fq ∧ k_ ≠ fz ∧ k_ ≠ ev) lE iN) ∧ aa (Kd.N ix 26 wc w.heap.size (fun k_ => some k_ ≠ (mm : Value).ownBlock ∧ some k_ ≠ (lE : Value).ownBlock ∧ some k_ ≠ ((.slice eT cN.length eI) : Value).ownBlock ∧ some k_ ≠ ((.slice eG dm.length eH) : Value).ownBlock ∧ some k_ ≠ ((.slice fm dt.length fo) : Value).ownBlock ∧ some k_ ≠ ((.slice fp cv.length fg) : Value).ownBlock ∧ k_ ≠ e5 ∧ k_ ≠ fh ∧ k_ ≠ fq ∧ k_ ≠ fz ∧ k_ ≠ ev) nN jU) ∧ aa (Kd.Q (Kd.int .i64) 3 wc w.heap.size (fun k_ => some k_ ≠ ((.slice eG dm.length eH) : Value).ownBlock ∧ some k_ ≠ ((.slice fm dt.length fo) : Value).ownBlock ∧ some k_ ≠ ((.slice fp cv.length fg) : Value).ownBlock ∧ some k_ ≠ ((.slice fE cq.length fF) : Value).ownBlock) (.slice eT cN.length eI) cN) ∧ aa (Kd.Q (Kd.int .i64) 3 wc w.heap.size (fun k_ => some k_ ≠ ((.slice eT cN.length eI) : Value).ownBlock ∧ some k_ ≠ ((.slice fm dt.length fo) : Value).ownBlock ∧ some k_ ≠ ((.slice fp cv.length fg) : Value).ownBlock ∧ some k_ ≠ ((.slice fE cq.length fF) : Value).ownBlock) (.slice eG dm.length eH) dm) ∧ aa (Kd.Q (Kd.int .i64) 3 wc w.heap.size (fun k_ => some k_ ≠ ((.slice eT cN.length eI) : Value).ownBlock ∧ some k_ ≠ ((.slice eG dm.length eH) : Value).ownBlock ∧ some k_ ≠ ((.slice fp cv.length fg) : Value).ownBlock ∧ some k_ ≠ ((.slice fE cq.length fF) : Value).ownBlock) (.slice fm dt.length fo) dt) ∧ aa (Kd.Q (Kd.int .i64) 3 wc w.heap.size (fun k_ => some k_ ≠ ((.slice eT cN.length eI) : Value).ownBlock ∧ some k_ ≠ ((.slice eG dm.length eH) : Value).ownBlock ∧ some k_ ≠ ((.slice fm dt.length fo) : Value).ownBlock ∧ some k_ ≠ ((.slice fE cq.length fF) : Value).ownBlock) (.slice fp cv.length fg) cv) ∧ aa (Kd.Q (Kd.int .i64) 3 wc w.heap.size (fun k_ => some k_ ≠ ((.slice eT cN.length eI) : Value).ownBlock ∧ some k_ ≠ ((.slice eG dm.length eH) : Value).ownBlock ∧ some k_ ≠ ((.slice fm dt.length fo) : Value).ownBlock ∧ some k_ ≠ ((.slice fp cv.length fg) : Value).ownBlock) (.slice fE cq.length fF) cq) ∧ aa (wc.heap[e5]? = some (.cells #[(.slice eT cN.length eI)] 26 (0, 0))) ∧ aa (wc.heap[fh]? = some (.cells #[(.slice eG dm.length eH)] 26 (0, 0))) ∧ aa (wc.heap[fq]? = some (.cells #[(.slice fm dt.length fo)] 26 (0, 0))) ∧ aa (wc.heap[fz]? = some (.cells #[(.slice fp cv.length fg)] 26 (0, 0))) ∧ aa (wc.heap[ev]? = some (.cells #[(.slice fE cq.length fF)] 26 (0, 0))) ∧ aa (Below w.heap.size w wc))
 case first =>
  have H := ae0.out
  clear ae0
  by_cases c59 : (Fz != FA) = true
  · rw [if_pos c59] at H
    exact absurd (H.trans (congrArg some hr_.out)) (by cases k <;> simp [aw.j0])
  rw [if_neg c59] at H
  have aad : (Fz != FA) = false := by simpa using c59
  (try (have ayy : decide (Fz = FA) = true := by simpa using c59))
  (try (have ayz : (Fz == FA) = true := by simpa using c59))
  clear c59
  (first | rw [aad] | (simp only [b6, dw]; rw [aad]) | skip)
  obtain ⟨SP, A60, H⟩ := eA H
  by_cases c61 : SP = true
  rotate_left
  · replace c61 := Bool.eq_false_iff.mpr c61
    subst c61
    have H1 : (aw.j0 k kT jY iN cB jU pq true cv cq) = some r := by rw [if_neg (show ¬ (false = true) by decide)] at H; exact H
    exact absurd (H1.trans (congrArg some hr_.out)) (by cases k <;> simp [aw.j0])
  subst c61
  rw [if_pos rfl] at H
  by_cases c62 : (FB != FC) = true
  · rw [if_pos c62] at H
    exact absurd (H.trans (congrArg some hr_.out)) (by cases k <;> simp [aw.j0])
  rw [if_neg c62] at H
  have ayA : (FB != FC) = false := by simpa using c62
  (try (have ayB : decide (FB = FC) = true := by simpa using c62))
  (try (have ayC : (FB == FC) = true := by simpa using c62))
  clear c62
  obtain ⟨SQ, A73, H⟩ := eA H
  by_cases c74 : SQ = true
  rotate_left
  · replace c74 := Bool.eq_false_iff.mpr c74
    subst c74
    have H1 : (aw.j0 k kT jY iN cB jU pq true cv cq) = some r := by rw [if_neg (show ¬ (false = true) by decide)] at H; exact H
    exact absurd (H1.trans (congrArg some hr_.out)) (by cases k <;> simp [aw.j0])
  subst c74
  rw [if_pos rfl] at H
  obtain ⟨KV, A75, H⟩ := eA H
  obtain ⟨SR, A76, H⟩ := eA H
  by_cases c77 : SR = true
  rotate_left
  · replace c77 := Bool.eq_false_iff.mpr c77
    subst c77
    have H1 : (aw.j0 k kT jY iN cB jU pq true cv cq) = some r := by rw [if_neg (show ¬ (false = true) by decide)] at H; exact H
    exact absurd (H1.trans (congrArg some hr_.out)) (by cases k <;> simp [aw.j0])
  subst c77
  rw [if_pos rfl] at H
  obtain ⟨BX, A78, H⟩ := eA H
  obtain ⟨BY, A79, H⟩ := eA H
  by_cases c80 : BX = BY
  rotate_left
  · rw [if_neg c80] at H
    exact absurd (H.trans (congrArg some hr_.out)) (by cases k <;> simp [aw.j0])
  rw [if_pos c80] at H
  have ayD : (BX == BY) = true := beq_iff_eq.mpr c80
  have ayE : (BX != BY) = false := bne_eq_false_iff_eq.mpr c80
  clear c80
  by_cases c81 : (pq != FD) = true
  · rw [if_pos c81] at H
    exact absurd (H.trans (congrArg some hr_.out)) (by cases k <;> simp [aw.j0])
  rw [if_neg c81] at H
  have ayF : (pq != FD) = false := by simpa using c81
  (try (have ayG : decide (pq = FD) = true := by simpa using c81))
  (try (have ayH : (pq == FD) = true := by simpa using c81))
  clear c81
  obtain ⟨KW, at3, H⟩ := eA H
  have H' := aa.mk H
  clear H
  have at4 := xf.out
  have at5 := xe.out
  have at6 := xi.out
  have at7 := xj.out
  have at8 := so.out
  have at9 := sq.out
  have aua := xm.out
  have aub := xn.out
  have amM := fG aQ
  have amN := af aQ.out 0
  have auc := xh.out
  have aud := xg.out
  have aue := sr.out
  have auf := sw.out
  have aug := xo.out
  have auh := xq.out
  have amO := fG aT
  have amP := af aT.out 0
  go_wp2_with (first | (go_at_call 18; (with_reducible refine (cP.calls k _ _ dm _ _ dt true _ ?ah ?aj ?fB ?hD A60.out).mono ?_); (case ah => exact kx ((Kd.ao dD.out).2.2)); (case aj => exact (Kd.ao dD.out).2.1); (case fB => exact kx ((Kd.ao dR.out).2.2)); (case hD => exact (Kd.ao dR.out).2.1); rintro e aB1 ⟨rfl, hb⟩; replace cX := aa.mk (Kd.bt (fS cX.out) hb); replace dD := aa.mk (Kd.aY (b9 dD.out) hb); replace dR := aa.mk (Kd.aY (b9 dR.out) hb); replace ec := aa.mk (Kd.bt (fS ec.out) hb); replace dN := aa.mk (Kd.bM (d_ dN.out) hb); replace dY := aa.mk (Kd.bM (d_ dY.out) hb); replace et := aa.mk (Kd.bM (d_ et.out) hb); replace eP := aa.mk (Kd.bt (fS eP.out) hb); replace jn := aa.mk (Kd.bM (d_ jn.out) hb); replace kr := aa.mk (Kd.bM (d_ kr.out) hb); replace aK := cn aK hb; replace aQ := cn aQ hb; replace aT := cn aT hb; replace aV := cn aV hb; replace bh := cn bh hb; replace HB := eM HB hb; (try clear hb); obtain ⟨amQ, amR, amS⟩ := Kd.gw dN.out; subst amS; obtain ⟨amT, amU, amV⟩ := Kd.gw dY.out; subst amV) | (go_at_call 19; (with_reducible refine (cm.calls k _ _ kT _ _ KX true _ ?ah ?aj ?fB ?hD A73.out).mono ?_); (case ah => exact kx ((Kd.ei dN.out).2.2)); (case aj => exact (Kd.ei dN.out).2.1); (case fB => exact kx ((Kd.ei dY.out).2.2)); (case hD => exact (Kd.ei dY.out).2.1); rintro e aB2 ⟨rfl, hb⟩; replace cX := aa.mk (Kd.bt (fS cX.out) hb); replace dD := aa.mk (Kd.aY (b9 dD.out) hb); replace dR := aa.mk (Kd.aY (b9 dR.out) hb); replace ec := aa.mk (Kd.bt (fS ec.out) hb); replace dN := aa.mk (Kd.bM (d_ dN.out) hb); replace dY := aa.mk (Kd.bM (d_ dY.out) hb); replace et := aa.mk (Kd.bM (d_ et.out) hb); replace eP := aa.mk (Kd.bt (fS eP.out) hb); replace jn := aa.mk (Kd.bM (d_ jn.out) hb); replace kr := aa.mk (Kd.bM (d_ kr.out) hb); replace aK := cn aK hb; replace aQ := cn aQ hb; replace aT := cn aT hb; replace aV := cn aV hb; replace bh := cn bh hb; replace HB := eM HB hb; (try clear hb)) | (go_at_call 20; (with_reducible refine (aM.calls k jY KV _ A75.out).mono ?_); rintro e aB3 ⟨ayI, rfl, b0, hb⟩; have oJ := aa.mk (Kd.im (Kd.bU (ok' := fun k_ => some k_ ≠ (.slice eT cN.length eI : Value).ownBlock ∧ some k_ ≠ (.slice eG dm.length eH : Value).ownBlock ∧ some k_ ≠ (.slice fm dt.length fo : Value).ownBlock ∧ some k_ ≠ (.slice fp cv.length fg : Value).ownBlock ∧ some k_ ≠ (.slice amQ kT.length amR : Value).ownBlock ∧ some k_ ≠ (.slice amT KX.length amU : Value).ownBlock ∧ some k_ ≠ (lE : Value).ownBlock ∧ some k_ ≠ (.slice fE cq.length fF : Value).ownBlock ∧ some k_ ≠ (nN : Value).ownBlock ∧ some k_ ≠ (amK : Value).ownBlock ∧ k_ ≠ e5 ∧ k_ ≠ fh ∧ k_ ≠ fq ∧ k_ ≠ fz ∧ k_ ≠ ev) b0 (fun k_ hk_ => ⟨(Kd.cM (Kd.lH (fS cX.out)) k_ hk_), (Kd.cM (Kd.gy (b9 dD.out)) k_ hk_), (Kd.cM (Kd.gy (b9 dR.out)) k_ hk_), (Kd.cM (Kd.lH (fS ec.out)) k_ hk_), (Kd.cM (Kd.lM (d_ dN.out)) k_ hk_), (Kd.cM (Kd.lM (d_ dY.out)) k_ hk_), (Kd.cM (Kd.lM (d_ et.out)) k_ hk_), (Kd.cM (Kd.lH (fS eP.out)) k_ hk_), (Kd.cM (Kd.lM (d_ jn.out)) k_ hk_), (Kd.cM (Kd.lM (d_ kr.out)) k_ hk_), (Kd.dX (g := e5) (o := .cells #[.slice eT cN.length eI] 26 (0, 0)) (cC aK.out) k_ hk_), (Kd.dX (g := fh) (o := .cells #[.slice eG dm.length eH] 26 (0, 0)) (cC aQ.out) k_ hk_), (Kd.dX (g := fq) (o := .cells #[.slice fm dt.length fo] 26 (0, 0)) (cC aT.out) k_ hk_), (Kd.dX (g := fz) (o := .cells #[.slice fp cv.length fg] 26 (0, 0)) (cC aV.out) k_ hk_), (Kd.dX (g := ev) (o := .cells #[.slice fE cq.length fF] 26 (0, 0)) (cC bh.out) k_ hk_)⟩)) (ag (bC HB))); replace cX := aa.mk (Kd.bt (fS cX.out) hb); replace dD := aa.mk (Kd.aY (b9 dD.out) hb); replace dR := aa.mk (Kd.aY (b9 dR.out) hb); replace ec := aa.mk (Kd.bt (fS ec.out) hb); replace dN := aa.mk (Kd.dP (d_ dN.out) (Kd.hU b0) hb); replace dY := aa.mk (Kd.dP (d_ dY.out) (Kd.hU b0) hb); replace et := aa.mk (Kd.dP (d_ et.out) (Kd.hU b0) hb); replace eP := aa.mk (Kd.bt (fS eP.out) hb); replace jn := aa.mk (Kd.dP (d_ jn.out) (Kd.hU b0) hb); replace kr := aa.mk (Kd.dP (d_ kr.out) (Kd.hU b0) hb); replace aK := cn aK hb; replace aQ := cn aQ hb; replace aT := cn aT hb; replace aV := cn aV hb; replace bh := cn bh hb; replace HB := eM HB hb; (try clear hb); (try clear b0); obtain ⟨ayJ, ayK, amW⟩ := Kd.gw et.out; subst amW; obtain ⟨ayL, ayM, amX⟩ := Kd.gw oJ.out; subst amX) | (go_at_call 19; (with_reducible refine (cm.calls k _ _ iN _ _ KV true _ ?ah ?aj ?fB ?hD A76.out).mono ?_); (case ah => exact kx ((Kd.ei et.out).2.2)); (case aj => exact (Kd.ei et.out).2.1); (case fB => exact kx ((Kd.ei oJ.out).2.2)); (case hD => exact (Kd.ei oJ.out).2.1); rintro e aB4 ⟨rfl, hb⟩; replace cX := aa.mk (Kd.bt (fS cX.out) hb); replace dD := aa.mk (Kd.aY (b9 dD.out) hb); replace dR := aa.mk (Kd.aY (b9 dR.out) hb); replace ec := aa.mk (Kd.bt (fS ec.out) hb); replace dN := aa.mk (Kd.bM (d_ dN.out) hb); replace dY := aa.mk (Kd.bM (d_ dY.out) hb); replace et := aa.mk (Kd.bM (d_ et.out) hb); replace eP := aa.mk (Kd.bt (fS eP.out) hb); replace jn := aa.mk (Kd.bM (d_ jn.out) hb); replace kr := aa.mk (Kd.bM (d_ kr.out) hb); replace oJ := aa.mk (Kd.bM (d_ oJ.out) hb); replace aK := cn aK hb; replace aQ := cn aQ hb; replace aT := cn aT hb; replace aV := cn aV hb; replace bh := cn bh hb; replace HB := eM HB hb; (try clear hb)) | (go_at_call 21; (with_reducible refine (fR.calls k cB BX _ A78.out).mono ?_); rintro e aB5 ⟨rfl, hb⟩; replace cX := aa.mk (Kd.bt (fS cX.out) hb); replace dD := aa.mk (Kd.aY (b9 dD.out) hb); replace dR := aa.mk (Kd.aY (b9 dR.out) hb); replace ec := aa.mk (Kd.bt (fS ec.out) hb); replace dN := aa.mk (Kd.bM (d_ dN.out) hb); replace dY := aa.mk (Kd.bM (d_ dY.out) hb); replace et := aa.mk (Kd.bM (d_ et.out) hb); replace eP := aa.mk (Kd.bt (fS eP.out) hb); replace jn := aa.mk (Kd.bM (d_ jn.out) hb); replace kr := aa.mk (Kd.bM (d_ kr.out) hb); replace oJ := aa.mk (Kd.bM (d_ oJ.out) hb); replace aK := cn aK hb; replace aQ := cn aQ hb; replace aT := cn aT hb; replace aV := cn aV hb; replace bh := cn bh hb; replace HB := eM HB hb; (try clear hb)) | (go_at_call 22; (with_reducible refine (gT.calls k cB BY _ A79.out).mono ?_); rintro e aB6 ⟨rfl, hb⟩; replace cX := aa.mk (Kd.bt (fS cX.out) hb); replace dD := aa.mk (Kd.aY (b9 dD.out) hb); replace dR := aa.mk (Kd.aY (b9 dR.out) hb); replace ec := aa.mk (Kd.bt (fS ec.out) hb); replace dN := aa.mk (Kd.bM (d_ dN.out) hb); replace dY := aa.mk (Kd.bM (d_ dY.out) hb); replace et := aa.mk (Kd.bM (d_ et.out) hb); replace eP := aa.mk (Kd.bt (fS eP.out) hb); replace jn := aa.mk (Kd.bM (d_ jn.out) hb); replace kr := aa.mk (Kd.bM (d_ kr.out) hb); replace oJ := aa.mk (Kd.bM (d_ oJ.out) hb); replace aK := cn aK hb; replace aQ := cn aQ hb; replace aT := cn aT hb; replace aV := cn aV hb; replace bh := cn bh hb; replace HB := eM HB hb; (try clear hb); obtain ⟨ayN, ayO, amY⟩ := Kd.gw jn.out; subst amY; obtain ⟨ayP, ayQ, amZ⟩ := Kd.gw kr.out; subst amZ) | (go_at_call 19; (with_reducible refine (cm.calls k _ _ jU _ _ aab KW _ ?ah ?aj ?fB ?hD at3.out).mono ?_); (case ah => exact kx ((Kd.ei jn.out).2.2)); (case aj => exact (Kd.ei jn.out).2.1); (case fB => exact kx ((Kd.ei kr.out).2.2)); (case hD => exact (Kd.ei kr.out).2.1); rintro e aB7 ⟨rfl, hb⟩; replace cX := aa.mk (Kd.bt (fS cX.out) hb); replace dD := aa.mk (Kd.aY (b9 dD.out) hb); replace dR := aa.mk (Kd.aY (b9 dR.out) hb); replace ec := aa.mk (Kd.bt (fS ec.out) hb); replace dN := aa.mk (Kd.bM (d_ dN.out) hb); replace dY := aa.mk (Kd.bM (d_ dY.out) hb); replace et := aa.mk (Kd.bM (d_ et.out) hb); replace eP := aa.mk (Kd.bt (fS eP.out) hb); replace jn := aa.mk (Kd.bM (d_ jn.out) hb); replace kr := aa.mk (Kd.bM (d_ kr.out) hb); replace oJ := aa.mk (Kd.bM (d_ oJ.out) hb); replace aK := cn aK hb; replace aQ := cn aQ hb; replace aT := cn aT hb; replace aV := cn aV hb; replace bh := cn bh hb; replace HB := eM HB hb; (try clear hb)))
  go_meet
  case rel => exact ⟨_, (!KW), eF, H', ⟨by first | omega | exact Nat.le_refl _⟩, ⟨d_ (Kd.bU dN.out (fun _ hk => by first | exact ⟨hk.1.1.1.2.2.2.2.2.1, ⟨hk.1.1.2, ⟨hk.1.1.1.1, ⟨hk.1.1.1.2.1, ⟨hk.1.1.1.2.2.1, ⟨hk.1.1.1.2.2.2.1, ⟨hk.1.1.1.2.2.2.2.2.2.1, ⟨hk.1.1.1.2.2.2.2.2.2.2.1, ⟨hk.1.1.1.2.2.2.2.2.2.2.2.1, ⟨hk.1.1.1.2.2.2.2.2.2.2.2.2.1, ⟨hk.1.1.1.2.2.2.2.2.2.2.2.2.2.1, hk.1.1.1.2.2.2.2.2.2.2.2.2.2.2⟩⟩⟩⟩⟩⟩⟩⟩⟩⟩⟩ | exact pn hk))⟩, ⟨d_ (Kd.bU et.out (fun _ hk => by first | exact ⟨hk.1.1.1.2.2.2.2.1, ⟨hk.1.1.2, ⟨hk.1.1.1.1, ⟨hk.1.1.1.2.1, ⟨hk.1.1.1.2.2.1, ⟨hk.1.1.1.2.2.2.1, ⟨hk.1.1.1.2.2.2.2.2.2.1, ⟨hk.1.1.1.2.2.2.2.2.2.2.1, ⟨hk.1.1.1.2.2.2.2.2.2.2.2.1, ⟨hk.1.1.1.2.2.2.2.2.2.2.2.2.1, ⟨hk.1.1.1.2.2.2.2.2.2.2.2.2.2.1, hk.1.1.1.2.2.2.2.2.2.2.2.2.2.2⟩⟩⟩⟩⟩⟩⟩⟩⟩⟩⟩ | exact pn hk))⟩, ⟨d_ (Kd.bU jn.out (fun _ hk => by first | exact ⟨hk.1.1.2.2.2.2.1, ⟨hk.1.1.2.2.2.2.2.2.1, ⟨hk.1.1.1, ⟨hk.1.1.2.1, ⟨hk.1.1.2.2.1, ⟨hk.1.1.2.2.2.1, ⟨hk.1.1.2.2.2.2.2.2.2.1, ⟨hk.1.1.2.2.2.2.2.2.2.2.1, ⟨hk.1.1.2.2.2.2.2.2.2.2.2.1, ⟨hk.1.1.2.2.2.2.2.2.2.2.2.2.1, hk.1.1.2.2.2.2.2.2.2.2.2.2.2⟩⟩⟩⟩⟩⟩⟩⟩⟩⟩ | exact pn hk))⟩, ⟨fS cX.out⟩, ⟨Kd.px (b9 dD.out)⟩, ⟨Kd.px (b9 dR.out)⟩, ⟨fS ec.out⟩, ⟨fS eP.out⟩, ⟨cC aK.out⟩, ⟨cC aQ.out⟩, ⟨cC aT.out⟩, ⟨cC aV.out⟩, ⟨cC bh.out⟩, ⟨bC HB⟩⟩
 case rest =>
  clear ae0
  try clear Dg
  try clear xX
  try clear KA
  try clear Dc
  try clear CT
  try clear C6
  try clear WM
  try clear WO
  try clear CV
  try clear Dh
  try clear xY
  try clear KB
  try clear Dd
  try clear CU
  try clear C7
  try clear WN
  try clear WQ
  try clear CW
  obtain ⟨kq, yn, rfl, HA, IZ, gD, dW, ed, a7, a8, ba, aX, aU, aK, aQ, aT, aV, bh, HB⟩ := hcut
  cases kq with
  | zero => exact absurd HA.out (by simp [aw.j0])
  | succ ae1 =>
   have H := HA.out
   clear HA
   simp only [aw.j0] at H
   by_cases WR : yn = true
   · subst WR
     have H1 : (some false) = some r := by rw [if_pos rfl] at H; exact H
     exact absurd (H1.trans (congrArg some hr_.out)) (by simp)
   replace WR := Bool.eq_false_iff.mpr WR
   subst WR
   rw [if_neg (show ¬ (false = true) by decide)] at H
   have SX := aa.mk H
   clear H
   go_upto_region 17 with (fail)
   go_cut [128] (fun aa9 wc => ∃ (kq : Nat) (vk : Bool), aa9 = .bool vk ∧ aa (aw.j1 kq kT jY iN jU pq vk cv cq = some r) ∧ aa (kq ≤ ae1) ∧ aa (Kd.N ix 26 wc w.heap.size (fun k_ => some k_ ≠ (lE : Value).ownBlock ∧ some k_ ≠ (nN : Value).ownBlock ∧ some k_ ≠ ((.slice eT cN.length eI) : Value).ownBlock ∧ some k_ ≠ ((.slice eG dm.length eH) : Value).ownBlock ∧ some k_ ≠ ((.slice fm dt.length fo) : Value).ownBlock ∧ some k_ ≠ ((.slice fp cv.length fg) : Value).ownBlock ∧ some k_ ≠ ((.slice fE cq.length fF) : Value).ownBlock ∧ k_ ≠ e5 ∧ k_ ≠ fh ∧ k_ ≠ fq ∧ k_ ≠ fz ∧ k_ ≠ ev) mm kT) ∧ aa (Kd.N ix 26 wc w.heap.size (fun k_ => some k_ ≠ (mm : Value).ownBlock ∧ some k_ ≠ (nN : Value).ownBlock ∧ some k_ ≠ ((.slice eT cN.length eI) : Value).ownBlock ∧ some k_ ≠ ((.slice eG dm.length eH) : Value).ownBlock ∧ some k_ ≠ ((.slice fm dt.length fo) : Value).ownBlock ∧ some k_ ≠ ((.slice fp cv.length fg) : Value).ownBlock ∧ some k_ ≠ ((.slice fE cq.length fF) : Value).ownBlock ∧ k_ ≠ e5 ∧ k_ ≠ fh ∧ k_ ≠ fq ∧ k_ ≠ fz ∧ k_ ≠ ev) lE iN) ∧ aa (Kd.N ix 26 wc w.heap.size (fun k_ => some k_ ≠ (mm : Value).ownBlock ∧ some k_ ≠ (lE : Value).ownBlock ∧ some k_ ≠ ((.slice eT cN.length eI) : Value).ownBlock ∧ some k_ ≠ ((.slice eG dm.length eH) : Value).ownBlock ∧ some k_ ≠ ((.slice fm dt.length fo) : Value).ownBlock ∧ some k_ ≠ ((.slice fp cv.length fg) : Value).ownBlock ∧ k_ ≠ e5 ∧ k_ ≠ fh ∧ k_ ≠ fq ∧ k_ ≠ fz ∧ k_ ≠ ev) nN jU) ∧ aa (Kd.Q (Kd.int .i64) 3 wc w.heap.size (fun k_ => some k_ ≠ ((.slice eG dm.length eH) : Value).ownBlock ∧ some k_ ≠ ((.slice fm dt.length fo) : Value).ownBlock ∧ some k_ ≠ ((.slice fp cv.length fg) : Value).ownBlock ∧ some k_ ≠ ((.slice fE cq.length fF) : Value).ownBlock) (.slice eT cN.length eI) cN) ∧ aa (Kd.Q (Kd.int .i64) 3 wc w.heap.size (fun k_ => some k_ ≠ ((.slice eT cN.length eI) : Value).ownBlock ∧ some k_ ≠ ((.slice fm dt.length fo) : Value).ownBlock ∧ some k_ ≠ ((.slice fp cv.length fg) : Value).ownBlock ∧ some k_ ≠ ((.slice fE cq.length fF) : Value).ownBlock) (.slice eG dm.length eH) dm) ∧ aa (Kd.Q (Kd.int .i64) 3 wc w.heap.size (fun k_ => some k_ ≠ ((.slice eT cN.length eI) : Value).ownBlock ∧ some k_ ≠ ((.slice eG dm.length eH) : Value).ownBlock ∧ some k_ ≠ ((.slice fp cv.length fg) : Value).ownBlock ∧ some k_ ≠ ((.slice fE cq.length fF) : Value).ownBlock) (.slice fm dt.length fo) dt) ∧ aa (Kd.Q (Kd.int .i64) 3 wc w.heap.size (fun k_ => some k_ ≠ ((.slice eT cN.length eI) : Value).ownBlock ∧ some k_ ≠ ((.slice eG dm.length eH) : Value).ownBlock ∧ some k_ ≠ ((.slice fm dt.length fo) : Value).ownBlock ∧ some k_ ≠ ((.slice fE cq.length fF) : Value).ownBlock) (.slice fp cv.length fg) cv) ∧ aa (Kd.Q (Kd.int .i64) 3 wc w.heap.size (fun k_ => some k_ ≠ ((.slice eT cN.length eI) : Value).ownBlock ∧ some k_ ≠ ((.slice eG dm.length eH) : Value).ownBlock ∧ some k_ ≠ ((.slice fm dt.length fo) : Value).ownBlock ∧ some k_ ≠ ((.slice fp cv.length fg) : Value).ownBlock) (.slice fE cq.length fF) cq) ∧ aa (wc.heap[e5]? = some (.cells #[(.slice eT cN.length eI)] 26 (0, 0))) ∧ aa (wc.heap[fh]? = some (.cells #[(.slice eG dm.length eH)] 26 (0, 0))) ∧ aa (wc.heap[fq]? = some (.cells #[(.slice fm dt.length fo)] 26 (0, 0))) ∧ aa (wc.heap[fz]? = some (.cells #[(.slice fp cv.length fg)] 26 (0, 0))) ∧ aa (wc.heap[ev]? = some (.cells #[(.slice fE cq.length fF)] 26 (0, 0))) ∧ aa (Below w.heap.size w wc))
   case first =>
    have H := SX.out
    clear SX
    by_cases MR : cB ≥ 0
    rotate_left
    · rw [if_neg MR] at H
      have Ai : decide (0 ≤ cB) = false := decide_eq_false MR
      clear MR
      (first | rw [Ai] | (simp only [b6, dw]; rw [Ai]) | skip)
      have H' := aa.mk H
      clear H
      try go_wp2
      replace gD := aa.mk (Kd.lN gD.out)
      replace dW := aa.mk (Kd.lN dW.out)
      replace ed := aa.mk (Kd.lN ed.out)
      replace a7 := aa.mk (Kd.dV a7.out)
      replace a8 := aa.mk (Kd.dV a8.out)
      replace ba := aa.mk (Kd.dV ba.out)
      replace aX := aa.mk (Kd.dV aX.out)
      replace aU := aa.mk (Kd.dV aU.out)
      replace aK := aa.mk (bg aK.out)
      replace aQ := aa.mk (bg aQ.out)
      replace aT := aa.mk (bg aT.out)
      replace aV := aa.mk (bg aV.out)
      replace bh := aa.mk (bg bh.out)
      replace HB := aa.mk (bD HB.out)
      refine fy (n := 15) (S := fun w' => True) (ds := []) (B_ 0 15) (by kernel_rfl) rfl rfl trivial (fun hHeld => ?_); refine dv aw.SS aw.IY (fun HT_ HW_ => ?_)
      generalize wc.drew = aB8 at gD dW ed a7 a8 ba aX aU aK aQ aT aV bh HB hHeld ⊢
      refine b5 HT_ 0 114 (B_ 1 15) ?_
      refine b5 HT_ 1 115 (B_ 3 15) ?_
      refine b5 HT_ 2 116 (B_ 7 15) ?_
      refine gx HT_ 3 117 (B_ 15 15) ?_
      refine gx HT_ 4 118 (B_ 31 15) ?_
      refine b5 HT_ 5 119 (B_ 63 15) ?_
      refine b5 HT_ 6 120 (B_ 127 15) ?_
      refine gx HT_ 7 121 (B_ 255 15) ?_
      refine gx HT_ 8 122 (B_ 511 15) ?_
      refine gx HT_ 9 123 (B_ 1023 15) ?_
      refine gx HT_ 10 124 (B_ 2047 15) ?_
      refine gx HT_ 11 125 (B_ 4095 15) ?_
      refine gx HT_ 12 126 (B_ 8191 15) ?_
      refine gx HT_ 13 127 (B_ 16383 15) ?_
      refine b5 HT_ 14 128 (B_ 32767 15) ?_
      refine ik (eS HT_.out (by kernel_rfl)) ?_
      try go_wp2
      go_meet
      case rel => exact ⟨_, (false), eF, H', ⟨by have := IZ.out; first | omega | exact Nat.le_refl _⟩, ⟨d_ gD.out⟩, ⟨d_ dW.out⟩, ⟨d_ ed.out⟩, ⟨fS a7.out⟩, ⟨fS a8.out⟩, ⟨fS ba.out⟩, ⟨fS aX.out⟩, ⟨fS aU.out⟩, ⟨cC aK.out⟩, ⟨cC aQ.out⟩, ⟨cC aT.out⟩, ⟨cC aV.out⟩, ⟨cC bh.out⟩, ⟨bC HB⟩⟩
    rw [if_pos MR] at H
    have Ai : decide (0 ≤ cB) = true := decide_eq_true MR
    clear MR
    (first | rw [Ai] | (simp only [b6, dw]; rw [Ai]) | skip)
    by_cases MS : cB ≤ 8
    rotate_left
    · rw [if_neg MS] at H
      have ae2 : decide (cB ≤ 8) = false := decide_eq_false MS
      clear MS
      have H' := aa.mk H
      clear H
      try go_wp2
      replace gD := aa.mk (Kd.lN gD.out)
      replace dW := aa.mk (Kd.lN dW.out)
      replace ed := aa.mk (Kd.lN ed.out)
      replace a7 := aa.mk (Kd.dV a7.out)
      replace a8 := aa.mk (Kd.dV a8.out)
      replace ba := aa.mk (Kd.dV ba.out)
      replace aX := aa.mk (Kd.dV aX.out)
      replace aU := aa.mk (Kd.dV aU.out)
      replace aK := aa.mk (bg aK.out)
      replace aQ := aa.mk (bg aQ.out)
      replace aT := aa.mk (bg aT.out)
      replace aV := aa.mk (bg aV.out)
      replace bh := aa.mk (bg bh.out)
      replace HB := aa.mk (bD HB.out)
      refine fy (n := 15) (S := fun w' => True) (ds := []) (B_ 0 15) (by kernel_rfl) rfl rfl trivial (fun hHeld => ?_); refine dv aw.SS aw.IY (fun HT_ HW_ => ?_)
      generalize wc.drew = aB9 at gD dW ed a7 a8 ba aX aU aK aQ aT aV bh HB hHeld ⊢
      refine b5 HT_ 0 114 (B_ 1 15) ?_
      refine b5 HT_ 1 115 (B_ 3 15) ?_
      refine b5 HT_ 2 116 (B_ 7 15) ?_
      refine b5 HT_ 3 117 (B_ 15 15) ?_
      refine b5 HT_ 4 118 (B_ 31 15) ?_
      refine b5 HT_ 5 119 (B_ 63 15) ?_
      refine b5 HT_ 6 120 (B_ 127 15) ?_
      refine gx HT_ 7 121 (B_ 255 15) ?_
      refine gx HT_ 8 122 (B_ 511 15) ?_
      refine gx HT_ 9 123 (B_ 1023 15) ?_
      refine gx HT_ 10 124 (B_ 2047 15) ?_
      refine gx HT_ 11 125 (B_ 4095 15) ?_
      refine gx HT_ 12 126 (B_ 8191 15) ?_
      refine gx HT_ 13 127 (B_ 16383 15) ?_
      refine b5 HT_ 14 128 (B_ 32767 15) ?_
      refine ik (eS HT_.out (by kernel_rfl)) ?_
      try go_wp2
      go_meet
      case rel => exact ⟨_, (false), eF, H', ⟨by have := IZ.out; first | omega | exact Nat.le_refl _⟩, ⟨d_ gD.out⟩, ⟨d_ dW.out⟩, ⟨d_ ed.out⟩, ⟨fS a7.out⟩, ⟨fS a8.out⟩, ⟨fS ba.out⟩, ⟨fS aX.out⟩, ⟨fS aU.out⟩, ⟨cC aK.out⟩, ⟨cC aQ.out⟩, ⟨cC aT.out⟩, ⟨cC aV.out⟩, ⟨cC bh.out⟩, ⟨bC HB⟩⟩
    rw [if_pos MS] at H
    have ae2 : decide (cB ≤ 8) = true := decide_eq_true MS
    clear MS
    obtain ⟨po, aui, H⟩ := eA H
    obtain ⟨k7, I0⟩ : ∃ y_ : List Int, y_ = (([1, 1, 2, 4, 7, 12, 23, 39, 67] : List Int)) := ⟨_, rfl⟩
    replace H : (if 0 ≤ cB then (if cB < (k7.length : Int) then (aw.j1 ae1 kT jY iN jU pq (po != (rd k7 cB)) cv cq) else (none)) else (none)) = some r := by subst I0; exact H
    have I1 := aa.mk I0
    clear I0
    obtain ⟨auj, H⟩ := dB H
    obtain ⟨auk, H⟩ := dB H
    have H' := aa.mk H
    clear H
    try go_wp2
    have ae3 : (0 ≤ (cB : Int)) = True := eq_true (bO)
    have ae4 : (cB < (k7.length : Int)) = True := eq_true (bO)
    replace gD := aa.mk (Kd.lN gD.out)
    replace dW := aa.mk (Kd.lN dW.out)
    replace ed := aa.mk (Kd.lN ed.out)
    replace a7 := aa.mk (Kd.dV a7.out)
    replace a8 := aa.mk (Kd.dV a8.out)
    replace ba := aa.mk (Kd.dV ba.out)
    replace aX := aa.mk (Kd.dV aX.out)
    replace aU := aa.mk (Kd.dV aU.out)
    replace aK := aa.mk (bg aK.out)
    replace aQ := aa.mk (bg aQ.out)
    replace aT := aa.mk (bg aT.out)
    replace aV := aa.mk (bg aV.out)
    replace bh := aa.mk (bg bh.out)
    replace HB := aa.mk (bD HB.out)
    refine fy (n := 15) (S := fun w' => True) (ds := []) (B_ 0 15) (by kernel_rfl) rfl rfl trivial (fun hHeld => ?_); refine dv aw.SS aw.IY (fun HT_ HW_ => ?_)
    generalize wc.drew = aB_ at gD dW ed a7 a8 ba aX aU aK aQ aT aV bh HB hHeld ⊢
    refine b5 HT_ 0 114 (B_ 1 15) ?_
    refine aaL [1, 2, 3, 4, 5, 6, 7, 8, 9, 10, 11, 12, 13, 14] (fun a0_ b a w' => ∃ (iA : Value) (dJ : Addr) (k8 : Value), a = jC a0_ b [(1, 115, .bool (decide (cB ≥ 0))), (2, 116, .bool (decide (cB ≥ 0))), (3, 117, .int .i64 cB), (4, 118, .bool (decide (cB ≤ 8))), (5, 119, .bool (decide (cB ≤ 8))), (6, 120, .bool (decide (cB ≤ 8))), (7, 121, .int .i64 cB), (8, 122, .int .i64 po), (9, 123, iA), (10, 124, .int .i64 cB), (11, 125, k8), (12, 126, .int .i64 (rd k7 cB)), (13, 127, .bool (po != (rd k7 cB))), (14, 128, .bool (po != (rd k7 cB)))] ∧ (Kd.Q (Kd.int .i64) 3 w' w.heap.size (fun k_ => some k_ ≠ (.slice eG dm.length eH : Value).ownBlock ∧ some k_ ≠ (.slice fm dt.length fo : Value).ownBlock ∧ some k_ ≠ (.slice fp cv.length fg : Value).ownBlock ∧ some k_ ≠ (.slice fE cq.length fF : Value).ownBlock) (.slice eT cN.length eI) cN) ∧ (Kd.Q (Kd.int .i64) 3 w' w.heap.size (fun k_ => some k_ ≠ (.slice eT cN.length eI : Value).ownBlock ∧ some k_ ≠ (.slice fm dt.length fo : Value).ownBlock ∧ some k_ ≠ (.slice fp cv.length fg : Value).ownBlock ∧ some k_ ≠ (.slice fE cq.length fF : Value).ownBlock) (.slice eG dm.length eH) dm) ∧ (Kd.Q (Kd.int .i64) 3 w' w.heap.size (fun k_ => some k_ ≠ (.slice eT cN.length eI : Value).ownBlock ∧ some k_ ≠ (.slice eG dm.length eH : Value).ownBlock ∧ some k_ ≠ (.slice fp cv.length fg : Value).ownBlock ∧ some k_ ≠ (.slice fE cq.length fF : Value).ownBlock) (.slice fm dt.length fo) dt) ∧ (Kd.Q (Kd.int .i64) 3 w' w.heap.size (fun k_ => some k_ ≠ (.slice eT cN.length eI : Value).ownBlock ∧ some k_ ≠ (.slice eG dm.length eH : Value).ownBlock ∧ some k_ ≠ (.slice fm dt.length fo : Value).ownBlock ∧ some k_ ≠ (.slice fE cq.length fF : Value).ownBlock) (.slice fp cv.length fg) cv) ∧ (Kd.Q (Kd.int .i64) 3 w' w.heap.size (fun k_ => some k_ ≠ (.slice eT cN.length eI : Value).ownBlock ∧ some k_ ≠ (.slice eG dm.length eH : Value).ownBlock ∧ some k_ ≠ (.slice fm dt.length fo : Value).ownBlock ∧ some k_ ≠ (.slice fp cv.length fg : Value).ownBlock) (.slice fE cq.length fF) cq) ∧ (Kd.N ix 26 w' w.heap.size (fun k_ => some k_ ≠ (.slice eT cN.length eI : Value).ownBlock ∧ some k_ ≠ (.slice eG dm.length eH : Value).ownBlock ∧ some k_ ≠ (.slice fm dt.length fo : Value).ownBlock ∧ some k_ ≠ (.slice fp cv.length fg : Value).ownBlock ∧ some k_ ≠ (.slice fE cq.length fF : Value).ownBlock ∧ some k_ ≠ (nN : Value).ownBlock ∧ some k_ ≠ (mm : Value).ownBlock ∧ k_ ≠ e5 ∧ k_ ≠ fh ∧ k_ ≠ fq ∧ k_ ≠ fz ∧ k_ ≠ ev) lE iN) ∧ (Kd.N ix 26 w' w.heap.size (fun k_ => some k_ ≠ (.slice eT cN.length eI : Value).ownBlock ∧ some k_ ≠ (.slice eG dm.length eH : Value).ownBlock ∧ some k_ ≠ (.slice fm dt.length fo : Value).ownBlock ∧ some k_ ≠ (.slice fp cv.length fg : Value).ownBlock ∧ some k_ ≠ (lE : Value).ownBlock ∧ some k_ ≠ (mm : Value).ownBlock ∧ k_ ≠ e5 ∧ k_ ≠ fh ∧ k_ ≠ fq ∧ k_ ≠ fz ∧ k_ ≠ ev) nN jU) ∧ (Kd.N ix 26 w' w.heap.size (fun k_ => some k_ ≠ (.slice eT cN.length eI : Value).ownBlock ∧ some k_ ≠ (.slice eG dm.length eH : Value).ownBlock ∧ some k_ ≠ (.slice fm dt.length fo : Value).ownBlock ∧ some k_ ≠ (.slice fp cv.length fg : Value).ownBlock ∧ some k_ ≠ (.slice fE cq.length fF : Value).ownBlock ∧ some k_ ≠ (lE : Value).ownBlock ∧ some k_ ≠ (nN : Value).ownBlock ∧ k_ ≠ e5 ∧ k_ ≠ fh ∧ k_ ≠ fq ∧ k_ ≠ fz ∧ k_ ≠ ev) mm kT) ∧ (w'.heap[e5]? = some (.cells #[.slice eT cN.length eI] 26 (0, 0))) ∧ (w'.heap[fh]? = some (.cells #[.slice eG dm.length eH] 26 (0, 0))) ∧ (w'.heap[fq]? = some (.cells #[.slice fm dt.length fo] 26 (0, 0))) ∧ (w'.heap[fz]? = some (.cells #[.slice fp cv.length fg] 26 (0, 0))) ∧ (w'.heap[ev]? = some (.cells #[.slice fE cq.length fF] 26 (0, 0))) ∧ (Below w.heap.size w w') ∧ (b 9 = true → Kd.R (Kd.int .i64) 3 w' w.heap.size (fun k_ => some k_ ≠ (.slice eT cN.length eI : Value).ownBlock ∧ some k_ ≠ (.slice eG dm.length eH : Value).ownBlock ∧ some k_ ≠ (.slice fm dt.length fo : Value).ownBlock ∧ some k_ ≠ (.slice fp cv.length fg : Value).ownBlock ∧ some k_ ≠ (.slice fE cq.length fF : Value).ownBlock) iA k7) ∧ (b 9 = true → ∃ c_, (iA : Value) = .slice (some dJ) k7.length c_) ∧ (b 11 = true → (k8 : Value) = .pointer (some (dJ.add (cB).toNat)))) HT_.out HW_.out (by kernel_rfl) (by kernel_rfl) ?_ ?_ ?_
    · exact ⟨.bool false, ⟨0, 0, none⟩, .bool false, by simp only [jC, Bool.false_eq_true, if_false], a7.out, a8.out, ba.out, aX.out, aU.out, Kd.bU dW.out (fun _ hk => pn hk), Kd.bU ed.out (fun _ hk => pn hk), Kd.bU gD.out (fun _ hk => pn hk), aK.out, aQ.out, aT.out, aV.out, bh.out, HB.out, fun h_ => absurd h_ (by decide), fun h_ => absurd h_ (by decide), fun h_ => absurd h_ (by decide)⟩
    · skip
      clear aK aQ aT aV bh HB a7 a8 ba aX aU dW ed gD
      refine gJ ?_ ?_
      · rintro b a w' ⟨iA, dJ, k8, ha, bm, bn, bo, bp, bq, dS, dT, eQ, cZ, da, db, dc, dd, Q_HB, eL, dn, jF⟩ hb_ hon hoff
        refine ⟨_, rfl, fun K hK => ?_⟩
        have aCb : a.tmps[114]? = some (.int .i64 cB) := by rw [ha]; exact (lg rfl).trans rfl
        replace ha := aa.mk ha
        have a7 := aa.mk bm
        have a8 := aa.mk bn
        have ba := aa.mk bo
        have aX := aa.mk bp
        have aU := aa.mk bq
        have dW := aa.mk dS
        have ed := aa.mk dT
        have gD := aa.mk eQ
        have aK := aa.mk cZ
        have aQ := aa.mk da
        have aT := aa.mk db
        have aV := aa.mk dc
        have bh := aa.mk dd
        have HB := aa.mk Q_HB
        refine kU (w1 := w') (v := .bool (decide (cB ≥ 0))) (by rfl) rfl ?_ ?_
        · go_simp
          (try simp only [b6])
          try rfl
        refine hK.out _ _ ⟨iA, dJ, k8, (by rw [ha.out]; exact gK 0 hb_ rfl rfl rfl), bm, bn, bo, bp, bq, dS, dT, eQ, cZ, da, db, dc, dd, Q_HB, fun oc => absurd ((hoff 9 (by kernel_rfl)).symm.trans oc) (by decide), fun oc => absurd ((hoff 9 (by kernel_rfl)).symm.trans oc) (by decide), fun oc => absurd ((hoff 11 (by kernel_rfl)).symm.trans oc) (by decide)⟩
      refine gJ ?_ ?_
      · rintro b a w' ⟨iA, dJ, k8, ha, bm, bn, bo, bp, bq, dS, dT, eQ, cZ, da, db, dc, dd, Q_HB, eL, dn, jF⟩ hb_ hon hoff
        refine ⟨_, rfl, fun K hK => ?_⟩
        have aCc : a.tmps[115]? = some (.bool (decide (cB ≥ 0))) := by rw [ha]; exact eX (e := (1, 115, .bool (decide (cB ≥ 0)))) 0 rfl rfl (hon 1 (by kernel_rfl)) rfl
        replace ha := aa.mk ha
        have a7 := aa.mk bm
        have a8 := aa.mk bn
        have ba := aa.mk bo
        have aX := aa.mk bp
        have aU := aa.mk bq
        have dW := aa.mk dS
        have ed := aa.mk dT
        have gD := aa.mk eQ
        have aK := aa.mk cZ
        have aQ := aa.mk da
        have aT := aa.mk db
        have aV := aa.mk dc
        have bh := aa.mk dd
        have HB := aa.mk Q_HB
        refine kU (w1 := w') (v := .bool (decide (cB ≥ 0))) (by rfl) rfl ?_ ?_
        · go_simp
          (try simp only [b6])
          try rfl
        refine hK.out _ _ ⟨iA, dJ, k8, (by rw [ha.out]; exact gK 1 hb_ rfl rfl rfl), bm, bn, bo, bp, bq, dS, dT, eQ, cZ, da, db, dc, dd, Q_HB, fun oc => absurd ((hoff 9 (by kernel_rfl)).symm.trans oc) (by decide), fun oc => absurd ((hoff 9 (by kernel_rfl)).symm.trans oc) (by decide), fun oc => absurd ((hoff 11 (by kernel_rfl)).symm.trans oc) (by decide)⟩
      refine gJ ?_ ?_
      · rintro b a w' ⟨iA, dJ, k8, ha, bm, bn, bo, bp, bq, dS, dT, eQ, cZ, da, db, dc, dd, Q_HB, eL, dn, jF⟩ hb_ hon hoff
        refine ⟨_, rfl, fun K hK => ?_⟩
        have e15 : a.tmps[15]? = some (.int .i64 cB) := by rw [ha]; exact (lg rfl).trans rfl
        have Ee : a.tmps[116]? = some (.bool (decide (cB ≥ 0))) := by rw [ha]; exact eX (e := (2, 116, .bool (decide (cB ≥ 0)))) 1 rfl rfl (hon 2 (by kernel_rfl)) rfl
        replace ha := aa.mk ha
        have a7 := aa.mk bm
        have a8 := aa.mk bn
        have ba := aa.mk bo
        have aX := aa.mk bp
        have aU := aa.mk bq
        have dW := aa.mk dS
        have ed := aa.mk dT
        have gD := aa.mk eQ
        have aK := aa.mk cZ
        have aQ := aa.mk da
        have aT := aa.mk db
        have aV := aa.mk dc
        have bh := aa.mk dd
        have HB := aa.mk Q_HB
        refine kU (w1 := w') (v := .int .i64 cB) (jO rfl rfl rfl (Ee.trans (by first | rfl | (simp [*]; done)))) rfl ?_ ?_
        · go_simp
          (try simp only [b6])
          try rfl
        refine hK.out _ _ ⟨iA, dJ, k8, (by rw [ha.out]; exact gK 2 hb_ rfl rfl rfl), bm, bn, bo, bp, bq, dS, dT, eQ, cZ, da, db, dc, dd, Q_HB, fun oc => absurd ((hoff 9 (by kernel_rfl)).symm.trans oc) (by decide), fun oc => absurd ((hoff 9 (by kernel_rfl)).symm.trans oc) (by decide), fun oc => absurd ((hoff 11 (by kernel_rfl)).symm.trans oc) (by decide)⟩
      refine gJ ?_ ?_
      · rintro b a w' ⟨iA, dJ, k8, ha, bm, bn, bo, bp, bq, dS, dT, eQ, cZ, da, db, dc, dd, Q_HB, eL, dn, jF⟩ hb_ hon hoff
        refine ⟨_, rfl, fun K hK => ?_⟩
        have LP : a.tmps[117]? = some (.int .i64 cB) := by rw [ha]; exact eX (e := (3, 117, .int .i64 cB)) 2 rfl rfl (hon 3 (by kernel_rfl)) rfl
        have Ee : a.tmps[116]? = some (.bool (decide (cB ≥ 0))) := by rw [ha]; exact eX (e := (2, 116, .bool (decide (cB ≥ 0)))) 1 rfl rfl (hon 2 (by kernel_rfl)) rfl
        replace ha := aa.mk ha
        have a7 := aa.mk bm
        have a8 := aa.mk bn
        have ba := aa.mk bo
        have aX := aa.mk bp
        have aU := aa.mk bq
        have dW := aa.mk dS
        have ed := aa.mk dT
        have gD := aa.mk eQ
        have aK := aa.mk cZ
        have aQ := aa.mk da
        have aT := aa.mk db
        have aV := aa.mk dc
        have bh := aa.mk dd
        have HB := aa.mk Q_HB
        refine kU (w1 := w') (v := .bool (decide (cB ≤ 8))) (jO rfl rfl rfl (Ee.trans (by first | rfl | (simp [*]; done)))) rfl ?_ ?_
        · go_simp
          (try simp only [b6])
          try rfl
        refine hK.out _ _ ⟨iA, dJ, k8, (by rw [ha.out]; exact gK 3 hb_ rfl rfl rfl), bm, bn, bo, bp, bq, dS, dT, eQ, cZ, da, db, dc, dd, Q_HB, fun oc => absurd ((hoff 9 (by kernel_rfl)).symm.trans oc) (by decide), fun oc => absurd ((hoff 9 (by kernel_rfl)).symm.trans oc) (by decide), fun oc => absurd ((hoff 11 (by kernel_rfl)).symm.trans oc) (by decide)⟩
      refine gJ ?_ ?_
      · rintro b a w' ⟨iA, dJ, k8, ha, bm, bn, bo, bp, bq, dS, dT, eQ, cZ, da, db, dc, dd, Q_HB, eL, dn, jF⟩ hb_ hon hoff
        refine ⟨_, rfl, fun K hK => ?_⟩
        have Ee : a.tmps[116]? = some (.bool (decide (cB ≥ 0))) := by rw [ha]; exact eX (e := (2, 116, .bool (decide (cB ≥ 0)))) 1 rfl rfl (hon 2 (by kernel_rfl)) rfl
        have LQ : a.tmps[118]? = some (.bool (decide (cB ≤ 8))) := by rw [ha]; exact eX (e := (4, 118, .bool (decide (cB ≤ 8)))) 3 rfl rfl (hon 4 (by kernel_rfl)) rfl
        replace ha := aa.mk ha
        have a7 := aa.mk bm
        have a8 := aa.mk bn
        have ba := aa.mk bo
        have aX := aa.mk bp
        have aU := aa.mk bq
        have dW := aa.mk dS
        have ed := aa.mk dT
        have gD := aa.mk eQ
        have aK := aa.mk cZ
        have aQ := aa.mk da
        have aT := aa.mk db
        have aV := aa.mk dc
        have bh := aa.mk dd
        have HB := aa.mk Q_HB
        refine kU (w1 := w') (v := .bool (decide (cB ≤ 8))) (by rfl) rfl ?_ ?_
        · go_simp
          (try simp only [b6])
          try rfl
        refine hK.out _ _ ⟨iA, dJ, k8, (by rw [ha.out]; exact gK 4 hb_ rfl rfl rfl), bm, bn, bo, bp, bq, dS, dT, eQ, cZ, da, db, dc, dd, Q_HB, fun oc => absurd ((hoff 9 (by kernel_rfl)).symm.trans oc) (by decide), fun oc => absurd ((hoff 9 (by kernel_rfl)).symm.trans oc) (by decide), fun oc => absurd ((hoff 11 (by kernel_rfl)).symm.trans oc) (by decide)⟩
      refine gJ ?_ ?_
      · rintro b a w' ⟨iA, dJ, k8, ha, bm, bn, bo, bp, bq, dS, dT, eQ, cZ, da, db, dc, dd, Q_HB, eL, dn, jF⟩ hb_ hon hoff
        refine ⟨_, rfl, fun K hK => ?_⟩
        have aCd : a.tmps[119]? = some (.bool (decide (cB ≤ 8))) := by rw [ha]; exact eX (e := (5, 119, .bool (decide (cB ≤ 8)))) 4 rfl rfl (hon 5 (by kernel_rfl)) rfl
        replace ha := aa.mk ha
        have a7 := aa.mk bm
        have a8 := aa.mk bn
        have ba := aa.mk bo
        have aX := aa.mk bp
        have aU := aa.mk bq
        have dW := aa.mk dS
        have ed := aa.mk dT
        have gD := aa.mk eQ
        have aK := aa.mk cZ
        have aQ := aa.mk da
        have aT := aa.mk db
        have aV := aa.mk dc
        have bh := aa.mk dd
        have HB := aa.mk Q_HB
        refine kU (w1 := w') (v := .bool (decide (cB ≤ 8))) (by rfl) rfl ?_ ?_
        · go_simp
          (try simp only [b6])
          try rfl
        refine hK.out _ _ ⟨iA, dJ, k8, (by rw [ha.out]; exact gK 5 hb_ rfl rfl rfl), bm, bn, bo, bp, bq, dS, dT, eQ, cZ, da, db, dc, dd, Q_HB, fun oc => absurd ((hoff 9 (by kernel_rfl)).symm.trans oc) (by decide), fun oc => absurd ((hoff 9 (by kernel_rfl)).symm.trans oc) (by decide), fun oc => absurd ((hoff 11 (by kernel_rfl)).symm.trans oc) (by decide)⟩
      refine gJ ?_ ?_
      · rintro b a w' ⟨iA, dJ, k8, ha, bm, bn, bo, bp, bq, dS, dT, eQ, cZ, da, db, dc, dd, Q_HB, eL, dn, jF⟩ hb_ hon hoff
        refine ⟨_, rfl, fun K hK => ?_⟩
        have e15 : a.tmps[15]? = some (.int .i64 cB) := by rw [ha]; exact (lg rfl).trans rfl
        have pZ : a.tmps[120]? = some (.bool (decide (cB ≤ 8))) := by rw [ha]; exact eX (e := (6, 120, .bool (decide (cB ≤ 8)))) 5 rfl rfl (hon 6 (by kernel_rfl)) rfl
        replace ha := aa.mk ha
        have a7 := aa.mk bm
        have a8 := aa.mk bn
        have ba := aa.mk bo
        have aX := aa.mk bp
        have aU := aa.mk bq
        have dW := aa.mk dS
        have ed := aa.mk dT
        have gD := aa.mk eQ
        have aK := aa.mk cZ
        have aQ := aa.mk da
        have aT := aa.mk db
        have aV := aa.mk dc
        have bh := aa.mk dd
        have HB := aa.mk Q_HB
        refine kU (w1 := w') (v := .int .i64 cB) (jO rfl rfl rfl (pZ.trans (by first | rfl | (simp [*]; done)))) rfl ?_ ?_
        · go_simp
          (try simp only [b6])
          try rfl
        refine hK.out _ _ ⟨iA, dJ, k8, (by rw [ha.out]; exact gK 6 hb_ rfl rfl rfl), bm, bn, bo, bp, bq, dS, dT, eQ, cZ, da, db, dc, dd, Q_HB, eL, dn, jF⟩
      refine gJ ?_ ?_
      · rintro b a w' ⟨iA, dJ, k8, ha, bm, bn, bo, bp, bq, dS, dT, eQ, cZ, da, db, dc, dd, Q_HB, eL, dn, jF⟩ hb_ hon hoff
        refine ⟨_, rfl, fun K hK => ?_⟩
        have am0 : a.tmps[121]? = some (.int .i64 cB) := by rw [ha]; exact eX (e := (7, 121, .int .i64 cB)) 6 rfl rfl (hon 7 (by kernel_rfl)) rfl
        have pZ : a.tmps[120]? = some (.bool (decide (cB ≤ 8))) := by rw [ha]; exact eX (e := (6, 120, .bool (decide (cB ≤ 8)))) 5 rfl rfl (hon 6 (by kernel_rfl)) rfl
        replace ha := aa.mk ha
        have a7 := aa.mk bm
        have a8 := aa.mk bn
        have ba := aa.mk bo
        have aX := aa.mk bp
        have aU := aa.mk bq
        have dW := aa.mk dS
        have ed := aa.mk dT
        have gD := aa.mk eQ
        have aK := aa.mk cZ
        have aQ := aa.mk da
        have aT := aa.mk db
        have aV := aa.mk dc
        have bh := aa.mk dd
        have HB := aa.mk Q_HB
        refine gu Tryz.func21 (by kernel_rfl) rfl #[.int .i64 cB] (by first | rfl | exact jO rfl rfl rfl (pZ.trans (by first | rfl | (simp [*]; done)))) rfl rfl (by first | (simp only [List.map_toArray, List.map_cons, List.map_nil, Act.eval, Array.getD_eq_getD_getElem?, Option.getD_some, am0, pZ]; done) | (simp only [List.map_toArray, List.map_cons, List.map_nil, Act.eval, Array.getD_eq_getD_getElem?, Option.getD_some, am0, pZ]; rfl)) ?_
        with_reducible refine (fR.calls ae1 cB po _ aui.out).mono ?_
        rintro e am1 ⟨rfl, hb⟩
        refine ⟨_, rfl, ?_⟩
        have n5 := aa.mk (Kd.bM (d_ gD.out) hb)
        have n9 := aa.mk (Kd.bM (d_ dW.out) hb)
        have rp := aa.mk (Kd.bM (d_ ed.out) hb)
        have rq := aa.mk (Kd.bt (fS a7.out) hb)
        have ti := aa.mk (Kd.bt (fS a8.out) hb)
        have zH := aa.mk (Kd.bt (fS ba.out) hb)
        have BH := aa.mk (Kd.bt (fS aX.out) hb)
        have Ko := aa.mk (Kd.bt (fS aU.out) hb)
        have Kp := cn aK hb
        have n9_ := cn aQ hb
        have FH := cn aT hb
        have FI := cn aV hb
        have FJ := cn bh hb
        have SV := eM HB hb
        have SY := fun (oc : b 9 = true) => (show Kd.R (Kd.int .i64) 3 am1 w.heap.size (fun k_ => some k_ ≠ (.slice eT cN.length eI : Value).ownBlock ∧ some k_ ≠ (.slice eG dm.length eH : Value).ownBlock ∧ some k_ ≠ (.slice fm dt.length fo : Value).ownBlock ∧ some k_ ≠ (.slice fp cv.length fg : Value).ownBlock ∧ some k_ ≠ (.slice fE cq.length fF : Value).ownBlock) iA k7 from by first | exact (Kd.aY (by (with_reducible repeat (first | apply Kd.bQ | apply Kd.bT | apply Kd.bR)); exact (eL oc)) hb) | exact Kd.bB (Kd.aY (by (with_reducible repeat (first | apply Kd.bQ | apply Kd.bT | apply Kd.bR)); exact (eL oc)) hb) (fun _ h_ => by first | trivial | exact h_ | exact h_.1))
        clear gD
        clear dW
        clear ed
        clear a7
        clear a8
        clear ba
        clear aX
        clear aU
        clear aK
        clear aQ
        clear aT
        clear aV
        clear bh
        clear HB
        have gD := n5
        have dW := n9
        have ed := rp
        have a7 := rq
        have a8 := ti
        have ba := zH
        have aX := BH
        have aU := Ko
        have aK := Kp
        have aQ := n9_
        have aT := FH
        have aV := FI
        have bh := FJ
        have HB := SV
        clear n5 n9 rp rq ti zH BH Ko Kp n9_ FH FI FJ SV
        (try clear hb)
        refine hK.out _ _ ⟨iA, dJ, k8, (by rw [ha.out]; exact gK 7 hb_ rfl rfl rfl), (fS a7.out), (fS a8.out), (fS ba.out), (fS aX.out), (fS aU.out), (d_ (Kd.bU dW.out (fun _ hk => by first | exact ⟨hk.2.2.1, ⟨hk.2.2.2.1, ⟨hk.2.2.2.2.1, ⟨hk.2.2.2.2.2.1, ⟨hk.2.2.2.2.2.2.1, ⟨hk.2.1, ⟨hk.1, ⟨hk.2.2.2.2.2.2.2.1, ⟨hk.2.2.2.2.2.2.2.2.1, ⟨hk.2.2.2.2.2.2.2.2.2.1, ⟨hk.2.2.2.2.2.2.2.2.2.2.1, hk.2.2.2.2.2.2.2.2.2.2.2⟩⟩⟩⟩⟩⟩⟩⟩⟩⟩⟩ | exact pn hk))), (d_ (Kd.bU ed.out (fun _ hk => by first | exact ⟨hk.2.2.1, ⟨hk.2.2.2.1, ⟨hk.2.2.2.2.1, ⟨hk.2.2.2.2.2.1, ⟨hk.2.1, ⟨hk.1, ⟨hk.2.2.2.2.2.2.1, ⟨hk.2.2.2.2.2.2.2.1, ⟨hk.2.2.2.2.2.2.2.2.1, ⟨hk.2.2.2.2.2.2.2.2.2.1, hk.2.2.2.2.2.2.2.2.2.2⟩⟩⟩⟩⟩⟩⟩⟩⟩⟩ | exact pn hk))), (d_ (Kd.bU gD.out (fun _ hk => by first | exact ⟨hk.2.2.1, ⟨hk.2.2.2.1, ⟨hk.2.2.2.2.1, ⟨hk.2.2.2.2.2.1, ⟨hk.2.2.2.2.2.2.1, ⟨hk.1, ⟨hk.2.1, ⟨hk.2.2.2.2.2.2.2.1, ⟨hk.2.2.2.2.2.2.2.2.1, ⟨hk.2.2.2.2.2.2.2.2.2.1, ⟨hk.2.2.2.2.2.2.2.2.2.2.1, hk.2.2.2.2.2.2.2.2.2.2.2⟩⟩⟩⟩⟩⟩⟩⟩⟩⟩⟩ | exact pn hk))), (cC aK.out), (cC aQ.out), (cC aT.out), (cC aV.out), (cC bh.out), (bC HB), SY, dn, jF⟩
      refine gJ ?_ ?_
      · rintro b a w' ⟨iA, dJ, k8, ha, bm, bn, bo, bp, bq, dS, dT, eQ, cZ, da, db, dc, dd, Q_HB, eL, dn, jF⟩ hb_ hon hoff
        refine ⟨_, rfl, fun K hK => ?_⟩
        have pZ : a.tmps[120]? = some (.bool (decide (cB ≤ 8))) := by rw [ha]; exact eX (e := (6, 120, .bool (decide (cB ≤ 8)))) 5 rfl rfl (hon 6 (by kernel_rfl)) rfl
        replace ha := aa.mk ha
        have a7 := aa.mk bm
        have a8 := aa.mk bn
        have ba := aa.mk bo
        have aX := aa.mk bp
        have aU := aa.mk bq
        have dW := aa.mk dS
        have ed := aa.mk dT
        have gD := aa.mk eQ
        have aK := aa.mk cZ
        have aQ := aa.mk da
        have aT := aa.mk db
        have aV := aa.mk dc
        have bh := aa.mk dd
        have HB := aa.mk Q_HB
        refine Kd.yC (Kd.int .i64) _ 3 ?hg (N := 123) ?hd (xs := ([1, 1, 2, 4, 7, 12, 23, 39, 67] : List Int)) (inner := [.int .i64 1, .int .i64 1, .int .i64 2, .int .i64 4, .int .i64 7, .int .i64 12, .int .i64 23, .int .i64 39, .int .i64 67]) (ok := fun _ => True) (okp := fun _ => True) ?hr ?hp (fun _ hk => hk) trivial (Below.refl _ _) (Nat.le_refl _) (by simp) ?_; (case hd => rfl); (case hg => first | rfl | exact jO rfl rfl rfl (pZ.trans (by first | rfl | (simp [*]; done)))); (case hr => first | (go_simp; done) | (go_simp; rfl)); (case hp => exact (bE.one (show Kd.M (Kd.int .i64) _ _ _ 1 [.int .i64 1] from rfl) (bE.one (show Kd.M (Kd.int .i64) _ _ _ 1 [.int .i64 1] from rfl) (bE.one (show Kd.M (Kd.int .i64) _ _ _ 2 [.int .i64 2] from rfl) (bE.one (show Kd.M (Kd.int .i64) _ _ _ 4 [.int .i64 4] from rfl) (bE.one (show Kd.M (Kd.int .i64) _ _ _ 7 [.int .i64 7] from rfl) (bE.one (show Kd.M (Kd.int .i64) _ _ _ 12 [.int .i64 12] from rfl) (bE.one (show Kd.M (Kd.int .i64) _ _ _ 23 [.int .i64 23] from rfl) (bE.one (show Kd.M (Kd.int .i64) _ _ _ 39 [.int .i64 39] from rfl) (bE.one (show Kd.M (Kd.int .i64) _ _ _ 67 [.int .i64 67] from rfl) (bE.none _ _)))))))))))
        intro iA am1 qq hb hg_ hnew_
        clear hg_ hnew_
        (first | rw [← I1.out] at qq | (simp only [Int.reduceToNat] at qq; rw [← I1.out] at qq))
        replace gD := aa.mk (Kd.dP (d_ gD.out) (Kd.cV qq) hb)
        replace dW := aa.mk (Kd.dP (d_ dW.out) (Kd.cV qq) hb)
        replace ed := aa.mk (Kd.dP (d_ ed.out) (Kd.cV qq) hb)
        have qZ := aa.mk (Kd.aW (Kd.eV (Kd.eV (Kd.eV (Kd.eV (Kd.eV qq (Kd.lH (fS a7.out))) (Kd.lH (fS a8.out))) (Kd.lH (fS ba.out))) (Kd.lH (fS aX.out))) (Kd.lH (fS aU.out))) (ag (bC HB)))
        replace a7 := aa.mk (Kd.iY (fS a7.out) (Kd.cV qq) hb)
        replace a8 := aa.mk (Kd.iY (fS a8.out) (Kd.cV qq) hb)
        replace ba := aa.mk (Kd.iY (fS ba.out) (Kd.cV qq) hb)
        replace aX := aa.mk (Kd.iY (fS aX.out) (Kd.cV qq) hb)
        replace aU := aa.mk (Kd.iY (fS aU.out) (Kd.cV qq) hb)
        replace aK := cn aK hb
        replace aQ := cn aQ hb
        replace aT := cn aT hb
        replace aV := cn aV hb
        replace bh := cn bh hb
        replace HB := eM HB hb
        clear hb qq
        obtain ⟨ayS, am2, am3⟩ := Kd.aN qZ.out
        subst am3
        obtain ⟨SZ, am4, _⟩ := Kd.aZ (Kd.ao qZ.out).2.2 0 (by decide) (by rw [I1.out]; simp)
        cases am4
        refine hK.out _ _ ⟨.slice (some SZ) k7.length am2, SZ, k8, (by rw [ha.out]; exact gK 8 hb_ rfl rfl rfl), (by (with_reducible repeat (first | apply Kd.gf | apply Kd.gh | apply Kd.dV)); exact Kd.fe a7.out (fun _ hk => by first | exact ⟨hk.2, ⟨hk.1.1, ⟨hk.1.2.1, ⟨hk.1.2.2.1, hk.1.2.2.2⟩⟩⟩⟩ | exact pn hk)), (by (with_reducible repeat (first | apply Kd.gf | apply Kd.gh | apply Kd.dV)); exact Kd.fe a8.out (fun _ hk => by first | exact ⟨hk.2, ⟨hk.1.1, ⟨hk.1.2.1, ⟨hk.1.2.2.1, hk.1.2.2.2⟩⟩⟩⟩ | exact pn hk)), (by (with_reducible repeat (first | apply Kd.gf | apply Kd.gh | apply Kd.dV)); exact Kd.fe ba.out (fun _ hk => by first | exact ⟨hk.2, ⟨hk.1.1, ⟨hk.1.2.1, ⟨hk.1.2.2.1, hk.1.2.2.2⟩⟩⟩⟩ | exact pn hk)), (by (with_reducible repeat (first | apply Kd.gf | apply Kd.gh | apply Kd.dV)); exact Kd.fe aX.out (fun _ hk => by first | exact ⟨hk.2, ⟨hk.1.1, ⟨hk.1.2.1, ⟨hk.1.2.2.1, hk.1.2.2.2⟩⟩⟩⟩ | exact pn hk)), (by (with_reducible repeat (first | apply Kd.gf | apply Kd.gh | apply Kd.dV)); exact Kd.fe aU.out (fun _ hk => by first | exact ⟨hk.2, ⟨hk.1.1, ⟨hk.1.2.1, ⟨hk.1.2.2.1, hk.1.2.2.2⟩⟩⟩⟩ | exact pn hk)), (d_ (Kd.bU dW.out (fun _ hk => by first | exact ⟨hk.2, ⟨hk.1.2.2.1, ⟨hk.1.2.2.2.1, ⟨hk.1.2.2.2.2.1, ⟨hk.1.2.2.2.2.2.1, ⟨hk.1.2.2.2.2.2.2.1, ⟨hk.1.2.1, ⟨hk.1.1, ⟨hk.1.2.2.2.2.2.2.2.1, ⟨hk.1.2.2.2.2.2.2.2.2.1, ⟨hk.1.2.2.2.2.2.2.2.2.2.1, ⟨hk.1.2.2.2.2.2.2.2.2.2.2.1, hk.1.2.2.2.2.2.2.2.2.2.2.2⟩⟩⟩⟩⟩⟩⟩⟩⟩⟩⟩⟩ | exact pn hk))), (d_ (Kd.bU ed.out (fun _ hk => by first | exact ⟨hk.2, ⟨hk.1.2.2.1, ⟨hk.1.2.2.2.1, ⟨hk.1.2.2.2.2.1, ⟨hk.1.2.2.2.2.2.1, ⟨hk.1.2.1, ⟨hk.1.1, ⟨hk.1.2.2.2.2.2.2.1, ⟨hk.1.2.2.2.2.2.2.2.1, ⟨hk.1.2.2.2.2.2.2.2.2.1, ⟨hk.1.2.2.2.2.2.2.2.2.2.1, hk.1.2.2.2.2.2.2.2.2.2.2⟩⟩⟩⟩⟩⟩⟩⟩⟩⟩⟩ | exact pn hk))), (d_ (Kd.bU gD.out (fun _ hk => by first | exact ⟨hk.2, ⟨hk.1.2.2.1, ⟨hk.1.2.2.2.1, ⟨hk.1.2.2.2.2.1, ⟨hk.1.2.2.2.2.2.1, ⟨hk.1.2.2.2.2.2.2.1, ⟨hk.1.1, ⟨hk.1.2.1, ⟨hk.1.2.2.2.2.2.2.2.1, ⟨hk.1.2.2.2.2.2.2.2.2.1, ⟨hk.1.2.2.2.2.2.2.2.2.2.1, ⟨hk.1.2.2.2.2.2.2.2.2.2.2.1, hk.1.2.2.2.2.2.2.2.2.2.2.2⟩⟩⟩⟩⟩⟩⟩⟩⟩⟩⟩⟩ | exact pn hk))), (cC aK.out), (cC aQ.out), (cC aT.out), (cC aV.out), (cC bh.out), (bC HB), fun _ => (by (with_reducible repeat (first | apply Kd.bQ | apply Kd.bT | apply Kd.bR)); exact Kd.bB qZ.out (fun _ hk => by first | exact ⟨hk.1.1.1.1.2, ⟨hk.1.1.1.2, ⟨hk.1.1.2, ⟨hk.1.2, hk.2⟩⟩⟩⟩ | exact pn hk)), fun _ => ⟨_, rfl⟩, fun oc => absurd ((hoff 11 (by kernel_rfl)).symm.trans oc) (by decide)⟩
      refine gJ ?_ ?_
      · rintro b a w' ⟨iA, dJ, k8, ha, bm, bn, bo, bp, bq, dS, dT, eQ, cZ, da, db, dc, dd, Q_HB, eL, dn, jF⟩ hb_ hon hoff
        refine ⟨_, rfl, fun K hK => ?_⟩
        have e15 : a.tmps[15]? = some (.int .i64 cB) := by rw [ha]; exact (lg rfl).trans rfl
        have pZ : a.tmps[120]? = some (.bool (decide (cB ≤ 8))) := by rw [ha]; exact eX (e := (6, 120, .bool (decide (cB ≤ 8)))) 5 rfl rfl (hon 6 (by kernel_rfl)) rfl
        replace ha := aa.mk ha
        have a7 := aa.mk bm
        have a8 := aa.mk bn
        have ba := aa.mk bo
        have aX := aa.mk bp
        have aU := aa.mk bq
        have dW := aa.mk dS
        have ed := aa.mk dT
        have gD := aa.mk eQ
        have aK := aa.mk cZ
        have aQ := aa.mk da
        have aT := aa.mk db
        have aV := aa.mk dc
        have bh := aa.mk dd
        have HB := aa.mk Q_HB
        refine kU (w1 := w') (v := .int .i64 cB) (jO rfl rfl rfl (pZ.trans (by first | rfl | (simp [*]; done)))) rfl ?_ ?_
        · go_simp
          (try simp only [b6])
          try rfl
        refine hK.out _ _ ⟨iA, dJ, k8, (by rw [ha.out]; exact gK 9 hb_ rfl rfl rfl), bm, bn, bo, bp, bq, dS, dT, eQ, cZ, da, db, dc, dd, Q_HB, eL, dn, fun oc => absurd ((hoff 11 (by kernel_rfl)).symm.trans oc) (by decide)⟩
      refine gJ ?_ ?_
      · rintro b a w' ⟨iA, dJ, k8, ha, bm, bn, bo, bp, bq, dS, dT, eQ, cZ, da, db, dc, dd, Q_HB, eL, dn, jF⟩ hb_ hon hoff
        refine ⟨_, rfl, fun K hK => ?_⟩
        have aul : a.tmps[123]? = some (iA) := by rw [ha]; exact eX (e := (9, 123, iA)) 8 rfl rfl (hon 9 (by kernel_rfl)) rfl
        have aCe : a.tmps[124]? = some (.int .i64 cB) := by rw [ha]; exact eX (e := (10, 124, .int .i64 cB)) 9 rfl rfl (hon 10 (by kernel_rfl)) rfl
        have pZ : a.tmps[120]? = some (.bool (decide (cB ≤ 8))) := by rw [ha]; exact eX (e := (6, 120, .bool (decide (cB ≤ 8)))) 5 rfl rfl (hon 6 (by kernel_rfl)) rfl
        replace ha := aa.mk ha
        have a7 := aa.mk bm
        have a8 := aa.mk bn
        have ba := aa.mk bo
        have aX := aa.mk bp
        have aU := aa.mk bq
        have dW := aa.mk dS
        have ed := aa.mk dT
        have gD := aa.mk eQ
        have aK := aa.mk cZ
        have aQ := aa.mk da
        have aT := aa.mk db
        have aV := aa.mk dc
        have bh := aa.mk dd
        have HB := aa.mk Q_HB
        have qZ := aa.mk (eL (hon 9 (by kernel_rfl)))
        have lF := aa.mk (dn (hon 9 (by kernel_rfl)))
        obtain ⟨c_, hv_⟩ := lF.out
        rw [hv_] at aul
        refine kU (w1 := w') (v := .pointer (some (dJ.add (cB).toNat))) (jO rfl rfl rfl (pZ.trans (by first | rfl | (simp [*]; done)))) rfl ?_ ?_
        · go_simp
          (try simp only [b6])
          try rfl
        refine hK.out _ _ ⟨iA, dJ, (.pointer (some (dJ.add (cB).toNat))), (by rw [ha.out]; exact gK 10 hb_ rfl rfl rfl), bm, bn, bo, bp, bq, dS, dT, eQ, cZ, da, db, dc, dd, Q_HB, eL, dn, fun _ => rfl⟩
      refine gJ ?_ ?_
      · rintro b a w' ⟨iA, dJ, k8, ha, bm, bn, bo, bp, bq, dS, dT, eQ, cZ, da, db, dc, dd, Q_HB, eL, dn, jF⟩ hb_ hon hoff
        refine ⟨_, rfl, fun K hK => ?_⟩
        have aum : a.tmps[125]? = some (k8) := by rw [ha]; exact eX (e := (11, 125, k8)) 10 rfl rfl (hon 11 (by kernel_rfl)) rfl
        rw [jF (hon 11 (by kernel_rfl))] at aum
        have pZ : a.tmps[120]? = some (.bool (decide (cB ≤ 8))) := by rw [ha]; exact eX (e := (6, 120, .bool (decide (cB ≤ 8)))) 5 rfl rfl (hon 6 (by kernel_rfl)) rfl
        replace ha := aa.mk ha
        have a7 := aa.mk bm
        have a8 := aa.mk bn
        have ba := aa.mk bo
        have aX := aa.mk bp
        have aU := aa.mk bq
        have dW := aa.mk dS
        have ed := aa.mk dT
        have gD := aa.mk eQ
        have aK := aa.mk cZ
        have aQ := aa.mk da
        have aT := aa.mk db
        have aV := aa.mk dc
        have bh := aa.mk dd
        have HB := aa.mk Q_HB
        have qZ := aa.mk (eL (hon 9 (by kernel_rfl)))
        have lF := aa.mk (dn (hon 9 (by kernel_rfl)))
        obtain ⟨c_, hv_⟩ := lF.out
        have hF_ := qZ.out
        rw [hv_] at hF_
        obtain ⟨ad_, ea_, hx_⟩ := Kd.aZ (Kd.ao hF_).2.2 cB (of_eq_true ae3) (of_eq_true ae4)
        cases ea_
        refine kU (w1 := w') (v := .int .i64 (rd k7 cB)) (jO rfl rfl rfl (pZ.trans (by first | rfl | (simp [*]; done)))) rfl ?_ ?_
        · go_simp
          (try simp only [b6])
          try rfl
        refine hK.out _ _ ⟨iA, dJ, k8, (by rw [ha.out]; exact gK 11 hb_ rfl rfl rfl), bm, bn, bo, bp, bq, dS, dT, eQ, cZ, da, db, dc, dd, Q_HB, eL, dn, jF⟩
      refine gJ ?_ ?_
      · rintro b a w' ⟨iA, dJ, k8, ha, bm, bn, bo, bp, bq, dS, dT, eQ, cZ, da, db, dc, dd, Q_HB, eL, dn, jF⟩ hb_ hon hoff
        refine ⟨_, rfl, fun K hK => ?_⟩
        have aCf : a.tmps[122]? = some (.int .i64 po) := by rw [ha]; exact eX (e := (8, 122, .int .i64 po)) 7 rfl rfl (hon 8 (by kernel_rfl)) rfl
        have Us : a.tmps[126]? = some (.int .i64 (rd k7 cB)) := by rw [ha]; exact eX (e := (12, 126, .int .i64 (rd k7 cB))) 11 rfl rfl (hon 12 (by kernel_rfl)) rfl
        have pZ : a.tmps[120]? = some (.bool (decide (cB ≤ 8))) := by rw [ha]; exact eX (e := (6, 120, .bool (decide (cB ≤ 8)))) 5 rfl rfl (hon 6 (by kernel_rfl)) rfl
        replace ha := aa.mk ha
        have a7 := aa.mk bm
        have a8 := aa.mk bn
        have ba := aa.mk bo
        have aX := aa.mk bp
        have aU := aa.mk bq
        have dW := aa.mk dS
        have ed := aa.mk dT
        have gD := aa.mk eQ
        have aK := aa.mk cZ
        have aQ := aa.mk da
        have aT := aa.mk db
        have aV := aa.mk dc
        have bh := aa.mk dd
        have HB := aa.mk Q_HB
        have qZ := aa.mk (eL (hon 9 (by kernel_rfl)))
        have lF := aa.mk (dn (hon 9 (by kernel_rfl)))
        refine kU (w1 := w') (v := .bool (po != (rd k7 cB))) (jO rfl rfl rfl (pZ.trans (by first | rfl | (simp [*]; done)))) rfl ?_ ?_
        · go_simp
          (try simp only [b6])
          try rfl
        refine hK.out _ _ ⟨iA, dJ, k8, (by rw [ha.out]; exact gK 12 hb_ rfl rfl rfl), bm, bn, bo, bp, bq, dS, dT, eQ, cZ, da, db, dc, dd, Q_HB, eL, dn, jF⟩
      refine gJ ?_ ?_
      · rintro b a w' ⟨iA, dJ, k8, ha, bm, bn, bo, bp, bq, dS, dT, eQ, cZ, da, db, dc, dd, Q_HB, eL, dn, jF⟩ hb_ hon hoff
        refine ⟨_, rfl, fun K hK => ?_⟩
        have pZ : a.tmps[120]? = some (.bool (decide (cB ≤ 8))) := by rw [ha]; exact eX (e := (6, 120, .bool (decide (cB ≤ 8)))) 5 rfl rfl (hon 6 (by kernel_rfl)) rfl
        have aCg : a.tmps[127]? = some (.bool (po != (rd k7 cB))) := by rw [ha]; exact eX (e := (13, 127, .bool (po != (rd k7 cB)))) 12 rfl rfl (hon 13 (by kernel_rfl)) rfl
        replace ha := aa.mk ha
        have a7 := aa.mk bm
        have a8 := aa.mk bn
        have ba := aa.mk bo
        have aX := aa.mk bp
        have aU := aa.mk bq
        have dW := aa.mk dS
        have ed := aa.mk dT
        have gD := aa.mk eQ
        have aK := aa.mk cZ
        have aQ := aa.mk da
        have aT := aa.mk db
        have aV := aa.mk dc
        have bh := aa.mk dd
        have HB := aa.mk Q_HB
        have qZ := aa.mk (eL (hon 9 (by kernel_rfl)))
        have lF := aa.mk (dn (hon 9 (by kernel_rfl)))
        refine kU (w1 := w') (v := .bool (po != (rd k7 cB))) (by rfl) rfl ?_ ?_
        · go_simp
          (try simp only [b6])
          try rfl
        refine hK.out _ _ ⟨iA, dJ, k8, (by rw [ha.out]; exact gK 13 hb_ rfl rfl rfl), bm, bn, bo, bp, bq, dS, dT, eQ, cZ, da, db, dc, dd, Q_HB, eL, dn, jF⟩
      exact LJ
    rintro b a aCh hall ⟨iA, dJ, k8, ha, bm, bn, bo, bp, bq, dS, dT, eQ, cZ, da, db, dc, dd, Q_HB, eL, dn, jF⟩
    clear aK aQ aT aV bh HB a7 a8 ba aX aU dW ed gD
    have am5 := hall 1 (by kernel_rfl)
    have am6 := hall 2 (by kernel_rfl)
    have am7 := hall 3 (by kernel_rfl)
    have am8 := hall 4 (by kernel_rfl)
    have am9 := hall 5 (by kernel_rfl)
    have am_ := hall 6 (by kernel_rfl)
    have ana := hall 7 (by kernel_rfl)
    have anb := hall 8 (by kernel_rfl)
    have WS := hall 9 (by kernel_rfl)
    have aae := hall 10 (by kernel_rfl)
    have S0 := hall 11 (by kernel_rfl)
    have aaf := hall 12 (by kernel_rfl)
    have aag := hall 13 (by kernel_rfl)
    have aah := hall 14 (by kernel_rfl)
    subst ha
    obtain rfl := jF S0
    simp only [jC, am5, am6, am7, am8, am9, am_, ana, anb, WS, aae, S0, aaf, aag, aah, if_true, Act.put, jK, jA, jB]
    have a7 := aa.mk bm
    clear bm
    have a8 := aa.mk bn
    clear bn
    have ba := aa.mk bo
    clear bo
    have aX := aa.mk bp
    clear bp
    have aU := aa.mk bq
    clear bq
    have dW := aa.mk dS
    clear dS
    have ed := aa.mk dT
    clear dT
    have gD := aa.mk eQ
    clear eQ
    have aK := aa.mk cZ
    clear cZ
    have aQ := aa.mk da
    clear da
    have aT := aa.mk db
    clear db
    have aV := aa.mk dc
    clear dc
    have bh := aa.mk dd
    clear dd
    have HB := aa.mk Q_HB
    clear Q_HB
    have qZ := aa.mk (eL WS)
    clear eL
    have lF := aa.mk (dn WS)
    clear dn
    clear hall am5 am6 am7 am8 am9 am_ ana anb WS aae S0 aaf aag aah
    obtain ⟨ayT, anc⟩ := lF.out
    clear lF
    subst anc
    try go_wp2
    go_meet
    case rel => exact ⟨_, ((po != (rd k7 cB))), eF, H', ⟨by have := IZ.out; first | omega | exact Nat.le_refl _⟩, ⟨d_ (Kd.bU gD.out (fun _ hk => by first | exact ⟨hk.2.2.2.2.2.2.1, ⟨hk.2.2.2.2.2.2.2.1, ⟨hk.2.1, ⟨hk.2.2.1, ⟨hk.2.2.2.1, ⟨hk.2.2.2.2.1, ⟨hk.2.2.2.2.2.1, ⟨hk.2.2.2.2.2.2.2.2.1, ⟨hk.2.2.2.2.2.2.2.2.2.1, ⟨hk.2.2.2.2.2.2.2.2.2.2.1, ⟨hk.2.2.2.2.2.2.2.2.2.2.2.1, hk.2.2.2.2.2.2.2.2.2.2.2.2⟩⟩⟩⟩⟩⟩⟩⟩⟩⟩⟩ | exact pn hk))⟩, ⟨d_ (Kd.bU dW.out (fun _ hk => by first | exact ⟨hk.2.2.2.2.2.2.2.1, ⟨hk.2.2.2.2.2.2.1, ⟨hk.2.1, ⟨hk.2.2.1, ⟨hk.2.2.2.1, ⟨hk.2.2.2.2.1, ⟨hk.2.2.2.2.2.1, ⟨hk.2.2.2.2.2.2.2.2.1, ⟨hk.2.2.2.2.2.2.2.2.2.1, ⟨hk.2.2.2.2.2.2.2.2.2.2.1, ⟨hk.2.2.2.2.2.2.2.2.2.2.2.1, hk.2.2.2.2.2.2.2.2.2.2.2.2⟩⟩⟩⟩⟩⟩⟩⟩⟩⟩⟩ | exact pn hk))⟩, ⟨d_ (Kd.bU ed.out (fun _ hk => by first | exact ⟨hk.2.2.2.2.2.2.1, ⟨hk.2.2.2.2.2.1, ⟨hk.2.1, ⟨hk.2.2.1, ⟨hk.2.2.2.1, ⟨hk.2.2.2.2.1, ⟨hk.2.2.2.2.2.2.2.1, ⟨hk.2.2.2.2.2.2.2.2.1, ⟨hk.2.2.2.2.2.2.2.2.2.1, ⟨hk.2.2.2.2.2.2.2.2.2.2.1, hk.2.2.2.2.2.2.2.2.2.2.2⟩⟩⟩⟩⟩⟩⟩⟩⟩⟩ | exact pn hk))⟩, ⟨by (with_reducible repeat (first | apply Kd.gf | apply Kd.gh | apply Kd.dV)); exact Kd.fe a7.out (fun _ hk => by first | exact ⟨hk.2.1, ⟨hk.2.2.1, ⟨hk.2.2.2.1, hk.2.2.2.2⟩⟩⟩ | exact pn hk)⟩, ⟨by (with_reducible repeat (first | apply Kd.gf | apply Kd.gh | apply Kd.dV)); exact Kd.fe a8.out (fun _ hk => by first | exact ⟨hk.2.1, ⟨hk.2.2.1, ⟨hk.2.2.2.1, hk.2.2.2.2⟩⟩⟩ | exact pn hk)⟩, ⟨by (with_reducible repeat (first | apply Kd.gf | apply Kd.gh | apply Kd.dV)); exact Kd.fe ba.out (fun _ hk => by first | exact ⟨hk.2.1, ⟨hk.2.2.1, ⟨hk.2.2.2.1, hk.2.2.2.2⟩⟩⟩ | exact pn hk)⟩, ⟨by (with_reducible repeat (first | apply Kd.gf | apply Kd.gh | apply Kd.dV)); exact Kd.fe aX.out (fun _ hk => by first | exact ⟨hk.2.1, ⟨hk.2.2.1, ⟨hk.2.2.2.1, hk.2.2.2.2⟩⟩⟩ | exact pn hk)⟩, ⟨by (with_reducible repeat (first | apply Kd.gf | apply Kd.gh | apply Kd.dV)); exact Kd.fe aU.out (fun _ hk => by first | exact ⟨hk.2.1, ⟨hk.2.2.1, ⟨hk.2.2.2.1, hk.2.2.2.2⟩⟩⟩ | exact pn hk)⟩, ⟨cC aK.out⟩, ⟨cC aQ.out⟩, ⟨cC aT.out⟩, ⟨cC aV.out⟩, ⟨cC bh.out⟩, ⟨bC HB⟩⟩
   case rest =>
    clear SX
    obtain ⟨kq, vk, rfl, HA, KY, gD, dW, ed, a7, a8, ba, aX, aU, aK, aQ, aT, aV, bh, HB⟩ := hcut
    cases kq with
    | zero => exact absurd HA.out (by simp [aw.j1])
    | succ aai =>
     have H := HA.out
     clear HA
     simp only [aw.j1] at H
     by_cases WT : vk = true
     · subst WT
       have H1 : (some false) = some r := by rw [if_pos rfl] at H; exact H
       exact absurd (H1.trans (congrArg some hr_.out)) (by simp)
     replace WT := Bool.eq_false_iff.mpr WT
     subst WT
     rw [if_neg (show ¬ (false = true) by decide)] at H
     have H' := aa.mk H
     clear H
     go_wp2
     go_loopg [21] aai (fun kq v21 w' => ∃ (pr : Int), v21 = .int .i64 pr ∧ aa (aw.l0 kq kT jY iN jU pq pr cv cq = some r) ∧ aa (kq ≤ aai) ∧ aa (Kd.N ix 26 w' w.heap.size (fun k_ => some k_ ≠ (lE : Value).ownBlock ∧ some k_ ≠ (nN : Value).ownBlock ∧ some k_ ≠ ((.slice eT cN.length eI) : Value).ownBlock ∧ some k_ ≠ ((.slice eG dm.length eH) : Value).ownBlock ∧ some k_ ≠ ((.slice fm dt.length fo) : Value).ownBlock ∧ some k_ ≠ ((.slice fp cv.length fg) : Value).ownBlock ∧ some k_ ≠ ((.slice fE cq.length fF) : Value).ownBlock ∧ k_ ≠ e5 ∧ k_ ≠ fh ∧ k_ ≠ fq ∧ k_ ≠ fz ∧ k_ ≠ ev) mm kT) ∧ aa (Kd.N ix 26 w' w.heap.size (fun k_ => some k_ ≠ (mm : Value).ownBlock ∧ some k_ ≠ (nN : Value).ownBlock ∧ some k_ ≠ ((.slice eT cN.length eI) : Value).ownBlock ∧ some k_ ≠ ((.slice eG dm.length eH) : Value).ownBlock ∧ some k_ ≠ ((.slice fm dt.length fo) : Value).ownBlock ∧ some k_ ≠ ((.slice fp cv.length fg) : Value).ownBlock ∧ some k_ ≠ ((.slice fE cq.length fF) : Value).ownBlock ∧ k_ ≠ e5 ∧ k_ ≠ fh ∧ k_ ≠ fq ∧ k_ ≠ fz ∧ k_ ≠ ev) lE iN) ∧ aa (Kd.N ix 26 w' w.heap.size (fun k_ => some k_ ≠ (mm : Value).ownBlock ∧ some k_ ≠ (lE : Value).ownBlock ∧ some k_ ≠ ((.slice eT cN.length eI) : Value).ownBlock ∧ some k_ ≠ ((.slice eG dm.length eH) : Value).ownBlock ∧ some k_ ≠ ((.slice fm dt.length fo) : Value).ownBlock ∧ some k_ ≠ ((.slice fp cv.length fg) : Value).ownBlock ∧ k_ ≠ e5 ∧ k_ ≠ fh ∧ k_ ≠ fq ∧ k_ ≠ fz ∧ k_ ≠ ev) nN jU) ∧ aa (Kd.Q (Kd.int .i64) 3 w' w.heap.size (fun k_ => some k_ ≠ ((.slice eG dm.length eH) : Value).ownBlock ∧ some k_ ≠ ((.slice fm dt.length fo) : Value).ownBlock ∧ some k_ ≠ ((.slice fp cv.length fg) : Value).ownBlock ∧ some k_ ≠ ((.slice fE cq.length fF) : Value).ownBlock) (.slice eT cN.length eI) cN) ∧ aa (Kd.Q (Kd.int .i64) 3 w' w.heap.size (fun k_ => some k_ ≠ ((.slice eT cN.length eI) : Value).ownBlock ∧ some k_ ≠ ((.slice fm dt.length fo) : Value).ownBlock ∧ some k_ ≠ ((.slice fp cv.length fg) : Value).ownBlock ∧ some k_ ≠ ((.slice fE cq.length fF) : Value).ownBlock) (.slice eG dm.length eH) dm) ∧ aa (Kd.Q (Kd.int .i64) 3 w' w.heap.size (fun k_ => some k_ ≠ ((.slice eT cN.length eI) : Value).ownBlock ∧ some k_ ≠ ((.slice eG dm.length eH) : Value).ownBlock ∧ some k_ ≠ ((.slice fp cv.length fg) : Value).ownBlock ∧ some k_ ≠ ((.slice fE cq.length fF) : Value).ownBlock) (.slice fm dt.length fo) dt) ∧ aa (Kd.Q (Kd.int .i64) 3 w' w.heap.size (fun k_ => some k_ ≠ ((.slice eT cN.length eI) : Value).ownBlock ∧ some k_ ≠ ((.slice eG dm.length eH) : Value).ownBlock ∧ some k_ ≠ ((.slice fm dt.length fo) : Value).ownBlock ∧ some k_ ≠ ((.slice fE cq.length fF) : Value).ownBlock) (.slice fp cv.length fg) cv) ∧ aa (Kd.Q (Kd.int .i64) 3 w' w.heap.size (fun k_ => some k_ ≠ ((.slice eT cN.length eI) : Value).ownBlock ∧ some k_ ≠ ((.slice eG dm.length eH) : Value).ownBlock ∧ some k_ ≠ ((.slice fm dt.length fo) : Value).ownBlock ∧ some k_ ≠ ((.slice fp cv.length fg) : Value).ownBlock) (.slice fE cq.length fF) cq) ∧ aa (w'.heap[e5]? = some (.cells #[(.slice eT cN.length eI)] 26 (0, 0))) ∧ aa (w'.heap[fh]? = some (.cells #[(.slice eG dm.length eH)] 26 (0, 0))) ∧ aa (w'.heap[fq]? = some (.cells #[(.slice fm dt.length fo)] 26 (0, 0))) ∧ aa (w'.heap[fz]? = some (.cells #[(.slice fp cv.length fg)] 26 (0, 0))) ∧ aa (w'.heap[ev]? = some (.cells #[(.slice fE cq.length fF)] 26 (0, 0))) ∧ aa (Below w.heap.size w w'))
     case atStart => exact ⟨(0), eF, H', ⟨Nat.le_refl _⟩, ⟨d_ gD.out⟩, ⟨d_ dW.out⟩, ⟨d_ ed.out⟩, ⟨fS a7.out⟩, ⟨fS a8.out⟩, ⟨fS ba.out⟩, ⟨fS aX.out⟩, ⟨fS aU.out⟩, ⟨cC aK.out⟩, ⟨cC aQ.out⟩, ⟨cC aT.out⟩, ⟨cC aV.out⟩, ⟨cC bh.out⟩, ⟨bC HB⟩⟩
     case round =>
      clear H'
      obtain ⟨pr, rfl, HA, lp, gD, dW, ed, a7, a8, ba, aX, aU, aK, aQ, aT, aV, bh, HB⟩ := hrel
      cases gk with
      | zero => exact absurd HA.out (by simp [aw.l0])
      | succ k3 =>
       have H := HA.out
       clear HA
       simp only [aw.l0] at H
       by_cases MT : pr < (kT.length : Int)
       · rw [if_pos MT] at H
         have S1 : decide (pr < (kT.length : Int)) = true := decide_eq_true MT
         clear MT
         obtain ⟨aun, H⟩ := dB H
         obtain ⟨⟨tE, ane⟩, auo, H⟩ := eA H
         (try dsimp only at H)
         by_cases WU : ane = true
         rotate_left
         · replace WU := Bool.eq_false_iff.mpr WU
           subst WU
           have H1 : (some false) = some r := by rw [if_neg (show ¬ (false = true) by decide)] at H; exact H
           exact absurd (H1.trans (congrArg some hr_.out)) (by simp)
         subst WU
         rw [if_pos rfl] at H
         obtain ⟨SJ, aup, H⟩ := eA H
         by_cases WV : SJ = true
         rotate_left
         · replace WV := Bool.eq_false_iff.mpr WV
           subst WV
           have H1 : (some false) = some r := by rw [if_neg (show ¬ (false = true) by decide)] at H; exact H
           exact absurd (H1.trans (congrArg some hr_.out)) (by simp)
         subst WV
         rw [if_pos rfl] at H
         have H' := aa.mk H
         clear H
         obtain ⟨ayU, ayV, anf⟩ := Kd.gw gD.out
         subst anf
         have KZ : 0 ≤ (pr : Int) := bO
         have K0 : pr < (kT.length : Int) := bO
         obtain ⟨auq, WW, WX, ang, S3, FL, FM⟩ := mP (Kd.ei gD.out).2.2 pr KZ K0
         cases ang
         obtain ⟨aur, WY, WZ, K1⟩ := Kd.wG gD.out z26 pr KZ (by first | exact K0 | exact bO | (have e_ := (Kd.ei gD.out).1; omega))
         obtain ⟨anh, ani, rfl, Aj, Ak⟩ := jP WZ
         have vm := K1 0 _ rfl
         rw [Nat.add_zero, show (ix).sz = 1 from rfl, Nat.mul_one] at vm
         replace vm := Option.some.inj (vm.symm.trans S3)
         injection vm with hva_ hvn_ hvc_
         rw [hva_] at Ak
         rw [hvc_] at Aj
         have oK := aa.mk (show Kd.V (Kd.int .i64) 3 _ w.heap.size _ _ ((cG kT pr).f0) from Kd.yM Aj Ak)
         clear hva_ hvn_ hvc_ Ak Aj
         clear K1 WY
         have mo := aa.mk FM
         have S4 := aa.mk FL
         clear FM FL
         replace KZ := eq_true KZ
         replace K0 := eq_true K0
         go_wp2_with (first | ((with_reducible refine gate_callee (f := 7) rfl ?_); refine dU (some 140) Tryz.func7 #[.agg #[.slice WW ((cG kT pr).f0).length WX]] ?_; (with_reducible refine (fQ.calls k3 _ _ ((cG kT pr).f0) tE true _ ?ah ?aj auo.out).mono ?_); (case ah => repeat (first | exact (by repeat (first | (with_reducible exact mo.out) | (with_reducible refine Kd.cz ?_ _) | (with_reducible refine Kd.cA ?_ _) | (with_reducible refine Kd.di ?_) | exact mo.out)) | (with_reducible refine Kd.cz ?_ _) | (with_reducible refine Kd.cA ?_ _) | (with_reducible refine Kd.di ?_))); (case aj => exact S4.out); rintro e aCi ⟨ayW, rfl, b0, hb⟩; refine ⟨_, rfl, ?_⟩; replace gD := aa.mk (Kd.dP (d_ gD.out) (Kd.cV b0) hb); replace dW := aa.mk (Kd.dP (d_ dW.out) (Kd.cV b0) hb); replace ed := aa.mk (Kd.dP (d_ ed.out) (Kd.cV b0) hb); replace oK := aa.mk (Kd.kf (pF oK.out) (Kd.cV b0) hb); have tX := aa.mk (Kd.aW (Kd.eV (Kd.eV (Kd.eV (Kd.eV (Kd.eV b0 (Kd.lH (fS a7.out))) (Kd.lH (fS a8.out))) (Kd.lH (fS ba.out))) (Kd.lH (fS aX.out))) (Kd.lH (fS aU.out))) (ag (bC HB))); replace a7 := aa.mk (Kd.iY (fS a7.out) (Kd.cV b0) hb); replace a8 := aa.mk (Kd.iY (fS a8.out) (Kd.cV b0) hb); replace ba := aa.mk (Kd.iY (fS ba.out) (Kd.cV b0) hb); replace aX := aa.mk (Kd.iY (fS aX.out) (Kd.cV b0) hb); replace aU := aa.mk (Kd.iY (fS aU.out) (Kd.cV b0) hb); replace aK := cn aK hb; replace aQ := cn aQ hb; replace aT := cn aT hb; replace aV := cn aV hb; replace bh := cn bh hb; replace mo := aa.mk (Kd.dx (by repeat (first | (with_reducible exact mo.out) | (with_reducible refine Kd.cz ?_ _) | (with_reducible refine Kd.cA ?_ _) | (with_reducible refine Kd.di ?_) | exact mo.out)) hb); replace HB := eM HB hb; (try clear hb); (try clear b0)) | ((with_reducible refine gate_dst (N := 22) rfl ?_); (try (refine gate_guard (by rfl) ?_; dsimp only)); refine iP 22 #[.slice none 0 0] 26 ?_; intro lu hg aCj hbox hb; replace gD := aa.mk (Kd.bM (Kd.ky (d_ gD.out) lu (Nat.le_of_eq hg.symm)) hb); replace dW := aa.mk (Kd.bM (Kd.ky (d_ dW.out) lu (Nat.le_of_eq hg.symm)) hb); replace ed := aa.mk (Kd.bM (Kd.ky (d_ ed.out) lu (Nat.le_of_eq hg.symm)) hb); replace a7 := aa.mk (Kd.bt (fS a7.out) hb); replace a8 := aa.mk (Kd.bt (fS a8.out) hb); replace ba := aa.mk (Kd.bt (fS ba.out) hb); replace aX := aa.mk (Kd.bt (fS aX.out) hb); replace aU := aa.mk (Kd.bt (fS aU.out) hb); replace oK := aa.mk (Kd.iB (Kd.nk (pF oK.out) lu (Nat.le_of_eq hg.symm)) hb); replace tX := aa.mk (Kd.aY (b9 tX.out) hb); replace mo := aa.mk (Kd.dx (by repeat (first | (with_reducible exact mo.out) | (with_reducible refine Kd.cz ?_ _) | (with_reducible refine Kd.cA ?_ _) | (with_reducible refine Kd.di ?_) | exact mo.out)) hb); have nD := aa.mk (hbox); have aus := kW hg (bC HB); have aut := kW hg (bC HB); replace HB := eM HB hb; have FO := mw hg aK; have FP := my hg aK; replace aK := cn aK hb; have FQ := mw hg aQ; have FR := my hg aQ; replace aQ := cn aQ hb; have FT := mw hg aT; have FU := my hg aT; replace aT := cn aT hb; have FV := mw hg aV; have FW := my hg aV; replace aV := cn aV hb; have FX := mw hg bh; have FY := my hg bh; replace bh := cn bh hb; clear hb hbox hg; obtain ⟨Al, xv, anj⟩ := Kd.aN tX.out; subst anj; have auu := FP.out; have auv := FO.out; have auw := FR.out; have auy := FQ.out; have auz := FU.out; have auA := FT.out; have auB := FW.out; have auC := FV.out; have auD := FY.out; have auE := FX.out; have ank := fG nD; have anl := af nD.out 0; have auF := xl.out; have auG := xk.out; have auH := sq.out; have auI := so.out; have auJ := sw.out; have auK := sr.out; have auL := xr.out; have auM := xt.out; have anm := fG aV; have ann := af aV.out 0) | (go_at_call 18; (with_reducible refine (cP.calls k3 _ _ tE _ _ cv true _ ?ah ?aj ?fB ?hD aup.out).mono ?_); (case ah => refine (Kd.ao (e := 3) (base := w.heap.size) (ok := fun k_ => (((((True ∧ some k_ ≠ (.slice eT cN.length eI : Value).ownBlock) ∧ some k_ ≠ (.slice eG dm.length eH : Value).ownBlock) ∧ some k_ ≠ (.slice fm dt.length fo : Value).ownBlock) ∧ some k_ ≠ (.slice fp cv.length fg : Value).ownBlock) ∧ some k_ ≠ (.slice fE cq.length fF : Value).ownBlock)) (n := tE.length) (c := xv) ?_).2.2; exact (nh tX nD)); (case aj => exact (Kd.ao tX.out).2.1); (case fB => refine (Kd.eU (e := 3) (base := w.heap.size) (ok := fun k_ => ((some k_ ≠ (.slice eT cN.length eI : Value).ownBlock ∧ (some k_ ≠ (.slice eG dm.length eH : Value).ownBlock ∧ (some k_ ≠ (.slice fm dt.length fo : Value).ownBlock ∧ some k_ ≠ (.slice fE cq.length fF : Value).ownBlock))) ∧ some k_ ≠ (.slice Al tE.length xv : Value).ownBlock)) (n := cv.length) (c := fg) ?_).2.2; exact (qB aX nD)); (case hD => exact (Kd.eU aX.out).2.1); rintro e aCk ⟨rfl, hb⟩; replace gD := aa.mk (Kd.bM (d_ ((Kd.bU (Kd.q8 (p := ⟨lu, 0, none⟩) (Kd.bU gD.out (fun k_ hk => (⟨hk, hk.2⟩ : _ ∧ k_ ≠ lu))) (fun _ hk => hk.2) (.slice Al tE.length xv)) (fun _ h_ => h_.1)))) hb); replace dW := aa.mk (Kd.bM (d_ ((Kd.bU (Kd.q8 (p := ⟨lu, 0, none⟩) (Kd.bU dW.out (fun k_ hk => (⟨hk, hk.2⟩ : _ ∧ k_ ≠ lu))) (fun _ hk => hk.2) (.slice Al tE.length xv)) (fun _ h_ => h_.1)))) hb); replace ed := aa.mk (Kd.bM (d_ ((Kd.bU (Kd.q8 (p := ⟨lu, 0, none⟩) (Kd.bU ed.out (fun k_ hk => (⟨hk, hk.2⟩ : _ ∧ k_ ≠ lu))) (fun _ hk => hk.2) (.slice Al tE.length xv)) (fun _ h_ => h_.1)))) hb); replace a7 := aa.mk (Kd.bt (qB a7 nD) hb); replace a8 := aa.mk (Kd.bt (qB a8 nD) hb); replace ba := aa.mk (Kd.bt (qB ba nD) hb); replace aX := aa.mk (Kd.bt (qB aX nD) hb); replace aU := aa.mk (Kd.bt (qB aU nD) hb); replace tX := aa.mk (Kd.aY (nh tX nD) hb); replace aK := aa.mk (bW (g := e5) (o := .cells #[.slice eT cN.length eI] 26 (0, 0)) (pB aK) hb); replace aQ := aa.mk (bW (g := fh) (o := .cells #[.slice eG dm.length eH] 26 (0, 0)) (pB aQ) hb); replace aT := aa.mk (bW (g := fq) (o := .cells #[.slice fm dt.length fo] 26 (0, 0)) (pB aT) hb); replace aV := aa.mk (bW (g := fz) (o := .cells #[.slice fp cv.length fg] 26 (0, 0)) (pB aV) hb); replace bh := aa.mk (bW (g := ev) (o := .cells #[.slice fE cq.length fF] 26 (0, 0)) (pB bh) hb); replace mo := aa.mk (Kd.dx ((Kd.fZ (pF ((Kd.je (Kd.yN (p := ⟨lu, 0, none⟩) (Kd.je oK.out (fun k_ hk => (⟨hk, hk.2⟩ : _ ∧ k_ ≠ lu))) (fun _ hk => hk.2) (.slice Al tE.length xv)) (fun _ h_ => h_.1))))).2.2) hb); replace oK := aa.mk (Kd.iB (pF ((Kd.je (Kd.yN (p := ⟨lu, 0, none⟩) (Kd.je oK.out (fun k_ hk => (⟨hk, hk.2⟩ : _ ∧ k_ ≠ lu))) (fun _ hk => hk.2) (.slice Al tE.length xv)) (fun _ h_ => h_.1)))) hb); replace nD := aa.mk (bW (g := lu) (o := .cells #[.slice Al tE.length xv] 26 (0, 0)) (mz nD) hb); replace HB := eM HB hb; (try clear hb)))
         go_roundg k3
         case measure => have := IZ.out; have := KY.out; have := lp.out; omega
         case rel => exact ⟨(wrap64 (pr + 1)), eF, H', ⟨by have := IZ.out; have := KY.out; have := lp.out; omega⟩, ⟨d_ (Kd.bU gD.out (fun _ hk => by first | exact ⟨hk.1.1.1, ⟨hk.1.1.2.1, ⟨hk.1.1.2.2.1, ⟨hk.1.1.2.2.2.1, ⟨hk.1.1.2.2.2.2.1, ⟨hk.1.1.2.2.2.2.2.1, ⟨hk.1.1.2.2.2.2.2.2.1, ⟨hk.1.1.2.2.2.2.2.2.2.1, ⟨hk.1.1.2.2.2.2.2.2.2.2.1, ⟨hk.1.1.2.2.2.2.2.2.2.2.2.1, ⟨hk.1.1.2.2.2.2.2.2.2.2.2.2.1, hk.1.1.2.2.2.2.2.2.2.2.2.2.2⟩⟩⟩⟩⟩⟩⟩⟩⟩⟩⟩ | exact pn hk))⟩, ⟨d_ (Kd.bU dW.out (fun _ hk => by first | exact ⟨hk.1.1.1, ⟨hk.1.1.2.1, ⟨hk.1.1.2.2.1, ⟨hk.1.1.2.2.2.1, ⟨hk.1.1.2.2.2.2.1, ⟨hk.1.1.2.2.2.2.2.1, ⟨hk.1.1.2.2.2.2.2.2.1, ⟨hk.1.1.2.2.2.2.2.2.2.1, ⟨hk.1.1.2.2.2.2.2.2.2.2.1, ⟨hk.1.1.2.2.2.2.2.2.2.2.2.1, ⟨hk.1.1.2.2.2.2.2.2.2.2.2.2.1, hk.1.1.2.2.2.2.2.2.2.2.2.2.2⟩⟩⟩⟩⟩⟩⟩⟩⟩⟩⟩ | exact pn hk))⟩, ⟨d_ (Kd.bU ed.out (fun _ hk => by first | exact ⟨hk.1.1.1, ⟨hk.1.1.2.1, ⟨hk.1.1.2.2.1, ⟨hk.1.1.2.2.2.1, ⟨hk.1.1.2.2.2.2.1, ⟨hk.1.1.2.2.2.2.2.1, ⟨hk.1.1.2.2.2.2.2.2.1, ⟨hk.1.1.2.2.2.2.2.2.2.1, ⟨hk.1.1.2.2.2.2.2.2.2.2.1, ⟨hk.1.1.2.2.2.2.2.2.2.2.2.1, hk.1.1.2.2.2.2.2.2.2.2.2.2⟩⟩⟩⟩⟩⟩⟩⟩⟩⟩ | exact pn hk))⟩, ⟨by (with_reducible repeat (first | apply Kd.gf | apply Kd.gh | apply Kd.dV)); exact Kd.fe a7.out (fun _ hk => by first | exact ⟨hk.1.1, ⟨hk.1.2.1, ⟨hk.1.2.2.1, hk.1.2.2.2⟩⟩⟩ | exact pn hk)⟩, ⟨by (with_reducible repeat (first | apply Kd.gf | apply Kd.gh | apply Kd.dV)); exact Kd.fe a8.out (fun _ hk => by first | exact ⟨hk.1.1, ⟨hk.1.2.1, ⟨hk.1.2.2.1, hk.1.2.2.2⟩⟩⟩ | exact pn hk)⟩, ⟨by (with_reducible repeat (first | apply Kd.gf | apply Kd.gh | apply Kd.dV)); exact Kd.fe ba.out (fun _ hk => by first | exact ⟨hk.1.1, ⟨hk.1.2.1, ⟨hk.1.2.2.1, hk.1.2.2.2⟩⟩⟩ | exact pn hk)⟩, ⟨by (with_reducible repeat (first | apply Kd.gf | apply Kd.gh | apply Kd.dV)); exact Kd.fe aX.out (fun _ hk => by first | exact ⟨hk.1.1, ⟨hk.1.2.1, ⟨hk.1.2.2.1, hk.1.2.2.2⟩⟩⟩ | exact pn hk)⟩, ⟨by (with_reducible repeat (first | apply Kd.gf | apply Kd.gh | apply Kd.dV)); exact Kd.fe aU.out (fun _ hk => by first | exact ⟨hk.1.1, ⟨hk.1.2.1, ⟨hk.1.2.2.1, hk.1.2.2.2⟩⟩⟩ | exact pn hk)⟩, ⟨cC aK.out⟩, ⟨cC aQ.out⟩, ⟨cC aT.out⟩, ⟨cC aV.out⟩, ⟨cC bh.out⟩, ⟨bC HB⟩⟩
       rw [if_neg MT] at H
       have S1 : decide (pr < (kT.length : Int)) = false := decide_eq_false MT
       clear MT
       have H' := aa.mk H
       clear H
       obtain ⟨ayX, ayY, ano⟩ := Kd.gw gD.out
       subst ano
       go_wp2
       go_loopg [24] k3 (fun kq v24 w' => ∃ (pv : Int), v24 = .int .i64 pv ∧ aa (aw.l1 kq jY iN jU pq pv cq = some r) ∧ aa (kq ≤ k3) ∧ aa (Kd.N ix 26 w' w.heap.size (fun k_ => some k_ ≠ (nN : Value).ownBlock ∧ some k_ ≠ ((.slice eT cN.length eI) : Value).ownBlock ∧ some k_ ≠ ((.slice eG dm.length eH) : Value).ownBlock ∧ some k_ ≠ ((.slice fm dt.length fo) : Value).ownBlock ∧ some k_ ≠ ((.slice fp cv.length fg) : Value).ownBlock ∧ some k_ ≠ ((.slice fE cq.length fF) : Value).ownBlock ∧ k_ ≠ e5 ∧ k_ ≠ fh ∧ k_ ≠ fq ∧ k_ ≠ fz ∧ k_ ≠ ev) lE iN) ∧ aa (Kd.N ix 26 w' w.heap.size (fun k_ => some k_ ≠ (lE : Value).ownBlock ∧ some k_ ≠ ((.slice eT cN.length eI) : Value).ownBlock ∧ some k_ ≠ ((.slice eG dm.length eH) : Value).ownBlock ∧ some k_ ≠ ((.slice fm dt.length fo) : Value).ownBlock ∧ some k_ ≠ ((.slice fp cv.length fg) : Value).ownBlock ∧ k_ ≠ e5 ∧ k_ ≠ fh ∧ k_ ≠ fq ∧ k_ ≠ fz ∧ k_ ≠ ev) nN jU) ∧ aa (Kd.Q (Kd.int .i64) 3 w' w.heap.size (fun k_ => some k_ ≠ ((.slice eG dm.length eH) : Value).ownBlock ∧ some k_ ≠ ((.slice fm dt.length fo) : Value).ownBlock ∧ some k_ ≠ ((.slice fp cv.length fg) : Value).ownBlock ∧ some k_ ≠ ((.slice fE cq.length fF) : Value).ownBlock) (.slice eT cN.length eI) cN) ∧ aa (Kd.Q (Kd.int .i64) 3 w' w.heap.size (fun k_ => some k_ ≠ ((.slice eT cN.length eI) : Value).ownBlock ∧ some k_ ≠ ((.slice fm dt.length fo) : Value).ownBlock ∧ some k_ ≠ ((.slice fp cv.length fg) : Value).ownBlock ∧ some k_ ≠ ((.slice fE cq.length fF) : Value).ownBlock) (.slice eG dm.length eH) dm) ∧ aa (Kd.Q (Kd.int .i64) 3 w' w.heap.size (fun k_ => some k_ ≠ ((.slice eT cN.length eI) : Value).ownBlock ∧ some k_ ≠ ((.slice eG dm.length eH) : Value).ownBlock ∧ some k_ ≠ ((.slice fp cv.length fg) : Value).ownBlock ∧ some k_ ≠ ((.slice fE cq.length fF) : Value).ownBlock) (.slice fm dt.length fo) dt) ∧ aa (Kd.Q (Kd.int .i64) 3 w' w.heap.size (fun k_ => some k_ ≠ ((.slice eT cN.length eI) : Value).ownBlock ∧ some k_ ≠ ((.slice eG dm.length eH) : Value).ownBlock ∧ some k_ ≠ ((.slice fm dt.length fo) : Value).ownBlock ∧ some k_ ≠ ((.slice fE cq.length fF) : Value).ownBlock) (.slice fp cv.length fg) cv) ∧ aa (Kd.Q (Kd.int .i64) 3 w' w.heap.size (fun k_ => some k_ ≠ ((.slice eT cN.length eI) : Value).ownBlock ∧ some k_ ≠ ((.slice eG dm.length eH) : Value).ownBlock ∧ some k_ ≠ ((.slice fm dt.length fo) : Value).ownBlock ∧ some k_ ≠ ((.slice fp cv.length fg) : Value).ownBlock) (.slice fE cq.length fF) cq) ∧ aa (w'.heap[e5]? = some (.cells #[(.slice eT cN.length eI)] 26 (0, 0))) ∧ aa (w'.heap[fh]? = some (.cells #[(.slice eG dm.length eH)] 26 (0, 0))) ∧ aa (w'.heap[fq]? = some (.cells #[(.slice fm dt.length fo)] 26 (0, 0))) ∧ aa (w'.heap[fz]? = some (.cells #[(.slice fp cv.length fg)] 26 (0, 0))) ∧ aa (w'.heap[ev]? = some (.cells #[(.slice fE cq.length fF)] 26 (0, 0))) ∧ aa (Below w.heap.size w w'))
       case atStart => exact ⟨(0), eF, H', ⟨Nat.le_refl _⟩, ⟨d_ (Kd.bU dW.out (fun _ hk => by first | exact ⟨hk.2.1, ⟨hk.2.2.1, ⟨hk.2.2.2.1, ⟨hk.2.2.2.2.1, ⟨hk.2.2.2.2.2.1, ⟨hk.2.2.2.2.2.2.1, ⟨hk.2.2.2.2.2.2.2.1, ⟨hk.2.2.2.2.2.2.2.2.1, ⟨hk.2.2.2.2.2.2.2.2.2.1, ⟨hk.2.2.2.2.2.2.2.2.2.2.1, hk.2.2.2.2.2.2.2.2.2.2.2⟩⟩⟩⟩⟩⟩⟩⟩⟩⟩ | exact pn hk))⟩, ⟨d_ (Kd.bU ed.out (fun _ hk => by first | exact ⟨hk.2.1, ⟨hk.2.2.1, ⟨hk.2.2.2.1, ⟨hk.2.2.2.2.1, ⟨hk.2.2.2.2.2.1, ⟨hk.2.2.2.2.2.2.1, ⟨hk.2.2.2.2.2.2.2.1, ⟨hk.2.2.2.2.2.2.2.2.1, ⟨hk.2.2.2.2.2.2.2.2.2.1, hk.2.2.2.2.2.2.2.2.2.2⟩⟩⟩⟩⟩⟩⟩⟩⟩ | exact pn hk))⟩, ⟨fS a7.out⟩, ⟨fS a8.out⟩, ⟨fS ba.out⟩, ⟨fS aX.out⟩, ⟨fS aU.out⟩, ⟨cC aK.out⟩, ⟨cC aQ.out⟩, ⟨cC aT.out⟩, ⟨cC aV.out⟩, ⟨cC bh.out⟩, ⟨bC HB⟩⟩
       case round =>
        clear H'
        try clear S1
        obtain ⟨pv, rfl, HA, qx, dW, ed, a7, a8, ba, aX, aU, aK, aQ, aT, aV, bh, HB⟩ := hrel
        cases gk with
        | zero => exact absurd HA.out (by simp [aw.l1])
        | succ k4 =>
         have H := HA.out
         clear HA
         simp only [aw.l1] at H
         by_cases MU : pv < (iN.length : Int)
         · rw [if_pos MU] at H
           have ae5 : decide (pv < (iN.length : Int)) = true := decide_eq_true MU
           clear MU
           obtain ⟨auN, H⟩ := dB H
           obtain ⟨BV, auO, H⟩ := eA H
           by_cases S5 : BV = jY
           rotate_left
           · rw [if_neg S5] at H
             exact absurd (H.trans (congrArg some hr_.out)) (by simp)
           rw [if_pos S5] at H
           have auP : (BV == jY) = true := beq_iff_eq.mpr S5
           have auQ : (BV != jY) = false := bne_eq_false_iff_eq.mpr S5
           clear S5
           have H' := aa.mk H
           clear H
           obtain ⟨ayZ, ay0, anp⟩ := Kd.gw dW.out
           subst anp
           have K2 : 0 ≤ (pv : Int) := bO
           have K3 : pv < (iN.length : Int) := bO
           obtain ⟨auR, W3, W4, anq, S6, FZ, F0⟩ := mP (Kd.ei dW.out).2.2 pv K2 K3
           cases anq
           obtain ⟨auS, W5, W6, K4⟩ := Kd.wG dW.out z26 pv K2 (by first | exact K3 | exact bO | (have e_ := (Kd.ei dW.out).1; omega))
           obtain ⟨anr, ans, rfl, Am, An⟩ := jP W6
           have vn := K4 0 _ rfl
           rw [Nat.add_zero, show (ix).sz = 1 from rfl, Nat.mul_one] at vn
           replace vn := Option.some.inj (vn.symm.trans S6)
           injection vn with hva_ hvn_ hvc_
           rw [hva_] at An
           rw [hvc_] at Am
           have F1 := aa.mk (show Kd.V (Kd.int .i64) 3 _ w.heap.size _ _ ((cG iN pv).f0) from Kd.yM Am An)
           clear hva_ hvn_ hvc_ An Am
           clear K4 W5
           have sx := aa.mk F0
           have S7 := aa.mk FZ
           clear F0 FZ
           replace K2 := eq_true K2
           replace K3 := eq_true K3
           go_wp2_with (first | ((with_reducible refine gate_callee (f := 23) rfl ?_); refine dU (some 161) Tryz.func23 #[.agg #[.slice W3 ((cG iN pv).f0).length W4]] ?_; (with_reducible refine (iR.calls k4 _ _ ((cG iN pv).f0) BV _ ?ah ?aj auO.out).mono ?_); (case ah => repeat (first | exact (by repeat (first | (with_reducible exact sx.out) | (with_reducible refine Kd.cz ?_ _) | (with_reducible refine Kd.cA ?_ _) | (with_reducible refine Kd.di ?_) | exact sx.out)) | (with_reducible refine Kd.cz ?_ _) | (with_reducible refine Kd.cA ?_ _) | (with_reducible refine Kd.di ?_))); (case aj => exact S7.out); rintro e aCl ⟨rfl, hb⟩; refine ⟨_, rfl, ?_⟩; replace dW := aa.mk (Kd.bM (d_ dW.out) hb); replace ed := aa.mk (Kd.bM (d_ ed.out) hb); replace a7 := aa.mk (Kd.bt (fS a7.out) hb); replace a8 := aa.mk (Kd.bt (fS a8.out) hb); replace ba := aa.mk (Kd.bt (fS ba.out) hb); replace aX := aa.mk (Kd.bt (fS aX.out) hb); replace aU := aa.mk (Kd.bt (fS aU.out) hb); replace F1 := aa.mk (Kd.iB (pF F1.out) hb); replace aK := cn aK hb; replace aQ := cn aQ hb; replace aT := cn aT hb; replace aV := cn aV hb; replace bh := cn bh hb; replace sx := aa.mk (Kd.dx (by repeat (first | (with_reducible exact sx.out) | (with_reducible refine Kd.cz ?_ _) | (with_reducible refine Kd.cA ?_ _) | (with_reducible refine Kd.di ?_) | exact sx.out)) hb); replace HB := eM HB hb; (try clear hb)))
           go_roundg k4
           case measure => have := IZ.out; have := KY.out; have := lp.out; have := qx.out; omega
           case rel => exact ⟨(wrap64 (pv + 1)), eF, H', ⟨by have := IZ.out; have := KY.out; have := lp.out; have := qx.out; omega⟩, ⟨d_ dW.out⟩, ⟨d_ ed.out⟩, ⟨fS a7.out⟩, ⟨fS a8.out⟩, ⟨fS ba.out⟩, ⟨fS aX.out⟩, ⟨fS aU.out⟩, ⟨cC aK.out⟩, ⟨cC aQ.out⟩, ⟨cC aT.out⟩, ⟨cC aV.out⟩, ⟨cC bh.out⟩, ⟨bC HB⟩⟩
         rw [if_neg MU] at H
         have ae5 : decide (pv < (iN.length : Int)) = false := decide_eq_false MU
         clear MU
         by_cases W8 : pq = true
         rotate_left
         · replace W8 := Bool.eq_false_iff.mpr W8
           subst W8
           rw [if_neg (show ¬ (false = true) by decide)] at H
           obtain rfl := Option.some.inj H
           obtain ⟨ay1, ay2, ant⟩ := Kd.gw dW.out
           subst ant
           try go_wp2
           replace dW := aa.mk (Kd.lN dW.out)
           replace ed := aa.mk (Kd.lN ed.out)
           replace a7 := aa.mk (Kd.dV a7.out)
           replace a8 := aa.mk (Kd.dV a8.out)
           replace ba := aa.mk (Kd.dV ba.out)
           replace aX := aa.mk (Kd.dV aX.out)
           replace aU := aa.mk (Kd.dV aU.out)
           replace aK := aa.mk (bg aK.out)
           replace aQ := aa.mk (bg aQ.out)
           replace aT := aa.mk (bg aT.out)
           replace aV := aa.mk (bg aV.out)
           replace bh := aa.mk (bg bh.out)
           replace HB := aa.mk (bD HB.out)
           refine fy (n := 21) (S := fun w' => True) (ds := []) (B_ 0 21) (by kernel_rfl) rfl rfl trivial (fun hHeld => ?_); refine dv aw.aaa aw.SU (fun HT_ HW_ => ?_)
           generalize wr.drew = aCm at dW ed a7 a8 ba aX aU aK aQ aT aV bh HB hHeld ⊢
           refine b5 HT_ 0 164 (B_ 1 21) ?_
           refine b5 HT_ 1 165 (B_ 3 21) ?_
           refine b5 HT_ 2 166 (B_ 7 21) ?_
           refine gx HT_ 3 167 (B_ 15 21) ?_
           refine gx HT_ 4 168 (B_ 31 21) ?_
           refine gx HT_ 5 169 (B_ 63 21) ?_
           refine gx HT_ 6 170 (B_ 127 21) ?_
           refine gx HT_ 7 171 (B_ 255 21) ?_
           refine gx HT_ 8 172 (B_ 511 21) ?_
           refine gx HT_ 9 173 (B_ 1023 21) ?_
           refine gx HT_ 10 174 (B_ 2047 21) ?_
           refine gx HT_ 11 175 (B_ 4095 21) ?_
           refine gx HT_ 12 176 (B_ 8191 21) ?_
           refine gx HT_ 13 177 (B_ 16383 21) ?_
           refine gx HT_ 14 178 (B_ 32767 21) ?_
           refine gx HT_ 15 179 (B_ 65535 21) ?_
           refine gx HT_ 16 180 (B_ 131071 21) ?_
           refine gx HT_ 17 181 (B_ 262143 21) ?_
           refine gx HT_ 18 182 (B_ 524287 21) ?_
           refine b5 HT_ 19 183 (B_ 1048575 21) ?_
           refine b5 HT_ 20 2 (B_ 2097151 21) ?_
           refine ik (eS HT_.out (by kernel_rfl)) ?_
           try go_wp2
           go_ret
           exact ⟨ig, bC HB⟩
         subst W8
         rw [if_pos rfl] at H
         obtain ⟨BW, anu, H⟩ := eA H
         by_cases S8 : (jU.length : Int) = (wrap64 (BW + 1))
         rotate_left
         · rw [if_neg S8] at H
           exact absurd (H.trans (congrArg some hr_.out)) (by simp)
         rw [if_pos S8] at H
         have auT : ((jU.length : Int) == (wrap64 (BW + 1))) = true := beq_iff_eq.mpr S8
         have auU : ((jU.length : Int) != (wrap64 (BW + 1))) = false := bne_eq_false_iff_eq.mpr S8
         clear S8
         obtain ⟨qt, wv⟩ : ∃ j_ : Int, (wrap64 ((jU.length : Int) - 1)) = j_ := ⟨_, rfl⟩
         replace H : (if 0 ≤ (qt) then (if (qt) < (jU.length : Int) then ((cP.f k4 ((cG jU (qt)).f0) cq).bind fun Fy => (some Fy)) else (none)) else (none)) = some r := by first | (rw [wv] at H; exact H) | (simp only [wv] at H ⊢; exact H)
         (try rw [wv] at anu)
         have api : (IntKind.i64.wrap ((jU.length : Int) - 1)) = qt := (b6 _).trans wv
         obtain ⟨auV, H⟩ := dB H
         obtain ⟨auW, H⟩ := dB H
         obtain ⟨Fy, auX, H⟩ := eA H
         obtain rfl := Option.some.inj H
         obtain ⟨ay3, ay4, anv⟩ := Kd.gw dW.out
         subst anv
         try go_wp2
         replace dW := aa.mk (Kd.lN dW.out)
         replace ed := aa.mk (Kd.lN ed.out)
         replace a7 := aa.mk (Kd.dV a7.out)
         replace a8 := aa.mk (Kd.dV a8.out)
         replace ba := aa.mk (Kd.dV ba.out)
         replace aX := aa.mk (Kd.dV aX.out)
         replace aU := aa.mk (Kd.dV aU.out)
         replace aK := aa.mk (bg aK.out)
         replace aQ := aa.mk (bg aQ.out)
         replace aT := aa.mk (bg aT.out)
         replace aV := aa.mk (bg aV.out)
         replace bh := aa.mk (bg bh.out)
         replace HB := aa.mk (bD HB.out)
         obtain ⟨ay5, ay6, aaj⟩ := Kd.gw ed.out
         (first | subst aaj | (injection aaj with ox tM oy; have tN := ox.symm; have tO := oy.symm; clear ox tM oy; subst tN; subst tO))
         have K5 : 0 ≤ ((qt) : Int) := bO
         have K6 : (qt) < (jU.length : Int) := bO
         obtain ⟨ae6, K7, K8, anw, Ao, F2, F3⟩ := mP (Kd.ei ed.out).2.2 (qt) K5 K6
         cases anw
         obtain ⟨auY, W9, W_, K9⟩ := Kd.wG ed.out z26 (qt) K5 (by first | exact K6 | exact bO | (have e_ := (Kd.ei ed.out).1; omega))
         obtain ⟨anx, anz, rfl, Ap, Aq⟩ := jP W_
         have vo := K9 0 _ rfl
         rw [Nat.add_zero, show (ix).sz = 1 from rfl, Nat.mul_one] at vo
         replace vo := Option.some.inj (vo.symm.trans Ao)
         injection vo with hva_ hvn_ hvc_
         rw [hva_] at Aq
         rw [hvc_] at Ap
         have qu := aa.mk (show Kd.V (Kd.int .i64) 3 _ w.heap.size _ _ ((cG jU (qt)).f0) from Kd.yM Ap Aq)
         clear hva_ hvn_ hvc_ Aq Ap
         clear K9 W9
         have k9 := aa.mk F3
         have S9 := aa.mk F2
         clear F3 F2
         replace K5 := eq_true K5
         replace K6 := eq_true K6
         refine fy (n := 21) (S := fun w' => w'.cell? ⟨ev, 0, none⟩ = some (.slice fE cq.length fF) ∧ w'.cell? (ae6.add ((qt)).toNat) = some (.slice K7 ((cG jU (qt)).f0).length K8)) (ds := []) (B_ 0 21) (by kernel_rfl) rfl rfl ⟨(aH bh.out 0).trans rfl, Ao⟩ (fun hHeld => ?_); refine dv aw.aaa aw.SU (fun HT_ HW_ => ?_)
         generalize wr.drew = aCn at dW ed a7 a8 ba aX aU aK aQ aT aV bh HB qu k9 Ao hHeld ⊢
         refine b5 HT_ 0 164 (B_ 1 21) ?_
         refine b5 HT_ 1 165 (B_ 3 21) ?_
         refine b5 HT_ 2 166 (B_ 7 21) ?_
         refine b5 HT_ 3 167 (B_ 15 21) ?_
         refine b5 HT_ 4 168 (B_ 31 21) ?_
         refine ni HT_ HW_ hHeld 5 169 (B_ 63 21) ?_
         refine o2 HT_ 6 170 (B_ 127 21) (fun K hK => ?_)
         refine gu Tryz.func23 (by kernel_rfl) rfl #[.agg #[.slice fE cq.length fF]] (by first | rfl | exact jO rfl rfl rfl (aCo.trans (by first | rfl | (simp [*]; done)))) rfl rfl (by (try simp only [List.map_toArray, List.map_cons, List.map_nil]); first | done | rfl | (simp only [List.length_drop, List.length_take]; rfl)) ?_
         with_reducible refine (iR.calls k4 _ _ cq BW _ ?ah ?aj anu.out).mono ?_
         (case ah => exact kx ((Kd.eU aU.out).2.2))
         (case aj => exact (Kd.eU aU.out).2.1)
         rintro e aCp ⟨rfl, hb⟩
         have CO := (hb.cell (World.block_lt_of_cell? _ _ (hHeld.2))).trans (hHeld.2)
         refine ⟨_, rfl, ?_⟩
         have n5 := aa.mk (Kd.bM (d_ dW.out) hb)
         have n9 := aa.mk (Kd.bM (d_ ed.out) hb)
         have rp := aa.mk (Kd.bt (fS a7.out) hb)
         have rq := aa.mk (Kd.bt (fS a8.out) hb)
         have ti := aa.mk (Kd.bt (fS ba.out) hb)
         have zH := aa.mk (Kd.bt (fS aX.out) hb)
         have BH := aa.mk (Kd.bt (fS aU.out) hb)
         have Ko := cn aK hb
         have Kp := cn aQ hb
         have n9_ := cn aT hb
         have FH := cn aV hb
         have FI := cn bh hb
         have FJ := eM HB hb
         have nR_ := aa.mk (Kd.dx (by repeat (first | (with_reducible exact k9.out) | (with_reducible refine Kd.cz ?_ _) | (with_reducible refine Kd.cA ?_ _) | (with_reducible refine Kd.di ?_) | exact k9.out)) hb)
         clear k9
         have k9 := nR_
         clear nR_
         have nR_ := aa.mk (Kd.iB (pF qu.out) hb)
         clear qu
         have qu := nR_
         clear nR_
         clear dW
         clear ed
         clear a7
         clear a8
         clear ba
         clear aX
         clear aU
         clear aK
         clear aQ
         clear aT
         clear aV
         clear bh
         clear HB
         have dW := n5
         have ed := n9
         have a7 := rp
         have a8 := rq
         have ba := ti
         have aX := zH
         have aU := BH
         have aK := Ko
         have aQ := Kp
         have aT := n9_
         have aV := FH
         have bh := FI
         have HB := FJ
         clear n5 n9 rp rq ti zH BH Ko Kp n9_ FH FI FJ
         (try clear hb)
         refine hK.out _ _ ⟨(aH bh.out 0).trans rfl, CO⟩ (fun hHeld => ?_)
         clear hK K
         refine ep (a' := ?_) ?_ ?_
         rotate_left
         · show Act.put _ (some 170) _ = _
           simp only [Act.put, jK, jA, jB, b6, dw]
           rfl
         refine b5 HT_ 7 171 (B_ 255 21) ?_
         refine b5 HT_ 8 172 (B_ 511 21) ?_
         refine b5 HT_ 9 173 (B_ 1023 21) ?_
         refine b5 HT_ 10 174 (B_ 2047 21) ?_
         refine b5 HT_ 11 175 (B_ 4095 21) ?_
         refine b5 HT_ 12 176 (B_ 8191 21) ?_
         refine b5 HT_ 13 177 (B_ 16383 21) ?_
         refine b5 HT_ 14 178 (B_ 32767 21) ?_
         refine ni HT_ HW_ hHeld 15 179 (B_ 65535 21) ?_
         refine ni HT_ HW_ hHeld 16 180 (B_ 131071 21) ?_
         refine o2 HT_ 17 181 (B_ 262143 21) (fun K hK => ?_)
         refine gu Tryz.func18 (by kernel_rfl) rfl #[.agg #[.slice K7 ((cG jU (qt)).f0).length K8], .agg #[.slice fE cq.length fF]] (by first | rfl | exact jO rfl rfl rfl (aCq.trans (by first | rfl | (simp [*]; done)))) rfl rfl (by (try simp only [List.map_toArray, List.map_cons, List.map_nil]); first | done | (simp only [wv]; rfl) | rfl | (simp only [List.length_drop, List.length_take]; rfl)) ?_
         with_reducible refine (cP.calls k4 _ _ ((cG jU (qt)).f0) _ _ cq Fy _ ?ah ?aj ?fB ?hD auX.out).mono ?_
         (case ah => repeat (first | exact (by repeat (first | (with_reducible exact k9.out) | (with_reducible refine Kd.cz ?_ _) | (with_reducible refine Kd.cA ?_ _) | (with_reducible refine Kd.di ?_) | exact k9.out)) | (with_reducible refine Kd.cz ?_ _) | (with_reducible refine Kd.cA ?_ _) | (with_reducible refine Kd.di ?_)))
         (case aj => exact S9.out)
         (case fB => exact kx ((Kd.eU aU.out).2.2))
         (case hD => exact (Kd.eU aU.out).2.1)
         rintro e aCr ⟨rfl, hb⟩
         have CO := (hb.cell (World.block_lt_of_cell? _ _ (hHeld.2))).trans (hHeld.2)
         refine ⟨_, rfl, ?_⟩
         replace dW := aa.mk (Kd.bM (d_ dW.out) hb)
         replace ed := aa.mk (Kd.bM (d_ ed.out) hb)
         replace a7 := aa.mk (Kd.bt (fS a7.out) hb)
         replace a8 := aa.mk (Kd.bt (fS a8.out) hb)
         replace ba := aa.mk (Kd.bt (fS ba.out) hb)
         replace aX := aa.mk (Kd.bt (fS aX.out) hb)
         replace aU := aa.mk (Kd.bt (fS aU.out) hb)
         replace qu := aa.mk (Kd.iB (pF qu.out) hb)
         replace aK := cn aK hb
         replace aQ := cn aQ hb
         replace aT := cn aT hb
         replace aV := cn aV hb
         replace bh := cn bh hb
         replace k9 := aa.mk (Kd.dx (by repeat (first | (with_reducible exact k9.out) | (with_reducible refine Kd.cz ?_ _) | (with_reducible refine Kd.cA ?_ _) | (with_reducible refine Kd.di ?_) | exact k9.out)) hb)
         replace HB := eM HB hb
         (try clear hb)
         refine hK.out _ _ ⟨(aH bh.out 0).trans rfl, CO⟩ (fun hHeld => ?_)
         clear hK K
         refine ep (a' := ?_) ?_ ?_
         rotate_left
         · show Act.put _ (some 181) _ = _
           simp only [Act.put, jK, jA, jB, b6, dw]
           rfl
         refine b5 HT_ 18 182 (B_ 524287 21) ?_
         refine b5 HT_ 19 183 (B_ 1048575 21) ?_
         refine b5 HT_ 20 2 (B_ 2097151 21) ?_
         refine ik (eS HT_.out (by kernel_rfl)) ?_
         try go_wp2
         go_ret
         exact ⟨by first | rfl | (simp [cD, cF] <;> rfl) | (simp only [← wv]; first | rfl | (simp [cD, cF] <;> rfl)) | (simp [*, cD, cF] <;> rfl), bC HB⟩
def aw.Pure : Prop := ∀ (l0 : List Int), l0.length ≤ maxLen → l0.length * 1 ≤ 140737488351232 → (∀ x ∈ l0, (Lit.int .u8 x).wf = true) → ∃ k, aw.f k l0 = some true
theorem aw.walk (P : aw.Pure) (a0 : Option Addr) (F4 F5 : Nat) (z0 : List Int) (w : World) (w0 : (a0 = none ∧ F4 = 0 ∧ F5 = 0 ∧ z0 = []) ∨ ∃ x, a0 = some x ∧ F4 ≤ F5 ∧ F5 ≤ maxLen ∧ z0.length = F5 ∧ (∀ i, i < z0.length → w.cell? (x.add i) = some (.int .u8 (z0.getD i 0))) ∧ ∀ n ∈ z0, (Lit.int .u8 n).wf = true) (y0 : F4 * 1 ≤ 140737488351232) :
 Calls Tryz.prog 3 #[.slice a0 F4 F5] w fun e w' => e = .returned (.bool true) ∧ Below w.heap.size w w' := by
 obtain ⟨l0, rfl, fH, hm0, hw0, gL⟩ := fK.aaD w0
 obtain ⟨k, h⟩ := P l0 hm0 y0 hw0
 refine (aw.calls k _ _ l0 true w (Kd.tG (d := (0 : Int)) (h1 := fun _ => rfl) fH) gL h).mono ?_
 rintro e w' ⟨rfl, hd⟩
 exact ⟨rfl, hd⟩
end Go.Proofs.YtjodlkbhaofkkaaGreat.PA
end
