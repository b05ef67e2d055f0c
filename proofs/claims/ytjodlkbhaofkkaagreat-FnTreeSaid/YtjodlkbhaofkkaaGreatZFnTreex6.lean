-- Bundled by shake.py from this session's printed and written texts; Lean checks it.
import Derived.Test.YtjodlkbhaofkkaaGreatZFnTreex5
section
namespace Go.Proofs.YtjodlkbhaofkkaaGreat.PA
open Go.RowKit Go.Proofs.YtjodlkbhaofkkaaGreatW.PrintWords Go.Proofs.YtjodlkbhaofkkaaGreatW.PrintLast Go.Proofs.YtjodlkbhaofkkaaGreatW.PrintMore
attribute [local go_sem] ja jb j5 j6 hY hZ jc jd
set_option linter.unusedVariables false
set_option linter.unusedSimpArgs false
set_option maxHeartbeats 8000000
set_option maxRecDepth 100000
def dH.f (k : Nat) (cd : List Int) (eD : Int) (eJ : Int) : Option (List Int × Int × Int) := (bG.f k cd eD eJ).bind fun zz => ((bS.f cd zz.2.1 zz.2.2 12).bind fun rT => (if rT.1 = 0 then ((dQ.f cd rT.2.1 rT.2.2 (([0, 61, 12, (-3), 60] : List Int))).bind fun zA => (if zz.1.length < 17592186044416 then (some ((zz.1 ++ [zA.1]), zA.2.1, zA.2.2)) else (none))) else (if rT.1 = 1 then (if 1 ≤ (zz.1.length : Int) then (some ((zz.1.drop (1 : Int).toNat), rT.2.1, rT.2.2)) else (none)) else (if rT.1 = 2 then ((dQ.f cd rT.2.1 rT.2.2 (([0, 59, 4] : List Int))).bind fun zB => (some ((([zB.1, 60] : List Int)), zB.2.1, zB.2.2))) else (some (zz.1, rT.2.1, rT.2.2))))))
def dH.T4 : Bool × List (List Nat × List Nat) := (true, [([], []), ([0], [0]), ([], []), ([], []), ([2, 3], [2, 3]), ([4], [4]), ([1, 5, 4], [1, 5]), ([0, 1, 2, 3, 4, 5, 6], []), ([7, 6, 6, 0, 1, 2, 3, 4, 5, 6], [6, 7])])
def dH.B4 : List Nat := [0, 1, 0, 0, 12, 28, 63, 127, 255]
theorem dH.arx : gX .any (opsOf Tryz.f34 4) = dH.T4 := by kernel_rfl
theorem dH.aiA : gm dH.T4.2 dH.B4 = true := by kernel_rfl
theorem dH.calls (k : Nat) (g : Nat) (cd : List Int) (eD : Int) (eJ : Int) (r1 : List Int) (r2 : Int) (r3 : Int) (w0 w : World) (hI : ae w0 w g cd eD eJ) (hB : Below w0.heap.size w0 w) (h : dH.f k cd eD eJ = some (r1, r2, r3)) :
 Calls Tryz.prog 34 #[.pointer (some ⟨g, 0, none⟩)] w fun e w' => ∃ jf : Value, e = .returned (.agg #[jf]) ∧ Kd.Q (Kd.int .i64) 3 w' w.heap.size (fun _ => True) jf r1 ∧ ae w0 w' g cd r2 r3 ∧ Below w0.heap.size w0 w' ∧ aq w w' g none := by
 have kJ := Tryz.underlying26
 have bX := aa.mk hI
 have HK := aa.mk (aq.refl w g none)
 have HL := aa.mk hB.size
 clear hI
 have wR := aa.mk hB.size
 have HB := aa.mk hB
 clear hB
 have H := h
 clear h
 unfold dH.f at H
 obtain ⟨⟨nC, p8, p9⟩, A2, H⟩ := eA H
 (try dsimp only at H)
 obtain ⟨⟨qP, vS, vT⟩, A3, H⟩ := eA H
 (try dsimp only at H)
 by_cases c4 : qP = 0
 rotate_left
 · rw [if_neg c4] at H
   have kI : (qP == 0) = false := beq_eq_false_iff_ne.mpr c4
   have Ea : (qP != 0) = true := bne_iff_ne.mpr c4
   by_cases Cz : qP = 1
   · rw [if_pos Cz] at H
     have Ef : (qP == 1) = true := beq_iff_eq.mpr Cz
     have N2 : (qP != 1) = false := bne_eq_false_iff_eq.mpr Cz
     clear Cz
     obtain ⟨tQ, H⟩ := kG H
     have BB := eq_true tQ
     have YK : decide (1 ≤ (nC.length : Int)) = true := decide_eq_true tQ
     clear tQ
     obtain ⟨EK, PY⟩ : ∃ y_ : List Int, y_ = (nC.drop (1 : Int).toNat) := ⟨_, rfl⟩
     replace H : (some (EK, vS, vT)) = some (r1, r2, r3) := by subst PY; exact H
     have YU := aa.mk PY
     clear PY
     simp only [Option.some.injEq, Prod.mk.injEq] at H
     obtain ⟨rfl, rfl, rfl⟩ := H
     go_enter Tryz.func34, Tryz.ntmps34
     go_wp2_with (first | ((with_reducible refine gate_dst (N := 2) rfl ?_); refine iP 2 #[.slice none 0 0] 26 ?_; intro gB hg Pe hbox hb; replace HB := aa.mk (b7 (gF HB (ae.ge bX.out)) hb); have ea := aa.mk (hbox); have PZ := aa.mk ((by rw [hg]; exact (bs (w := w) (g := g) (row := none) (e9 HK)) : w.heap.size ≤ gB)); have P0 := aa.mk ((Nat.le_trans wR.out (by rw [hg]; exact (bs (w := w) (g := g) (row := none) (e9 HK)) : w.heap.size ≤ gB) : w0.heap.size ≤ gB)); replace HK := aa.mk (aq.trans (e9 HK) (aq.dK hb g none) (.inl rfl)); have qQ := aa.mk ((by rw [hg]; exact Nat.ne_of_lt (ae.lt (show ae w0 _ g cd eD eJ from ae.q_ bX)) : g ≠ gB)); have jx := aa.mk ((by rw [hg]; exact Nat.ne_of_gt (ae.lt (show ae w0 _ g cd eD eJ from ae.q_ bX)) : gB ≠ g)); replace bX := aa.mk (ae.below (ae.q_ bX) hb); clear hb hbox hg) | ((with_reducible refine gate_callee (f := 74) rfl ?_); refine dU (some 5) Tryz.func74 #[.pointer (some ⟨g, 0, none⟩)] ?_; (with_reducible refine (bG.calls k g cd eD eJ nC p8 p9 w0 _ ?ah ?aj A2.out).mono ?_); (case ah => exact ae.q_ bX); (case aj => exact gF HB (ae.ge bX.out)); rintro e w29 ⟨acF, rfl, b0, hi, hb, hk⟩; refine ⟨_, rfl, ?_⟩; replace ea := aa.mk (aq.pS hk (g' := gB) (o := .cells #[.slice none 0 0] 26 (0, 0)) (cC ea.out) jx.out (by simp)); have fI := aa.mk (Kd.aW b0 (bs (w := w) (g := g) (row := none) (e9 HK))); replace HK := aa.mk (aq.trans (e9 HK) hk (.inl rfl)); replace HB := aa.mk (hb); replace bX := aa.mk (hi); (try clear hb); (try clear hk); (try clear hi); (try clear b0)) | ((with_reducible refine gate_dst (N := 3) rfl ?_); refine iP 3 #[.slice none 0 0] 26 ?_; intro iC hg w30 hbox hb; replace fI := aa.mk (Kd.aY (b9 fI.out) hb); replace HB := aa.mk (b7 (gF HB (ae.ge bX.out)) hb); have eK := aa.mk (hbox); have P1 := aa.mk ((by rw [hg]; exact (bs (w := w) (g := g) (row := none) (e9 HK)) : w.heap.size ≤ iC)); have P2 := aa.mk ((Nat.le_trans wR.out (by rw [hg]; exact (bs (w := w) (g := g) (row := none) (e9 HK)) : w.heap.size ≤ iC) : w0.heap.size ≤ iC)); replace HK := aa.mk (aq.trans (e9 HK) (aq.dK hb g none) (.inl rfl)); have ly := mw hg ea; have lz := my hg ea; replace ea := cn ea hb; have qR := aa.mk ((by rw [hg]; exact Nat.ne_of_lt (ae.lt (show ae w0 _ g cd p8 p9 from ae.q_ bX)) : g ≠ iC)); have kN := aa.mk ((by rw [hg]; exact Nat.ne_of_gt (ae.lt (show ae w0 _ g cd p8 p9 from ae.q_ bX)) : iC ≠ g)); replace bX := aa.mk (ae.below (ae.q_ bX) hb); clear hb hbox hg; obtain ⟨Ba, Bb, P3⟩ := Kd.aN fI.out; subst P3; have av3 := lz.out; have av4 := ly.out; have YV := kN.out; have YW := qR.out; have JQ := fG eK; have JR := af eK.out 0) | ((with_reducible refine gate_callee (f := 69) rfl ?_); refine dU (some 7) Tryz.func69 #[.pointer (some ⟨g, 0, none⟩), .int .i64 12] ?_; (with_reducible refine (bS.calls g cd p8 p9 12 qP vS vT w0 _ ?ah ?aj A3.out).mono ?_); (case ah => exact ae.q_ bX); (case aj => exact gF HB (ae.ge bX.out)); rintro e w35 ⟨rfl, hi, hb, hk⟩; refine ⟨_, rfl, ?_⟩; replace ea := aa.mk (aq.pS hk (g' := gB) (o := .cells #[.slice none 0 0] 26 (0, 0)) (pB ea) jx.out (by simp)); replace fI := aa.mk (Kd.bB (Kd.lI (ae.apart (show ae w0 _ g cd p8 p9 from ae.q_ bX) (nh fI eK) (by decide)) hk (fun _ h => h.2)) (fun _ h => h.1)); replace eK := aa.mk (aq.pS hk (g' := iC) (o := .cells #[.slice Ba nC.length Bb] 26 (0, 0)) (mz eK) kN.out (by simp)); replace HK := aa.mk (aq.trans (e9 HK) hk (.inl rfl)); replace HB := aa.mk (hb); replace bX := aa.mk (hi); (try clear hb); (try clear hk); (try clear hi); have JS := fG eK; have JT := af eK.out 0; have q37 : (1 : Int) ≤ ((nC.length : Int) : Int) := bO; obtain ⟨aAi, YX, _, YY, _⟩ := info_parts iS; have acG := ug (P := Tryz.prog) 24 3 .i64 Tryz.underlying24 YX 1 YY Ba nC.length Bb 1 (by omega) q37; have P4 := Kd.aaB (k := (1 : Int).toNat) (Kd.px fI.out) (by omega); obtain ⟨A37, Va⟩ : ∃ A1, A1 = (if Bb = (1 : Int).toNat then Ba else (Ba : Option Addr).map (·.add ((1 : Int).toNat * 1))) := ⟨_, rfl⟩; obtain ⟨TR, acH⟩ : ∃ c1, c1 = Bb - (1 : Int).toNat := ⟨_, rfl⟩; have acI : EK.length = nC.length - (1 : Int).toNat := (by rw [YU.out, List.length_drop]); rw [← YU.out] at P4; rw [← acI, ← Va, ← acH] at acG; replace P4 : Kd.Q (Kd.int .i64) 3 w35 w.heap.size (fun _ => True) (.slice A37 EK.length TR) EK := (by rw [Va, acH, acI]; exact P4); have aAj : aa ((Value.slice A37 EK.length TR).ownBlock = (.slice Ba nC.length Bb : Value).ownBlock) := ⟨by rw [Va]; split <;> (cases (Ba : Option Addr) <;> rfl)⟩; clear acI YX YY fI Va acH; have aiD := aa.mk P4; clear P4; replace q37 := eq_true q37; have aiE := jx.out; have aiF := qQ.out; have CT := fG ea; have CU := af ea.out 0))
     refine bodyPost_ret (results_cell_row rfl _ _ gB 26 #[.slice A37 EK.length TR] (0, 0) _ rfl (mz ea) Tryz.underlying26 rfl (by kernel_rfl)) rfl ?_
     exact ⟨_, ig, by (with_reducible repeat (first | apply Kd.gf | apply Kd.gh | apply Kd.dV)); exact Kd.fe (Kd.oY (p := ⟨gB, 0, none⟩) (Kd.oY (p := ⟨iC, 0, none⟩) (Kd.bz (Kd.bz aiD.out eK.out (by decide)) ea.out (by decide)) (fun _ hk => hk.1.2) (.slice A37 EK.length TR)) (fun _ hk => hk.2) (.slice A37 EK.length TR)) (fun _ hk => trivial), ae.q_ bX, gF HB (ae.ge bX.out), e9 HK⟩
   rw [if_neg Cz] at H
   have Ef : (qP == 1) = false := beq_eq_false_iff_ne.mpr Cz
   have N2 : (qP != 1) = true := bne_iff_ne.mpr Cz
   by_cases TO : qP = 2
   rotate_left
   · rw [if_neg TO] at H
     have YZ : (qP == 2) = false := beq_eq_false_iff_ne.mpr TO
     have aiG : (qP != 2) = true := bne_iff_ne.mpr TO
     simp only [Option.some.injEq, Prod.mk.injEq] at H
     obtain ⟨rfl, rfl, rfl⟩ := H
     go_enter Tryz.func34, Tryz.ntmps34
     go_wp2_with (first | ((with_reducible refine gate_dst (N := 2) rfl ?_); refine iP 2 #[.slice none 0 0] 26 ?_; intro gB hg w60 hbox hb; replace HB := aa.mk (b7 (gF HB (ae.ge bX.out)) hb); have ea := aa.mk (hbox); have PZ := aa.mk ((by rw [hg]; exact (bs (w := w) (g := g) (row := none) (e9 HK)) : w.heap.size ≤ gB)); have P0 := aa.mk ((Nat.le_trans wR.out (by rw [hg]; exact (bs (w := w) (g := g) (row := none) (e9 HK)) : w.heap.size ≤ gB) : w0.heap.size ≤ gB)); replace HK := aa.mk (aq.trans (e9 HK) (aq.dK hb g none) (.inl rfl)); have qQ := aa.mk ((by rw [hg]; exact Nat.ne_of_lt (ae.lt (show ae w0 _ g cd eD eJ from ae.q_ bX)) : g ≠ gB)); have jx := aa.mk ((by rw [hg]; exact Nat.ne_of_gt (ae.lt (show ae w0 _ g cd eD eJ from ae.q_ bX)) : gB ≠ g)); replace bX := aa.mk (ae.below (ae.q_ bX) hb); clear hb hbox hg) | ((with_reducible refine gate_callee (f := 74) rfl ?_); refine dU (some 5) Tryz.func74 #[.pointer (some ⟨g, 0, none⟩)] ?_; (with_reducible refine (bG.calls k g cd eD eJ nC p8 p9 w0 _ ?ah ?aj A2.out).mono ?_); (case ah => exact ae.q_ bX); (case aj => exact gF HB (ae.ge bX.out)); rintro e Mc ⟨acF, rfl, b0, hi, hb, hk⟩; refine ⟨_, rfl, ?_⟩; replace ea := aa.mk (aq.pS hk (g' := gB) (o := .cells #[.slice none 0 0] 26 (0, 0)) (cC ea.out) jx.out (by simp)); have fI := aa.mk (Kd.aW b0 (bs (w := w) (g := g) (row := none) (e9 HK))); replace HK := aa.mk (aq.trans (e9 HK) hk (.inl rfl)); replace HB := aa.mk (hb); replace bX := aa.mk (hi); (try clear hb); (try clear hk); (try clear hi); (try clear b0)) | ((with_reducible refine gate_dst (N := 3) rfl ?_); refine iP 3 #[.slice none 0 0] 26 ?_; intro iC hg w62 hbox hb; replace fI := aa.mk (Kd.aY (b9 fI.out) hb); replace HB := aa.mk (b7 (gF HB (ae.ge bX.out)) hb); have eK := aa.mk (hbox); have P1 := aa.mk ((by rw [hg]; exact (bs (w := w) (g := g) (row := none) (e9 HK)) : w.heap.size ≤ iC)); have P2 := aa.mk ((Nat.le_trans wR.out (by rw [hg]; exact (bs (w := w) (g := g) (row := none) (e9 HK)) : w.heap.size ≤ iC) : w0.heap.size ≤ iC)); replace HK := aa.mk (aq.trans (e9 HK) (aq.dK hb g none) (.inl rfl)); have ly := mw hg ea; have lz := my hg ea; replace ea := cn ea hb; have qR := aa.mk ((by rw [hg]; exact Nat.ne_of_lt (ae.lt (show ae w0 _ g cd p8 p9 from ae.q_ bX)) : g ≠ iC)); have kN := aa.mk ((by rw [hg]; exact Nat.ne_of_gt (ae.lt (show ae w0 _ g cd p8 p9 from ae.q_ bX)) : iC ≠ g)); replace bX := aa.mk (ae.below (ae.q_ bX) hb); clear hb hbox hg; obtain ⟨acJ, acK, arz⟩ := Kd.aN fI.out; subst arz; have aiH := lz.out; have aiI := ly.out; have av5 := kN.out; have av6 := qR.out; have aod := fG eK; have aoe := af eK.out 0) | ((with_reducible refine gate_callee (f := 69) rfl ?_); refine dU (some 7) Tryz.func69 #[.pointer (some ⟨g, 0, none⟩), .int .i64 12] ?_; (with_reducible refine (bS.calls g cd p8 p9 12 qP vS vT w0 _ ?ah ?aj A3.out).mono ?_); (case ah => exact ae.q_ bX); (case aj => exact gF HB (ae.ge bX.out)); rintro e w67 ⟨rfl, hi, hb, hk⟩; refine ⟨_, rfl, ?_⟩; replace ea := aa.mk (aq.pS hk (g' := gB) (o := .cells #[.slice none 0 0] 26 (0, 0)) (pB ea) jx.out (by simp)); replace fI := aa.mk (Kd.bB (Kd.lI (ae.apart (show ae w0 _ g cd p8 p9 from ae.q_ bX) (nh fI eK) (by decide)) hk (fun _ h => h.2)) (fun _ h => h.1)); replace eK := aa.mk (aq.pS hk (g' := iC) (o := .cells #[.slice acJ nC.length acK] 26 (0, 0)) (mz eK) kN.out (by simp)); replace HK := aa.mk (aq.trans (e9 HK) hk (.inl rfl)); replace HB := aa.mk (hb); replace bX := aa.mk (hi); (try clear hb); (try clear hk); (try clear hi); have aof := fG eK; have aog := af eK.out 0; have av7 := jx.out; have av8 := qQ.out; have aoh := fG ea; have aoi := af ea.out 0))
     refine bodyPost_ret (results_cell_row rfl _ _ gB 26 #[.slice acJ nC.length acK] (0, 0) _ rfl (mz ea) Tryz.underlying26 rfl (by kernel_rfl)) rfl ?_
     exact ⟨_, ig, Kd.px (by (with_reducible repeat (first | apply Kd.bQ | apply Kd.bT | apply Kd.bR)); exact Kd.bB (Kd.iJ (p := ⟨gB, 0, none⟩) (Kd.cI fI.out ea.out (by decide)) (fun _ hk => hk.2) (.slice acJ nC.length acK)) (fun _ hk => trivial)), ae.q_ bX, gF HB (ae.ge bX.out), e9 HK⟩
   rw [if_pos TO] at H
   have YZ : (qP == 2) = true := beq_iff_eq.mpr TO
   have aiG : (qP != 2) = false := bne_eq_false_iff_eq.mpr TO
   clear TO
   obtain ⟨acL, P5⟩ : ∃ y_ : List Int, y_ = (([0, 59, 4] : List Int)) := ⟨_, rfl⟩
   replace H : ((dQ.f cd vS vT acL).bind fun zB => (some ((([zB.1, 60] : List Int)), zB.2.1, zB.2.2))) = some (r1, r2, r3) := by subst P5; exact H
   have Y0 := aa.mk P5
   clear P5
   obtain ⟨⟨Md, aiJ, aiK⟩, A41, H⟩ := eA H
   (try dsimp only at H)
   obtain ⟨Vb, P6⟩ : ∃ y_ : List Int, y_ = (([Md, 60] : List Int)) := ⟨_, rfl⟩
   replace H : (some (Vb, aiJ, aiK)) = some (r1, r2, r3) := by subst P6; exact H
   have Y1 := aa.mk P6
   clear P6
   simp only [Option.some.injEq, Prod.mk.injEq] at H
   obtain ⟨rfl, rfl, rfl⟩ := H
   go_enter Tryz.func34, Tryz.ntmps34
   go_wp2_with (first | ((with_reducible refine gate_dst (N := 2) rfl ?_); refine iP 2 #[.slice none 0 0] 26 ?_; intro gB hg Yi hbox hb; replace HB := aa.mk (b7 (gF HB (ae.ge bX.out)) hb); have ea := aa.mk (hbox); have PZ := aa.mk ((by rw [hg]; exact (bs (w := w) (g := g) (row := none) (e9 HK)) : w.heap.size ≤ gB)); have P0 := aa.mk ((Nat.le_trans wR.out (by rw [hg]; exact (bs (w := w) (g := g) (row := none) (e9 HK)) : w.heap.size ≤ gB) : w0.heap.size ≤ gB)); replace HK := aa.mk (aq.trans (e9 HK) (aq.dK hb g none) (.inl rfl)); have qQ := aa.mk ((by rw [hg]; exact Nat.ne_of_lt (ae.lt (show ae w0 _ g cd eD eJ from ae.q_ bX)) : g ≠ gB)); have jx := aa.mk ((by rw [hg]; exact Nat.ne_of_gt (ae.lt (show ae w0 _ g cd eD eJ from ae.q_ bX)) : gB ≠ g)); replace bX := aa.mk (ae.below (ae.q_ bX) hb); clear hb hbox hg) | ((with_reducible refine gate_callee (f := 74) rfl ?_); refine dU (some 5) Tryz.func74 #[.pointer (some ⟨g, 0, none⟩)] ?_; (with_reducible refine (bG.calls k g cd eD eJ nC p8 p9 w0 _ ?ah ?aj A2.out).mono ?_); (case ah => exact ae.q_ bX); (case aj => exact gF HB (ae.ge bX.out)); rintro e w43 ⟨acF, rfl, b0, hi, hb, hk⟩; refine ⟨_, rfl, ?_⟩; replace ea := aa.mk (aq.pS hk (g' := gB) (o := .cells #[.slice none 0 0] 26 (0, 0)) (cC ea.out) jx.out (by simp)); have fI := aa.mk (Kd.aW b0 (bs (w := w) (g := g) (row := none) (e9 HK))); replace HK := aa.mk (aq.trans (e9 HK) hk (.inl rfl)); replace HB := aa.mk (hb); replace bX := aa.mk (hi); (try clear hb); (try clear hk); (try clear hi); (try clear b0)) | ((with_reducible refine gate_dst (N := 3) rfl ?_); refine iP 3 #[.slice none 0 0] 26 ?_; intro iC hg w44 hbox hb; replace fI := aa.mk (Kd.aY (b9 fI.out) hb); replace HB := aa.mk (b7 (gF HB (ae.ge bX.out)) hb); have eK := aa.mk (hbox); have P1 := aa.mk ((by rw [hg]; exact (bs (w := w) (g := g) (row := none) (e9 HK)) : w.heap.size ≤ iC)); have P2 := aa.mk ((Nat.le_trans wR.out (by rw [hg]; exact (bs (w := w) (g := g) (row := none) (e9 HK)) : w.heap.size ≤ iC) : w0.heap.size ≤ iC)); replace HK := aa.mk (aq.trans (e9 HK) (aq.dK hb g none) (.inl rfl)); have ly := mw hg ea; have lz := my hg ea; replace ea := cn ea hb; have qR := aa.mk ((by rw [hg]; exact Nat.ne_of_lt (ae.lt (show ae w0 _ g cd p8 p9 from ae.q_ bX)) : g ≠ iC)); have kN := aa.mk ((by rw [hg]; exact Nat.ne_of_gt (ae.lt (show ae w0 _ g cd p8 p9 from ae.q_ bX)) : iC ≠ g)); replace bX := aa.mk (ae.below (ae.q_ bX) hb); clear hb hbox hg; obtain ⟨Vc, Vd, acM⟩ := Kd.aN fI.out; subst acM; have aiM := lz.out; have aiN := ly.out; have av9 := kN.out; have av_ := qR.out; have Ve := fG eK; have Vf := af eK.out 0) | ((with_reducible refine gate_callee (f := 69) rfl ?_); refine dU (some 7) Tryz.func69 #[.pointer (some ⟨g, 0, none⟩), .int .i64 12] ?_; (with_reducible refine (bS.calls g cd p8 p9 12 qP vS vT w0 _ ?ah ?aj A3.out).mono ?_); (case ah => exact ae.q_ bX); (case aj => exact gF HB (ae.ge bX.out)); rintro e w49 ⟨rfl, hi, hb, hk⟩; refine ⟨_, rfl, ?_⟩; replace ea := aa.mk (aq.pS hk (g' := gB) (o := .cells #[.slice none 0 0] 26 (0, 0)) (pB ea) jx.out (by simp)); replace fI := aa.mk (Kd.bB (Kd.lI (ae.apart (show ae w0 _ g cd p8 p9 from ae.q_ bX) (nh fI eK) (by decide)) hk (fun _ h => h.2)) (fun _ h => h.1)); replace eK := aa.mk (aq.pS hk (g' := iC) (o := .cells #[.slice Vc nC.length Vd] 26 (0, 0)) (mz eK) kN.out (by simp)); replace HK := aa.mk (aq.trans (e9 HK) hk (.inl rfl)); replace HB := aa.mk (hb); replace bX := aa.mk (hi); (try clear hb); (try clear hk); (try clear hi)) | ((with_reducible refine gate_dst (N := 27) rfl ?_); refine Kd.iK (Kd.int .i64) _ 3 ?hg (N := 27) ?hd (xs := ([0, 59, 4] : List Int)) (inner := [.int .i64 0, .int .i64 59, .int .i64 4]) (ok := fun _ => True) (okp := fun _ => True) ?hr ?hp (fun _ hk => hk) trivial (Below.refl _ _) (Nat.le_refl _) (by simp) ?_; (case hd => rfl); (case hg => rfl); (case hr => first | (go_simp; done) | (go_simp; rfl)); (case hp => exact (bE.one (show Kd.M (Kd.int .i64) _ _ _ 0 [.int .i64 0] from rfl) (bE.one (show Kd.M (Kd.int .i64) _ _ _ 59 [.int .i64 59] from rfl) (bE.one (show Kd.M (Kd.int .i64) _ _ _ 4 [.int .i64 4] from rfl) (bE.none _ _))))); intro aAk w50 Me hb hg_ hnew_; clear hg_ hnew_; (first | rw [← Y0.out] at Me | (simp only [Int.reduceToNat] at Me; rw [← Y0.out] at Me)); have uH := aa.mk (Kd.aW (Kd.eV Me (Kd.gy (b9 fI.out))) (bs (w := w) (g := g) (row := none) (e9 HK))); replace fI := aa.mk (Kd.dZ (b9 fI.out) (Kd.cV Me) hb); replace ea := cn ea hb; replace eK := cn eK hb; replace HK := aa.mk (aq.trans (e9 HK) (aq.dK hb g none) (.inl rfl)); replace HB := aa.mk (b7 (gF HB (ae.ge bX.out)) hb); replace bX := aa.mk (ae.below (ae.q_ bX) hb); clear hb Me; obtain ⟨L3, Ho, L4⟩ := Kd.aN uH.out; subst L4) | ((with_reducible refine gate_callee (f := 47) rfl ?_); refine dU (some 28) Tryz.func47 #[.pointer (some ⟨g, 0, none⟩), .slice L3 acL.length Ho] ?_; (with_reducible refine (dQ.calls g cd vS vT _ _ acL Md aiJ aiK w0 _ ?ah ?aj ?fB ?hD ?zC A41.out).mono ?_); (case ah => exact ae.q_ bX); (case aj => exact gF HB (ae.ge bX.out)); (case fB => exact kx ((Kd.ao uH.out).2.2)); (case hD => exact (Kd.ao uH.out).2.1); (case zC => exact sI (ae.mK bX.out uH.out (by decide))); rintro e w53 ⟨rfl, hi, hb, hk⟩; refine ⟨_, rfl, ?_⟩; replace ea := aa.mk (aq.pS hk (g' := gB) (o := .cells #[.slice none 0 0] 26 (0, 0)) (cC ea.out) jx.out (by simp)); replace fI := aa.mk (Kd.bB (Kd.lI (ae.apart (show ae w0 _ g cd vS vT from ae.q_ bX) (b9 fI.out) (by decide)) hk (fun _ h => h.2)) (fun _ h => h.1)); replace eK := aa.mk (aq.pS hk (g' := iC) (o := .cells #[.slice Vc nC.length Vd] 26 (0, 0)) (cC eK.out) kN.out (by simp)); replace uH := aa.mk (Kd.bB (Kd.lI (ae.apart (show ae w0 _ g cd vS vT from ae.q_ bX) (b9 uH.out) (by decide)) hk (fun _ h => h.2)) (fun _ h => h.1)); replace HK := aa.mk (aq.trans (e9 HK) hk (.inl rfl)); replace HB := aa.mk (hb); replace bX := aa.mk (hi); (try clear hb); (try clear hk); (try clear hi)) | ((with_reducible refine gate_dst (N := 29) rfl ?_); refine Kd.iK (Kd.int .i64) _ 3 ?hg (N := 29) ?hd (xs := ([Md, 60] : List Int)) (inner := [.int .i64 Md, .int .i64 60]) (ok := fun _ => True) (okp := fun _ => True) ?hr ?hp (fun _ hk => hk) trivial (Below.refl _ _) (Nat.le_refl _) (by simp) ?_; (case hd => rfl); (case hg => rfl); (case hr => first | (go_simp; done) | (go_simp; rfl)); (case hp => exact (bE.one (show Kd.M (Kd.int .i64) _ _ _ Md [.int .i64 Md] from rfl) (bE.one (show Kd.M (Kd.int .i64) _ _ _ 60 [.int .i64 60] from rfl) (bE.none _ _)))); intro aAm HG HH hb hg_ hnew_; clear hg_ hnew_; (first | rw [← Y1.out] at HH | (simp only [Int.reduceToNat] at HH; rw [← Y1.out] at HH)); have Y2 := aa.mk (Kd.aW (Kd.eV (Kd.eV HH (Kd.gy (b9 fI.out))) (Kd.gy (b9 uH.out))) (bs (w := w) (g := g) (row := none) (e9 HK))); replace fI := aa.mk (Kd.dZ (b9 fI.out) (Kd.cV HH) hb); replace uH := aa.mk (Kd.dZ (b9 uH.out) (Kd.cV HH) hb); replace ea := cn ea hb; replace eK := cn eK hb; replace HK := aa.mk (aq.trans (e9 HK) (aq.dK hb g none) (.inl rfl)); replace HB := aa.mk (b7 (gF HB (ae.ge bX.out)) hb); replace bX := aa.mk (ae.below (ae.q_ bX) hb); clear hb HH; obtain ⟨PQ, PR, acw⟩ := Kd.aN Y2.out; subst acw; have CV := fG eK; have CW := af eK.out 0; have Y3 := jx.out; have Y4 := qQ.out; have Vg := fG ea; have Vh := af ea.out 0))
   refine bodyPost_ret (results_cell_row rfl _ _ gB 26 #[.slice PQ Vb.length PR] (0, 0) _ rfl (mz ea) Tryz.underlying26 rfl (by kernel_rfl)) rfl ?_
   exact ⟨_, ig, Kd.px (by (with_reducible repeat (first | apply Kd.bQ | apply Kd.bT | apply Kd.bR)); exact Kd.bB (Kd.iJ (p := ⟨gB, 0, none⟩) (Kd.iJ (p := ⟨iC, 0, none⟩) (Kd.cI (Kd.cI Y2.out eK.out (by decide)) ea.out (by decide)) (fun _ hk => hk.1.2) (.slice PQ Vb.length PR)) (fun _ hk => hk.2) (.slice PQ Vb.length PR)) (fun _ hk => trivial)), ae.q_ bX, gF HB (ae.ge bX.out), e9 HK⟩
 rw [if_pos c4] at H
 have kI : (qP == 0) = true := beq_iff_eq.mpr c4
 have Ea : (qP != 0) = false := bne_eq_false_iff_eq.mpr c4
 clear c4
 obtain ⟨Vi, P7⟩ : ∃ y_ : List Int, y_ = (([0, 61, 12, (-3), 60] : List Int)) := ⟨_, rfl⟩
 replace H : ((dQ.f cd vS vT Vi).bind fun zA => (if nC.length < 17592186044416 then (some ((nC ++ [zA.1]), zA.2.1, zA.2.2)) else (none))) = some (r1, r2, r3) := by subst P7; exact H
 have Y5 := aa.mk P7
 clear P7
 obtain ⟨⟨Vj, aiO, aiP⟩, A5, H⟩ := eA H
 (try dsimp only at H)
 obtain ⟨c6, H⟩ := kG H
 have arA := aa.mk c6
 clear c6
 obtain ⟨Vk, P8⟩ : ∃ y_ : List Int, y_ = (nC ++ [Vj]) := ⟨_, rfl⟩
 replace H : (some (Vk, aiO, aiP)) = some (r1, r2, r3) := by subst P8; exact H
 have aiQ := aa.mk P8
 clear P8
 simp only [Option.some.injEq, Prod.mk.injEq] at H
 obtain ⟨rfl, rfl, rfl⟩ := H
 go_enter Tryz.func34, Tryz.ntmps34
 try go_wp2_with (first | ((with_reducible refine gate_dst (N := 2) rfl ?_); refine iP 2 #[.slice none 0 0] 26 ?_; intro gB hg w7 hbox hb; replace HB := aa.mk (b7 (gF HB (ae.ge bX.out)) hb); have ea := aa.mk (hbox); have PZ := aa.mk ((by rw [hg]; exact (bs (w := w) (g := g) (row := none) (e9 HK)) : w.heap.size ≤ gB)); have P0 := aa.mk ((Nat.le_trans wR.out (by rw [hg]; exact (bs (w := w) (g := g) (row := none) (e9 HK)) : w.heap.size ≤ gB) : w0.heap.size ≤ gB)); replace HK := aa.mk (aq.trans (e9 HK) (aq.dK hb g none) (.inl rfl)); have qQ := aa.mk ((by rw [hg]; exact Nat.ne_of_lt (ae.lt (show ae w0 _ g cd eD eJ from ae.q_ bX)) : g ≠ gB)); have jx := aa.mk ((by rw [hg]; exact Nat.ne_of_gt (ae.lt (show ae w0 _ g cd eD eJ from ae.q_ bX)) : gB ≠ g)); replace bX := aa.mk (ae.below (ae.q_ bX) hb); clear hb hbox hg) | ((with_reducible refine gate_callee (f := 74) rfl ?_); refine dU (some 5) Tryz.func74 #[.pointer (some ⟨g, 0, none⟩)] ?_; (with_reducible refine (bG.calls k g cd eD eJ nC p8 p9 w0 _ ?ah ?aj A2.out).mono ?_); (case ah => exact ae.q_ bX); (case aj => exact gF HB (ae.ge bX.out)); rintro e w8 ⟨acF, rfl, b0, hi, hb, hk⟩; refine ⟨_, rfl, ?_⟩; replace ea := aa.mk (aq.pS hk (g' := gB) (o := .cells #[.slice none 0 0] 26 (0, 0)) (cC ea.out) jx.out (by simp)); have fI := aa.mk (Kd.aW b0 (bs (w := w) (g := g) (row := none) (e9 HK))); replace HK := aa.mk (aq.trans (e9 HK) hk (.inl rfl)); replace HB := aa.mk (hb); replace bX := aa.mk (hi); (try clear hb); (try clear hk); (try clear hi); (try clear b0)) | ((with_reducible refine gate_dst (N := 3) rfl ?_); refine iP 3 #[.slice none 0 0] 26 ?_; intro iC hg w9 hbox hb; replace fI := aa.mk (Kd.aY (b9 fI.out) hb); replace HB := aa.mk (b7 (gF HB (ae.ge bX.out)) hb); have eK := aa.mk (hbox); have P1 := aa.mk ((by rw [hg]; exact (bs (w := w) (g := g) (row := none) (e9 HK)) : w.heap.size ≤ iC)); have P2 := aa.mk ((Nat.le_trans wR.out (by rw [hg]; exact (bs (w := w) (g := g) (row := none) (e9 HK)) : w.heap.size ≤ iC) : w0.heap.size ≤ iC)); replace HK := aa.mk (aq.trans (e9 HK) (aq.dK hb g none) (.inl rfl)); have ly := mw hg ea; have lz := my hg ea; replace ea := cn ea hb; have qR := aa.mk ((by rw [hg]; exact Nat.ne_of_lt (ae.lt (show ae w0 _ g cd p8 p9 from ae.q_ bX)) : g ≠ iC)); have kN := aa.mk ((by rw [hg]; exact Nat.ne_of_gt (ae.lt (show ae w0 _ g cd p8 p9 from ae.q_ bX)) : iC ≠ g)); replace bX := aa.mk (ae.below (ae.q_ bX) hb); clear hb hbox hg; obtain ⟨pJ, oQ, rJ⟩ := Kd.aN fI.out; subst rJ; have YC := lz.out; have YD := ly.out; have Y6 := kN.out; have Y7 := qR.out; have JU := fG eK; have JV := af eK.out 0) | ((with_reducible refine gate_callee (f := 69) rfl ?_); refine dU (some 7) Tryz.func69 #[.pointer (some ⟨g, 0, none⟩), .int .i64 12] ?_; (with_reducible refine (bS.calls g cd p8 p9 12 qP vS vT w0 _ ?ah ?aj A3.out).mono ?_); (case ah => exact ae.q_ bX); (case aj => exact gF HB (ae.ge bX.out)); rintro e TI ⟨rfl, hi, hb, hk⟩; refine ⟨_, rfl, ?_⟩; replace ea := aa.mk (aq.pS hk (g' := gB) (o := .cells #[.slice none 0 0] 26 (0, 0)) (pB ea) jx.out (by simp)); replace fI := aa.mk (Kd.bB (Kd.lI (ae.apart (show ae w0 _ g cd p8 p9 from ae.q_ bX) (nh fI eK) (by decide)) hk (fun _ h => h.2)) (fun _ h => h.1)); replace eK := aa.mk (aq.pS hk (g' := iC) (o := .cells #[.slice pJ nC.length oQ] 26 (0, 0)) (mz eK) kN.out (by simp)); replace HK := aa.mk (aq.trans (e9 HK) hk (.inl rfl)); replace HB := aa.mk (hb); replace bX := aa.mk (hi); (try clear hb); (try clear hk); (try clear hi)))
 replace fI := aa.mk (Kd.bR fI.out)
 replace ea := aa.mk (bg ea.out)
 replace eK := aa.mk (bg eK.out)
 replace bX := aa.mk (ae.drew bX.out)
 replace HK := aa.mk (sK HK.out)
 replace HB := aa.mk (bD HB.out)
 refine fy (n := 9) (S := fun w' => w'.cell? ⟨iC, 0, none⟩ = some (.slice pJ nC.length oQ)) (ds := [8]) (B_ 0 9) (by kernel_rfl) rfl rfl ((aH eK.out 0).trans rfl) (fun hHeld => ?_); refine dv dH.arx dH.aiA (fun HT_ HW_ => ?_)
 generalize TI.drew = LS at fI ea eK bX HK HB hHeld ⊢
 refine b5 HT_ 0 10 (B_ 1 9) ?_
 refine b5 HT_ 2 12 (B_ 5 9) ?_
 refine lL HT_ HW_ hHeld 1 11 (B_ 7 9) ?_
 refine o2 HT_ 3 13 (B_ 15 9) (fun K hK => ?_)
 refine Kd.yC (Kd.int .i64) _ 3 ?hg (N := 13) ?hd (xs := ([0, 61, 12, (-3), 60] : List Int)) (inner := [.int .i64 0, .int .i64 61, .int .i64 12, .int .i64 (-3), .int .i64 60]) (ok := fun _ => True) (okp := fun _ => True) ?hr ?hp (fun _ hk => hk) trivial (Below.refl _ _) (Nat.le_refl _) (by simp) ?_; (case hd => rfl); (case hg => rfl); (case hr => first | (go_simp; done) | (go_simp; rfl)); (case hp => exact (bE.one (show Kd.M (Kd.int .i64) _ _ _ 0 [.int .i64 0] from rfl) (bE.one (show Kd.M (Kd.int .i64) _ _ _ 61 [.int .i64 61] from rfl) (bE.one (show Kd.M (Kd.int .i64) _ _ _ 12 [.int .i64 12] from rfl) (bE.one (show Kd.M (Kd.int .i64) _ _ _ (-3) [.int .i64 (-3)] from rfl) (bE.one (show Kd.M (Kd.int .i64) _ _ _ 60 [.int .i64 60] from rfl) (bE.none _ _)))))))
 intro aAn LX Mf hb hg_ hnew_
 clear hg_ hnew_
 (first | rw [← Y5.out] at Mf | (simp only [Int.reduceToNat] at Mf; rw [← Y5.out] at Mf))
 have uI := aa.mk (Kd.aW (Kd.eV Mf (Kd.gy (b9 fI.out))) (bs (w := w) (g := g) (row := none) (e9 HK)))
 replace fI := aa.mk (Kd.dZ (b9 fI.out) (Kd.cV Mf) hb)
 replace ea := cn ea hb
 replace eK := cn eK hb
 replace HK := aa.mk (aq.trans (e9 HK) (aq.dK hb g none) (.inl rfl))
 replace HB := aa.mk (b7 (gF HB (ae.ge bX.out)) hb)
 replace bX := aa.mk (ae.below (ae.q_ bX) hb)
 clear hb Mf
 obtain ⟨nn, mQ, ze⟩ := Kd.aN uI.out
 (first | subst ze | (injection ze with ox tM oy; have tN := ox.symm; have tO := oy.symm; clear ox tM oy; subst tN; subst tO))
 refine hK.out _ _ ((aH eK.out 0).trans rfl) (fun hHeld => ?_)
 clear hK K
 refine ep (a' := ?_) ?_ ?_
 rotate_left
 · show Act.put _ (some 13) _ = _
   simp only [Act.put, jK, jA, jB, b6, dw]
   rfl
 refine o2 HT_ 4 14 (B_ 31 9) (fun K hK => ?_)
 refine gu Tryz.func47 (by kernel_rfl) rfl #[.pointer (some ⟨g, 0, none⟩), .slice nn Vi.length mQ] (by rfl) rfl rfl (by (try simp only [List.map_toArray, List.map_cons, List.map_nil]); first | done | rfl | (simp only [List.length_drop, List.length_take]; rfl)) ?_
 with_reducible refine (dQ.calls g cd vS vT _ _ Vi Vj aiO aiP w0 _ ?ah ?aj ?fB ?hD ?zC A5.out).mono ?_
 (case ah => exact ae.q_ bX)
 (case aj => exact gF HB (ae.ge bX.out))
 (case fB => exact kx ((Kd.ao uI.out).2.2))
 (case hD => exact (Kd.ao uI.out).2.1)
 (case zC => exact sI (ae.mK bX.out uI.out (by decide)))
 rintro e TJ ⟨rfl, hi, hb, hk⟩
 refine ⟨_, rfl, ?_⟩
 replace ea := aa.mk (aq.pS hk (g' := gB) (o := .cells #[.slice none 0 0] 26 (0, 0)) (cC ea.out) jx.out (by simp))
 replace fI := aa.mk (Kd.bB (Kd.lI (ae.apart (show ae w0 _ g cd vS vT from ae.q_ bX) (b9 fI.out) (by decide)) hk (fun _ h => h.2)) (fun _ h => h.1))
 replace eK := aa.mk (aq.pS hk (g' := iC) (o := .cells #[.slice pJ nC.length oQ] 26 (0, 0)) (cC eK.out) kN.out (by simp))
 replace uI := aa.mk (Kd.bB (Kd.lI (ae.apart (show ae w0 _ g cd vS vT from ae.q_ bX) (b9 uI.out) (by decide)) hk (fun _ h => h.2)) (fun _ h => h.1))
 replace HK := aa.mk (aq.trans (e9 HK) hk (.inl rfl))
 replace HB := aa.mk (hb)
 replace bX := aa.mk (hi)
 (try clear hb)
 (try clear hk)
 (try clear hi)
 refine hK.out _ _ ((aH eK.out 0).trans rfl) (fun hHeld => ?_)
 clear hK K
 refine ep (a' := ?_) ?_ ?_
 rotate_left
 · show Act.put _ (some 14) _ = _
   simp only [Act.put, jK, jA, jB, b6, dw]
   rfl
 refine o2 HT_ 5 15 (B_ 63 9) (fun K hK => ?_)
 refine kU (w1 := ?_) (v := ?_) (by rfl) rfl ?_ ?_
 rotate_left 2
 · go_simp
   constructor
   · rfl
   · rfl
 refine hK.out _ _ ((aH (du eK.out _) 0).trans rfl) (fun hHeld => ?_)
 clear hK K
 refine ep (a' := ?_) ?_ ?_
 rotate_left
 · show Act.put _ (some 15) _ = _
   simp only [Act.put, jK, jA, jB, b6, dw]
   rfl
 refine o2 HT_ 6 16 (B_ 127 9) (fun K hK => ?_)
 refine Kd.kY (Kd.int .i64) w.heap.size (by rfl) (.tmp 11) (.tmp 15) 24 3 (.int .i64 0) 8 rfl Tryz.underlying24 iS rfl (by decide) (by omega) (.slice pJ nC.length oQ) nC Vj [.int .i64 Vj] (fun k_ => some k_ ≠ (.slice nn Vi.length mQ : Value).ownBlock) (fun _ => False) rfl rfl ?aP (fun _ hk => hk.elim) ?aF ?aO (Below.refl _ _) ?aS ?aL ?_
 (case aP => exact rfl)
 (case aF => exact (fun k_ hk => Kd.cM (Kd.gy (b9 uI.out)) k_ hk))
 (case aO => exact (by (with_reducible repeat (first | apply Kd.bQ | apply Kd.bT | apply Kd.bR)); exact Kd.bB fI.out (fun _ hk => hk.2)))
 (case aS => exact (bs (w := w) (g := g) (row := none) (e9 HK)))
 (case aL => have := arA.out; omega)
 intro aAo UB ho hb hg hat
 rw [← aiQ.out] at ho
 replace ea := aa.mk (cS (cC ea.out) hg (Kd.nR fI.out ea.out (by decide)))
 replace eK := aa.mk (cS (cC eK.out) hg (Kd.nR fI.out eK.out (by decide)))
 replace uI := aa.mk (Kd.kt (ok := (fun _ => True)) (b9 uI.out) hg hat)
 replace HB := aa.mk (ui (gF HB (ae.ge bX.out)) HL.out hb)
 replace bX := aa.mk (ae.grown (ae.q_ bX) hg (ae.mK bX.out fI.out (by decide)))
 replace HK := aa.mk (aq.trans (e9 HK) (aq.uc hg g) (Kd.Jd fI.out))
 have Y8 := aa.mk (ho)
 clear fI
 clear ho hb hg hat
 obtain ⟨Pu, Pv, Pw⟩ := Kd.aN Y8.out
 (first | subst Pw | (injection Pw with ox tM oy; have tN := ox.symm; have tO := oy.symm; clear ox tM oy; subst tN; subst tO))
 refine hK.out _ _ ((aH eK.out 0).trans rfl) (fun hHeld => ?_)
 clear hK K
 refine ep (a' := ?_) ?_ ?_
 rotate_left
 · show Act.put _ (some 16) _ = _
   simp only [Act.put, jK, jA, jB, b6, dw]
   rfl
 refine b5 HT_ 7 17 (B_ 255 9) ?_
 refine Nr (i := 8) (N := none) (B_ 511 9) rfl rfl (vM HT_.out (by kernel_rfl)) (by decide) (fun K hK => ?_)
 have aAp : UB.cell? ⟨iC, 0, none⟩ = some (.slice pJ nC.length oQ) := (aH eK.out 0).trans rfl
 have awa := af eK.out 0
 have aoj := ly.out
 have aok := lz.out
 refine Ns (w1 := ?_) (by rfl) rfl ?_ ?_
 rotate_left
 · go_simp
   rfl
 refine hK.out _ _ ?_
 clear hK K
 refine ik (eS HT_.out (by kernel_rfl)) ?_
 have Jv := fG eK
 have Jw := af eK.out 0
 have Y9 := jx.out
 have Y_ := qQ.out
 have xX := fG ea
 have xY := af ea.out 0
 try go_wp2
 refine bodyPost_ret (results_cell_row rfl _ _ gB 26 #[.slice Pu Vk.length Pv] (0, 0) _ rfl (mz ea) Tryz.underlying26 rfl (by kernel_rfl)) rfl ?_
 exact ⟨_, ig, Kd.px (by (with_reducible repeat (first | apply Kd.bQ | apply Kd.bT | apply Kd.bR)); exact Kd.bB (Kd.iJ (p := ⟨gB, 0, none⟩) (Kd.iJ (p := ⟨iC, 0, none⟩) (Kd.cI (Kd.cI Y8.out eK.out (by decide)) ea.out (by decide)) (fun _ hk => hk.1.2) (.slice Pu Vk.length Pv)) (fun _ hk => hk.2) (.slice Pu Vk.length Pv)) (fun _ hk => trivial)), ae.q_ bX, gF HB (ae.ge bX.out), e9 HK⟩
def eh.l0 : Nat → List Int → Int → Int → Option (List Int × Int × Int)
 | 0, _, _, _ => none
 | k + 1, x0, x3, x4 => if x4 < (x0.length : Int) then (if x4 < 4000 then (if 0 ≤ x4 then (eh.l0 k x0 (Go.bits .and .i64 (wrap64 ((wrap64 ((wrap64 (x3 * 131)) + (wrap64 (rd x0 x4)))) + 7)) 1073741823) (wrap64 (x4 + 1))) else (none)) else (some (x0, 0, x3))) else (some (x0, 0, x3))
def eh.f (k : Nat) (l0 : List Int) : Option (List Int × Int × Int) := eh.l0 k l0 (wrap64 (26583 + (l0.length : Int))) 0
theorem eh.calls (k : Nat) (A0 : Option Addr) (c0 : Nat) (l0 : List Int) (r1 : List Int) (r2 : Int) (r3 : Int) (w0 w : World) (hB : Below w0.heap.size w0 w) (fH : Kd.C (Kd.int .u8) w0 A0 l0.length l0) (gL : l0.length ≤ c0) (h : eh.f k l0 = some (r1, r2, r3)) :
 Calls Tryz.prog 35 #[.slice A0 l0.length c0] w fun e w' => ∃ g_ : Nat, e = .returned (.pointer (some ⟨g_, 0, none⟩)) ∧ ae w0 w' g_ r1 r2 r3 ∧ Below w0.heap.size w0 w' ∧ Below w.heap.size w w' := by
 have aAq := Tryz.underlying65
 have eZ := aa.mk fH
 have jN := aa.mk gL
 clear fH gL
 have HBW := aa.mk (Below.refl w.heap.size w)
 have wR := aa.mk hB.size
 have HB := aa.mk hB
 clear hB
 have H := h
 clear h
 unfold eh.f at H
 have H' := aa.mk H
 clear H
 go_enter Tryz.func35, Tryz.ntmps35
 go_wp2
 go_loopg [3, 4] k (fun kq v3 v4 w' => ∃ (bd : Int) (bx : Int), v3 = .int .i64 bd ∧ v4 = .int .i64 bx ∧ aa (eh.l0 kq l0 bd bx = some (r1, r2, r3)) ∧ aa (kq ≤ k) ∧ aa (Below w0.heap.size w0 w') ∧ aa (Below w.heap.size w w'))
 case atStart => exact ⟨(wrap64 (26583 + (l0.length : Int))), (0), eF, eF, H', ⟨Nat.le_refl _⟩, ⟨gA HB.out⟩, HBW⟩
 case round =>
  clear H'
  clear HBW
  obtain ⟨bd, bx, rfl, rfl, HA, fu, HB, HBW⟩ := hrel
  cases gk with
  | zero => exact absurd HA.out (by simp [eh.l0])
  | succ k1 =>
   have H := HA.out
   clear HA
   simp only [eh.l0] at H
   by_cases c2 : bx < (l0.length : Int)
   rotate_left
   · rw [if_neg c2] at H
     have tL : decide (bx < (l0.length : Int)) = false := decide_eq_false c2
     clear c2
     simp only [Option.some.injEq, Prod.mk.injEq] at H
     obtain ⟨rfl, rfl, rfl⟩ := H
     go_wp2_with (first | ((with_reducible refine gate_dst (N := 31) rfl ?_); refine iP 31 #[.slice A0 l0.length c0, .int .i64 0, .int .i64 bd] 65 ?_; intro P9 hg w6 hbox hb; replace HB := jL HB hb; have aiR := aa.mk (hbox); have awb := ij hg HBW; have aiS := aa.mk ((Nat.le_trans wR.out (by rw [hg]; exact (ag (gA HBW.out)) : w.heap.size ≤ P9) : w0.heap.size ≤ P9)); replace HBW := aa.mk (b7 HBW.out hb); clear hb hbox hg))
     go_ret
     exact ⟨_, rfl, (show ae w0 _ P9 l0 0 bd from ⟨_, _, cC aiR.out, aiS.out, eZ.out⟩), bC HB, bC HBW⟩
   rw [if_pos c2] at H
   have tL : decide (bx < (l0.length : Int)) = true := decide_eq_true c2
   clear c2
   by_cases c3 : bx < 4000
   rotate_left
   · rw [if_neg c3] at H
     have jD : decide (bx < 4000) = false := decide_eq_false c3
     clear c3
     simp only [Option.some.injEq, Prod.mk.injEq] at H
     obtain ⟨rfl, rfl, rfl⟩ := H
     go_wp2_with (first | ((with_reducible refine gate_dst (N := 31) rfl ?_); refine iP 31 #[.slice A0 l0.length c0, .int .i64 0, .int .i64 bd] 65 ?_; intro P_ hg w5 hbox hb; replace HB := jL HB hb; have aiT := aa.mk (hbox); have awc := ij hg HBW; have aiU := aa.mk ((Nat.le_trans wR.out (by rw [hg]; exact (ag (gA HBW.out)) : w.heap.size ≤ P_) : w0.heap.size ≤ P_)); replace HBW := aa.mk (b7 HBW.out hb); clear hb hbox hg))
     go_ret
     exact ⟨_, rfl, (show ae w0 _ P_ l0 0 bd from ⟨_, _, cC aiT.out, aiU.out, eZ.out⟩), bC HB, bC HBW⟩
   rw [if_pos c3] at H
   have jD : decide (bx < 4000) = true := decide_eq_true c3
   clear c3
   obtain ⟨kI, H⟩ := dB H
   have H' := aa.mk H
   clear H
   have acN : 0 ≤ (bx : Int) := bO
   have acO : bx < (l0.length : Int) := bO
   obtain ⟨awd, arB, JW⟩ := Kd.aZ eZ.out bx acN acO
   cases arB
   replace JW := kX HB.out JW
   replace acN := eq_true acN
   replace acO := eq_true acO
   go_wp2
   go_roundg k1
   case measure => have := fu.out; omega
   case rel => exact ⟨(Go.bits .and .i64 (wrap64 ((wrap64 ((wrap64 (bd * 131)) + (wrap64 (rd l0 bx)))) + 7)) 1073741823), (wrap64 (bx + 1)), eF, eF, H', ⟨by have := fu.out; omega⟩, ⟨gA HB.out⟩, ⟨gA HBW.out⟩⟩
def iD.f (k : Nat) (l0 : List Int) : Option (List Int) := (eh.f k l0).bind fun Qa => ((dH.f k Qa.1 Qa.2.1 Qa.2.2).bind fun aiV => (some aiV.1))
theorem iD.calls (k : Nat) (A0 : Option Addr) (c0 : Nat) (l0 : List Int) (r : List Int) (w : World) (fH : Kd.C (Kd.int .u8) w A0 l0.length l0) (gL : l0.length ≤ c0) (h : iD.f k l0 = some r) :
 Calls Tryz.prog 6 #[.slice A0 l0.length c0] w fun e w' => ∃ jf : Value, e = .returned (.agg #[jf]) ∧ Kd.Q (Kd.int .i64) 3 w' w.heap.size (fun _ => True) jf r ∧ Below w.heap.size w w' := by
 have kJ := Tryz.underlying26
 have eZ := aa.mk fH
 have jN := aa.mk gL
 clear fH gL
 have HB := aa.mk (Below.refl w.heap.size w)
 have H := h
 clear h
 unfold iD.f at H
 obtain ⟨⟨aiW, aiX, aiY⟩, A2, H⟩ := eA H
 (try dsimp only at H)
 obtain ⟨⟨acP, arC, arD⟩, A3, H⟩ := eA H
 (try dsimp only at H)
 obtain rfl := Option.some.inj H
 go_enter Tryz.func6, Tryz.ntmps6
 go_wp2_with (first | ((with_reducible refine gate_dst (N := 2) rfl ?_); refine iP 2 #[.slice none 0 0] 26 ?_; intro Qb hg w4 hbox hb; have tu := aa.mk (hbox); have awe := ij hg HB; have awf := ij hg HB; replace HB := jL HB hb; clear hb hbox hg) | ((with_reducible refine gate_callee (f := 35) rfl ?_); refine dU (some 4) Tryz.func35 #[.slice A0 l0.length c0] ?_; (with_reducible refine (eh.calls k _ _ l0 aiW aiX aiY w _ ?ah ?aj ?fB A2.out).mono ?_); (case ah => exact bC HB); (case aj => exact eZ.out); (case fB => exact jN.out); rintro e w5 ⟨aiZ, rfl, hi, hb, vA⟩; refine ⟨_, rfl, ?_⟩; replace HB := aa.mk (hb); have EL := aa.mk (hi); have Mg := aa.mk (ae.rK hi (bW (cC tu.out) vA) (by decide)); have BF := aa.mk (Ne.symm (ae.rK hi (bW (cC tu.out) vA) (by decide))); replace tu := aa.mk (bW (cC tu.out) vA); (try clear hb); (try clear vA); (try clear hi)) | ((with_reducible refine gate_callee (f := 34) rfl ?_); refine dU (some 5) Tryz.func34 #[.pointer (some ⟨aiZ, 0, none⟩)] ?_; (with_reducible refine (dH.calls k aiZ aiW aiX aiY acP arC arD w _ ?ah ?aj A3.out).mono ?_); (case ah => exact ae.q_ EL); (case aj => exact gF HB (ae.ge EL.out)); rintro e w6 ⟨aAr, rfl, b0, hi, hb, hk⟩; refine ⟨_, rfl, ?_⟩; replace tu := aa.mk (aq.pS hk (g' := Qb) (o := .cells #[.slice none 0 0] 26 (0, 0)) (cC tu.out) BF.out (by simp)); have Za := aa.mk (Kd.oX b0 (ag (gF HB (ae.ge EL.out)))); replace HB := aa.mk (hb); replace EL := aa.mk (hi); (try clear hb); (try clear hk); (try clear hi); (try clear b0); obtain ⟨AH, sP, Bo, _⟩ := Kd.la Za.out; subst Bo; have arE := BF.out; have arF := Mg.out; have Qc := fG tu; have Qd := af tu.out 0))
 refine bodyPost_ret (results_cell_row rfl _ _ Qb 26 #[.slice AH acP.length sP] (0, 0) _ rfl (mz tu) Tryz.underlying26 rfl (by kernel_rfl)) rfl ?_
 exact ⟨_, ig, by (with_reducible repeat (first | apply Kd.gf | apply Kd.gh | apply Kd.dV)); exact Kd.fe (Kd.oY (p := ⟨Qb, 0, none⟩) (Kd.bz Za.out tu.out (by decide)) (fun _ hk => hk.2) (.slice AH acP.length sP)) (fun _ hk => trivial), gF HB (ae.ge EL.out)⟩
def ir.f (k : Nat) (l0 : List Int) : Option (Bool) := (bb.f k l0).bind fun acQ => (if acQ = true then ((a6.f k l0 1 199).bind fun acR => (some acR)) else (some false))
theorem ir.calls (k : Nat) (A0 : Option Addr) (c0 : Nat) (l0 : List Int) (r : Bool) (w : World) (fH : Kd.C (Kd.int .i64) w A0 l0.length l0) (gL : l0.length ≤ c0) (h : ir.f k l0 = some r) :
 Calls Tryz.prog 77 #[.slice A0 l0.length c0] w fun e w' => e = .returned (.bool r) ∧ av w w' := by
 have eZ := aa.mk fH
 have jN := aa.mk gL
 clear fH gL
 have H := h
 clear h
 unfold ir.f at H
 obtain ⟨acQ, A2, H⟩ := eA H
 by_cases c3 : acQ = true
 rotate_left
 · replace c3 := Bool.eq_false_iff.mpr c3
   subst c3
   rw [if_neg (show ¬ (false = true) by decide)] at H
   obtain rfl := Option.some.inj H
   go_enter Tryz.func77, Tryz.ntmps77
   go_wp2_with (first | ((with_reducible refine gate_callee (f := 85) rfl ?_); refine dU (some 4) Tryz.func85 #[.slice A0 l0.length c0] ?_; (with_reducible refine (bb.calls k _ _ l0 false _ ?ah ?aj A2.out).mono ?_); (case ah => exact kx (eZ.out)); (case aj => exact jN.out); rintro e w' ⟨rfl, ⟨nd, rfl⟩⟩; refine ⟨_, rfl, ?_⟩))
   go_ret
   exact ⟨by first | rfl | (simp; done) | (simp [*]; done), by repeat (first | exact av.refl _ | apply av.step)⟩
 subst c3
 rw [if_pos rfl] at H
 obtain ⟨acR, A4, H⟩ := eA H
 obtain rfl := Option.some.inj H
 go_enter Tryz.func77, Tryz.ntmps77
 go_wp2_with (first | ((with_reducible refine gate_callee (f := 85) rfl ?_); refine dU (some 4) Tryz.func85 #[.slice A0 l0.length c0] ?_; (with_reducible refine (bb.calls k _ _ l0 true _ ?ah ?aj A2.out).mono ?_); (case ah => exact kx (eZ.out)); (case aj => exact jN.out); rintro e w' ⟨rfl, ⟨nd, rfl⟩⟩; refine ⟨_, rfl, ?_⟩) | (go_at_call 84; (with_reducible refine (a6.calls k _ _ l0 1 199 acR _ ?ah ?aj A4.out).mono ?_); (case ah => exact kx (eZ.out)); (case aj => exact jN.out); rintro e w' ⟨rfl, ⟨nd, rfl⟩⟩))
 go_ret
 exact ⟨by first | rfl | (simp; done) | (simp [*]; done), by repeat (first | exact av.refl _ | apply av.step)⟩
mutual
def aE.j0 : Nat → List Int → Bool → Option (Int × Int × Bool)
 | 0, _, _ => none
 | k + 1, x0, tq => if tq = true then (some (0, 0, false)) else (if 201 ≤ 281474976710656 then (aE.l0 k x0 (List.replicate 201 false) x0 (x0.length : Int) 0) else (none))
def aE.l0 : Nat → List Int → List Bool → List Int → Int → Int → Option (Int × Int × Bool)
 | 0, _, _, _, _, _ => none
 | k + 1, x0, x4, Br, Mh, x22 => if x22 < Mh then (if 0 ≤ x22 then (if x22 < (Br.length : Int) then (if 0 ≤ (rd Br x22) then (if (rd Br x22) < (x4.length : Int) then (aE.l0 k x0 (x4.set ((rd Br x22) : Int).toNat true) Br Mh (wrap64 (x22 + 1))) else (none)) else (none)) else (none)) else (none)) else (if 0 ≤ (wrap64 ((x0.length : Int) - 1)) then (if (wrap64 ((x0.length : Int) - 1)) < (x0.length : Int) then (aE.l1 k x4 (rd x0 (wrap64 ((x0.length : Int) - 1))) 1) else (none)) else (none))
def aE.l1 : Nat → List Bool → Int → Int → Option (Int × Int × Bool)
 | 0, _, _, _ => none
 | k + 1, x4, x7, x8 => if x8 ≤ x7 then (aE.l2 k x4 x7 x8 x8) else (some (0, 0, false))
def aE.l2 : Nat → List Bool → Int → Int → Int → Option (Int × Int × Bool)
 | 0, _, _, _, _ => none
 | k + 1, x4, x7, x8, x9 => if (wrap64 (x8 + x9)) ≤ x7 then (if 0 ≤ x8 then (if x8 < (x4.length : Int) then (if e6 false x4 x8 = true then (aE.l2 k x4 x7 x8 (wrap64 (x9 + 1))) else (if 0 ≤ x9 then (if x9 < (x4.length : Int) then (if e6 false x4 x9 = true then (aE.l2 k x4 x7 x8 (wrap64 (x9 + 1))) else (if 0 ≤ (wrap64 (x8 + x9)) then (if (wrap64 (x8 + x9)) < (x4.length : Int) then (if e6 false x4 (wrap64 (x8 + x9)) = true then (some (x8, x9, true)) else (aE.l2 k x4 x7 x8 (wrap64 (x9 + 1)))) else (none)) else (none))) else (none)) else (none))) else (none)) else (none)) else (aE.l1 k x4 x7 (wrap64 (x8 + 1)))
end
def aE.f (k : Nat) (l0 : List Int) : Option (Int × Int × Bool) := (ir.f k l0).bind fun acT => (if acT = true then (aE.j0 k l0 ((l0.length : Int) == 0)) else (aE.j0 k l0 true))
theorem aE.calls (k : Nat) (A0 : Option Addr) (c0 : Nat) (l0 : List Int) (r1 : Int) (r2 : Int) (r3 : Bool) (w : World) (fH : Kd.C (Kd.int .i64) w A0 l0.length l0) (gL : l0.length ≤ c0) (h : aE.f k l0 = some (r1, r2, r3)) :
 Calls Tryz.prog 76 #[.slice A0 l0.length c0] w fun e w' => e = .returned (.tuple #[.agg #[.int .i64 r1, .int .i64 r2], .bool r3]) ∧ Below w.heap.size w w' := by
 have acU := Tryz.underlying69
 have eZ := aa.mk fH
 have jN := aa.mk gL
 clear fH gL
 have HB := aa.mk (Below.refl w.heap.size w)
 have H := h
 clear h
 unfold aE.f at H
 have N9 := aa.mk H
 clear H
 go_enter Tryz.func76, Tryz.ntmps76
 go_upto_region 1 with (first | ((with_reducible refine gate_dst (N := 2) rfl ?_); (try (refine gate_guard (by rfl) ?_; dsimp only)); refine iP 2 #[.int .i64 0, .int .i64 0] 69 ?_; intro qa hg w3 hbox hb; have iE := aa.mk (hbox); have awg := ij hg HB; have awh := ij hg HB; replace HB := jL HB hb; clear hb hbox hg))
 (try simp only [Act.put, jK, jA, jB])
 go_cut [17] (fun v17 wc => ∃ (kq : Nat) (lv : Bool), v17 = .bool lv ∧ aa (aE.j0 kq l0 lv = some (r1, r2, r3)) ∧ aa (kq ≤ k) ∧ aa (wc.heap[qa]? = some (.cells #[.int .i64 0, .int .i64 0] 69 (0, 0))) ∧ aa (Below w.heap.size w wc))
 case first =>
  have H := N9.out
  clear N9
  obtain ⟨acT, A4, H⟩ := eA H
  by_cases c5 : acT = true
  · subst c5
    rw [if_pos rfl] at H
    have H' := aa.mk H
    clear H
    go_wp2_with (first | ((with_reducible refine gate_callee (f := 77) rfl ?_); refine dU (some 11) Tryz.func77 #[.slice A0 l0.length c0] ?_; (with_reducible refine (ir.calls k _ _ l0 true _ ?ah ?aj A4.out).mono ?_); (case ah => exact iZ eZ HB); (case aj => exact jN.out); rintro e w' ⟨rfl, ⟨nd, rfl⟩⟩; refine ⟨_, rfl, ?_⟩))
    go_meet
    case rel => exact ⟨_, (((l0.length : Int) == 0)), eF, H', ⟨by first | omega | exact Nat.le_refl _⟩, ⟨cC iE.out⟩, ⟨bC HB⟩⟩
  replace c5 := Bool.eq_false_iff.mpr c5
  subst c5
  rw [if_neg (show ¬ (false = true) by decide)] at H
  have H' := aa.mk H
  clear H
  go_wp2_with (first | ((with_reducible refine gate_callee (f := 77) rfl ?_); refine dU (some 11) Tryz.func77 #[.slice A0 l0.length c0] ?_; (with_reducible refine (ir.calls k _ _ l0 false _ ?ah ?aj A4.out).mono ?_); (case ah => exact iZ eZ HB); (case aj => exact jN.out); rintro e w' ⟨rfl, ⟨nd, rfl⟩⟩; refine ⟨_, rfl, ?_⟩))
  go_meet
  case rel => exact ⟨_, (true), eF, H', ⟨by first | omega | exact Nat.le_refl _⟩, ⟨cC iE.out⟩, ⟨bC HB⟩⟩
 case rest =>
  clear N9
  obtain ⟨kq, lv, rfl, HA, wL, iE, HB⟩ := hcut
  cases kq with
  | zero => exact absurd HA.out (by simp [aE.j0])
  | succ Nb =>
   have H := HA.out
   clear HA
   simp only [aE.j0] at H
   by_cases c6 : lv = true
   · subst c6
     rw [if_pos rfl] at H
     simp only [Option.some.injEq, Prod.mk.injEq] at H
     obtain ⟨rfl, rfl, rfl⟩ := H
     have CX : wc.cell? ⟨qa, 0, none⟩ = some (.int .i64 0) := (aH iE.out 0).trans rfl
     have acV : wc.cell? ⟨qa, 1, none⟩ = some (.int .i64 0) := (aH iE.out 1).trans rfl
     have CY := af iE.out 0
     have acW := af iE.out 1
     go_wp2
     refine bodyPost_ret (ee rfl _ _ qa 69 #[.int .i64 0, .int .i64 0] (0, 0) _ rfl (by (with_reducible repeat (first | refine dI ?_ _ | refine bg ?_ | refine du ?_ _)); refine gj (cs := #[.int .i64 0, .int .i64 0]) ?_ 1 _ rfl; (with_reducible repeat (first | refine dI ?_ _ | refine bg ?_ | refine du ?_ _)); refine gj (cs := #[.int .i64 0, .int .i64 0]) ?_ 0 _ rfl; (with_reducible repeat (first | refine dI ?_ _ | refine bg ?_ | refine du ?_ _)); exact iE.out) Tryz.underlying69 rfl (by kernel_rfl)) rfl ?_
     exact ⟨ig, bC HB⟩
   replace c6 := Bool.eq_false_iff.mpr c6
   subst c6
   rw [if_neg (show ¬ (false = true) by decide)] at H
   obtain ⟨c8, H⟩ := kG H
   have rD := eq_true c8
   have Pt : decide (201 ≤ 281474976710656) = true := decide_eq_true c8
   clear c8
   obtain ⟨ai0, Qe⟩ : ∃ y_ : List Bool, y_ = (List.replicate 201 false) := ⟨_, rfl⟩
   replace H : (aE.l0 Nb l0 ai0 l0 (l0.length : Int) 0) = some (r1, r2, r3) := by subst Qe; exact H
   have Zb := aa.mk Qe
   clear Qe
   have H' := aa.mk H
   clear H
   go_wp2_with (first | ((with_reducible refine gate_dst (N := 19) rfl ?_); (try (refine gate_guard (by rfl) ?_; dsimp only)); refine Kd.vG Kd.bool _ 4 rfl (N := 19) rfl 66 _ _ rfl 201 rfl rfl Tryz.underlying66 (.bool false) 1 D9 rfl (by decide) (by omega) false (ok := fun _ => True) (okp := fun _ => True) rfl (fun _ hk => hk) trivial (by omega) (by omega) (Below.refl _ _) (Nat.le_refl _) ?_; intro acX w9 zv hb hg_ hnew_; clear hg_ hnew_; (first | rw [← Zb.out] at zv | (simp only [Int.reduceToNat] at zv; rw [← Zb.out] at zv)); have ai1 := aa.mk (Kd.aW zv (ag (bC HB))); replace iE := cn iE hb; replace HB := eM HB hb; clear hb zv))
   go_loopg [22] Nb (fun kq v22 w' => ∃ (eN : List Bool) (np : Int), v22 = .int .i64 np ∧ aa (aE.l0 kq l0 eN l0 (l0.length : Int) np = some (r1, r2, r3)) ∧ aa (kq ≤ Nb) ∧ aa (Kd.R Kd.bool 4 w' w.heap.size (fun _ => True) acX eN) ∧ aa (w'.heap[qa]? = some (.cells #[.int .i64 0, .int .i64 0] 69 (0, 0))) ∧ aa (Below w.heap.size w w'))
   case atStart => exact ⟨(ai0), (0), eF, H', ⟨Nat.le_refl _⟩, ⟨b9 ai1.out⟩, ⟨cC iE.out⟩, ⟨bC HB⟩⟩
   case round =>
    clear H'
    try clear rD
    try clear Pt
    obtain ⟨eN, np, rfl, HA, jo, bJ, iE, HB⟩ := hrel
    cases gk with
    | zero => exact absurd HA.out (by simp [aE.l0])
    | succ k2 =>
     have H := HA.out
     clear HA
     simp only [aE.l0] at H
     by_cases rL : np < (l0.length : Int)
     · rw [if_pos rL] at H
       have yW : decide (np < (l0.length : Int)) = true := decide_eq_true rL
       clear rL
       obtain ⟨o6, H⟩ := dB H
       obtain ⟨lS, H⟩ := dB H
       obtain ⟨jQ, H⟩ := dB H
       obtain ⟨rH, H⟩ := dB H
       obtain ⟨acY, Qf⟩ : ∃ y_ : List Bool, y_ = (eN.set ((rd l0 np) : Int).toNat true) := ⟨_, rfl⟩
       replace H : (aE.l0 k2 l0 acY l0 (l0.length : Int) (wrap64 (np + 1))) = some (r1, r2, r3) := by subst Qf; exact H
       have ai2 := aa.mk Qf
       clear Qf
       have H' := aa.mk H
       clear H
       have acZ : 0 ≤ (np : Int) := bO
       have ac0 : np < (l0.length : Int) := bO
       obtain ⟨awi, arG, CZ⟩ := Kd.aZ eZ.out np acZ ac0
       cases arG
       (try replace CZ := (HB.out.cell (World.block_lt_of_cell? w _ CZ)).trans CZ)
       replace acZ := eq_true acZ
       replace ac0 := eq_true ac0
       have p16 : 0 ≤ ((rd l0 np) : Int) := bO
       have q16 : ((rd l0 np) : Int) < ((eN.length : Int) : Int) := bO
       obtain ⟨ac1, ur, AT, ai3, arJ, aAs, ai4⟩ := Kd.ry bJ.out (by omega)
       (first | cases AT | (injection AT with ea_ en_ ec_; (first | subst ea_ | (injection ea_ with ea_; subst ea_)); subst ec_; clear en_))
       have arK := aa.mk ai3
       have aAt := aa.mk ai4
       clear ai3 arJ ai4
       obtain ⟨arL, arM⟩ := Kd.lK false bJ.out ((rd l0 np) : Int) p16 q16
       replace p16 := eq_true p16
       replace q16 := eq_true q16
       have ac2 := Kd.pz bJ.out ((rd l0 np) : Int) true
       go_wp2_with (first | ((with_reducible refine gate_store (t := 4) (p := 28) rfl ?_); refine fw (t := 4) (p := 28) (v := ?arN) (w1 := (wr.setCell ⟨ac1, ((rd l0 np) : Int).toNat, none⟩ (.bool true))) ?hg ?ho ?hn ?hr ?_; (case ho => rfl); (case hg => rfl); (case hn => rfl); (case hr => first | (go_simp; done) | (go_simp; rfl)); intro Ut hw; have hg : wr.grownBy Ut (some ac1) := (by rw [hw]; exact ac2.2); have hp_ : Kd.R Kd.bool 4 Ut w.heap.size (fun _ => True) (.slice (some ⟨ac1, 0, none⟩) eN.length ur) acY := (by rw [hw, ai2.out]; exact ac2.1); clear ac2; replace iE := aa.mk (cS (cC iE.out) hg (Kd.nR bJ.out iE.out (by decide))); replace bJ := aa.mk (hp_); replace HB := aa.mk ((by rw [hw]; exact hP (HB.out) arK.out : Below w.heap.size w Ut)); clear hg hw hp_))
       go_roundg k2
       case measure => have := wL.out; have := jo.out; omega
       case rel => exact ⟨(acY), (wrap64 (np + 1)), eF, H', ⟨by have := wL.out; have := jo.out; omega⟩, ⟨b9 bJ.out⟩, ⟨cC iE.out⟩, ⟨bC HB⟩⟩
     rw [if_neg rL] at H
     have yW : decide (np < (l0.length : Int)) = false := decide_eq_false rL
     clear rL
     obtain ⟨oS, EM⟩ : ∃ j_ : Int, (wrap64 ((l0.length : Int) - 1)) = j_ := ⟨_, rfl⟩
     replace H : (if 0 ≤ (oS) then (if (oS) < (l0.length : Int) then (aE.l1 k2 eN (rd l0 (oS)) 1) else (none)) else (none)) = some (r1, r2, r3) := by first | (rw [EM] at H; exact H) | (simp only [EM] at H ⊢; exact H)
     have arO : (IntKind.i64.wrap ((l0.length : Int) - 1)) = oS := (b6 _).trans EM
     obtain ⟨tr, H⟩ := dB H
     obtain ⟨tt, H⟩ := dB H
     have H' := aa.mk H
     clear H
     have Vl : 0 ≤ ((oS) : Int) := bO
     have Vm : (oS) < (l0.length : Int) := bO
     obtain ⟨awj, arP, ya⟩ := Kd.aZ eZ.out (oS) Vl Vm
     cases arP
     (try replace ya := (HB.out.cell (World.block_lt_of_cell? w _ ya)).trans ya)
     replace Vl := eq_true Vl
     replace Vm := eq_true Vm
     go_wp2
     go_loopg [8] k2 (fun kq v8 w' => ∃ (eO : Int) (qb : Int) (oa : Int), v8 = .int .i64 eO ∧ aa (aE.l1 kq eN (rd l0 (oS)) eO = some (r1, r2, r3)) ∧ aa (kq ≤ k2) ∧ aa (Kd.R Kd.bool 4 w' w.heap.size (fun _ => True) acX eN) ∧ aa (w'.heap[qa]? = some (.cells #[.int .i64 qb, .int .i64 oa] 69 (0, 0))) ∧ aa (Below w.heap.size w w'))
     case atStart => exact ⟨(1), (0), (0), eF, H', ⟨Nat.le_refl _⟩, ⟨b9 bJ.out⟩, ⟨cC iE.out⟩, ⟨bC HB⟩⟩
     case round =>
      clear H'
      try clear yW
      try clear tr
      try clear tt
      try clear ya
      try clear Vl
      try clear Vm
      obtain ⟨eO, qb, oa, rfl, HA, lp, bJ, iE, HB⟩ := hrel
      cases gk with
      | zero => exact absurd HA.out (by simp [aE.l1])
      | succ k3 =>
       have H := HA.out
       clear HA
       simp only [aE.l1] at H
       by_cases wJ : eO ≤ (rd l0 (oS))
       rotate_left
       · rw [if_neg wJ] at H
         have uq : decide (eO ≤ (rd l0 (oS))) = false := decide_eq_false wJ
         clear wJ
         simp only [Option.some.injEq, Prod.mk.injEq] at H
         obtain ⟨rfl, rfl, rfl⟩ := H
         have Vn : wr.cell? ⟨qa, 0, none⟩ = some (.int .i64 qb) := (aH iE.out 0).trans rfl
         have aol : wr.cell? ⟨qa, 1, none⟩ = some (.int .i64 oa) := (aH iE.out 1).trans rfl
         have Vo := af iE.out 0
         have aom := af iE.out 1
         go_wp2
         refine bodyPost_ret (ee rfl _ _ qa 69 #[.int .i64 0, .int .i64 0] (0, 0) _ rfl (by (with_reducible repeat (first | refine dI ?_ _ | refine bg ?_ | refine du ?_ _)); refine gj (cs := #[.int .i64 0, .int .i64 oa]) ?_ 1 _ rfl; (with_reducible repeat (first | refine dI ?_ _ | refine bg ?_ | refine du ?_ _)); refine gj (cs := #[.int .i64 qb, .int .i64 oa]) ?_ 0 _ rfl; (with_reducible repeat (first | refine dI ?_ _ | refine bg ?_ | refine du ?_ _)); exact iE.out) Tryz.underlying69 rfl (by kernel_rfl)) rfl ?_
         exact ⟨by first | rfl | (simp [cD, cF] <;> rfl) | (simp only [← EM]; first | rfl | (simp [cD, cF] <;> rfl)) | (simp [*, cD, cF] <;> rfl), bC HB⟩
       rw [if_pos wJ] at H
       have uq : decide (eO ≤ (rd l0 (oS))) = true := decide_eq_true wJ
       clear wJ
       have H' := aa.mk H
       clear H
       go_wp2
       go_loopg [9] k3 (fun kq v9 w' => ∃ (jM : Int) (lA : Int) (kO : Int), v9 = .int .i64 jM ∧ aa (aE.l2 kq eN (rd l0 (oS)) eO jM = some (r1, r2, r3)) ∧ aa (kq ≤ k3) ∧ aa (Kd.R Kd.bool 4 w' w.heap.size (fun _ => True) acX eN) ∧ aa (w'.heap[qa]? = some (.cells #[.int .i64 lA, .int .i64 kO] 69 (0, 0))) ∧ aa (Below w.heap.size w w'))
       case atStart => exact ⟨(eO), (qb), (oa), eF, H', ⟨Nat.le_refl _⟩, ⟨b9 bJ.out⟩, ⟨cC iE.out⟩, ⟨bC HB⟩⟩
       case round =>
        clear H'
        try clear uq
        obtain ⟨jM, lA, kO, rfl, HA, qx, bJ, iE, HB⟩ := hrel
        cases gk with
        | zero => exact absurd HA.out (by simp [aE.l2])
        | succ k4 =>
         have H := HA.out
         clear HA
         simp only [aE.l2] at H
         by_cases q9 : (wrap64 (eO + jM)) ≤ (rd l0 (oS))
         rotate_left
         · rw [if_neg q9] at H
           have ra : decide ((wrap64 (eO + jM)) ≤ (rd l0 (oS))) = false := decide_eq_false q9
           clear q9
           have H' := aa.mk H
           clear H
           go_wp2
           go_roundg k4
           case measure => have := wL.out; have := jo.out; have := lp.out; have := qx.out; omega
           case rel => exact ⟨(wrap64 (eO + 1)), (lA), (kO), eF, H', ⟨by have := wL.out; have := jo.out; have := lp.out; have := qx.out; omega⟩, ⟨b9 bJ.out⟩, ⟨cC iE.out⟩, ⟨bC HB⟩⟩
         rw [if_pos q9] at H
         have ra : decide ((wrap64 (eO + jM)) ≤ (rd l0 (oS))) = true := decide_eq_true q9
         clear q9
         obtain ⟨N1, H⟩ := dB H
         obtain ⟨rF, H⟩ := dB H
         obtain ⟨ai5, Qg⟩ : ∃ b_ : Bool, b_ = (e6 false eN eO) := ⟨_, rfl⟩
         replace H : (if ai5 = true then (aE.l2 k4 eN (rd l0 (oS)) eO (wrap64 (jM + 1))) else (if 0 ≤ jM then (if jM < (eN.length : Int) then (if e6 false eN jM = true then (aE.l2 k4 eN (rd l0 (oS)) eO (wrap64 (jM + 1))) else (if 0 ≤ (wrap64 (eO + jM)) then (if (wrap64 (eO + jM)) < (eN.length : Int) then (if e6 false eN (wrap64 (eO + jM)) = true then (some (eO, jM, true)) else (aE.l2 k4 eN (rd l0 (oS)) eO (wrap64 (jM + 1)))) else (none)) else (none))) else (none)) else (none))) = some (r1, r2, r3) := by rw [← Qg] at H; exact H
         have uJ := aa.mk Qg
         clear Qg
         by_cases tQ : ai5 = true
         · subst tQ
           rw [if_pos rfl] at H
           have H' := aa.mk H
           clear H
           obtain ⟨Uw, Ux, GZ⟩ := Kd.aN bJ.out
           subst GZ
           have tS : 0 ≤ (eO : Int) := bO
           have tT : eO < (eN.length : Int) := bO
           obtain ⟨wV, HI, lb⟩ := Kd.fc (Kd.ao bJ.out).2.2 eO tS tT
           (try rw [← uJ.out] at lb)
           cases HI
           replace tS := eq_true tS
           replace tT := eq_true tT
           go_wp2
           go_roundg k4
           case measure => have := wL.out; have := jo.out; have := lp.out; have := qx.out; omega
           case rel => exact ⟨(wrap64 (jM + 1)), (lA), (kO), eF, H', ⟨by have := wL.out; have := jo.out; have := lp.out; have := qx.out; omega⟩, ⟨b9 bJ.out⟩, ⟨cC iE.out⟩, ⟨bC HB⟩⟩
         replace tQ := Bool.eq_false_iff.mpr tQ
         subst tQ
         rw [if_neg (show ¬ (false = true) by decide)] at H
         obtain ⟨yQ, H⟩ := dB H
         obtain ⟨Bq, H⟩ := dB H
         obtain ⟨ai6, Qh⟩ : ∃ b_ : Bool, b_ = (e6 false eN jM) := ⟨_, rfl⟩
         replace H : (if ai6 = true then (aE.l2 k4 eN (rd l0 (oS)) eO (wrap64 (jM + 1))) else (if 0 ≤ (wrap64 (eO + jM)) then (if (wrap64 (eO + jM)) < (eN.length : Int) then (if e6 false eN (wrap64 (eO + jM)) = true then (some (eO, jM, true)) else (aE.l2 k4 eN (rd l0 (oS)) eO (wrap64 (jM + 1)))) else (none)) else (none))) = some (r1, r2, r3) := by rw [← Qh] at H; exact H
         have wW := aa.mk Qh
         clear Qh
         by_cases Js : ai6 = true
         · subst Js
           rw [if_pos rfl] at H
           have H' := aa.mk H
           clear H
           obtain ⟨Pg, Ph, L5⟩ := Kd.aN bJ.out
           subst L5
           have tS : 0 ≤ (eO : Int) := bO
           have tT : eO < (eN.length : Int) := bO
           obtain ⟨wV, HI, lb⟩ := Kd.fc (Kd.ao bJ.out).2.2 eO tS tT
           (try rw [← uJ.out] at lb)
           (try rw [← wW.out] at lb)
           cases HI
           replace tS := eq_true tS
           replace tT := eq_true tT
           have zD : 0 ≤ (jM : Int) := bO
           have zE : jM < (eN.length : Int) := bO
           obtain ⟨EN, Qi, nb⟩ := Kd.fc (Kd.ao bJ.out).2.2 jM zD zE
           (try rw [← uJ.out] at nb)
           (try rw [← wW.out] at nb)
           obtain rfl : wV = EN := (by injection Qi)
           replace zD := eq_true zD
           replace zE := eq_true zE
           go_wp2
           go_roundg k4
           case measure => have := wL.out; have := jo.out; have := lp.out; have := qx.out; omega
           case rel => exact ⟨(wrap64 (jM + 1)), (lA), (kO), eF, H', ⟨by have := wL.out; have := jo.out; have := lp.out; have := qx.out; omega⟩, ⟨b9 bJ.out⟩, ⟨cC iE.out⟩, ⟨bC HB⟩⟩
         replace Js := Bool.eq_false_iff.mpr Js
         subst Js
         rw [if_neg (show ¬ (false = true) by decide)] at H
         obtain ⟨zF, EO⟩ : ∃ j_ : Int, (wrap64 (eO + jM)) = j_ := ⟨_, rfl⟩
         replace H : (if 0 ≤ (zF) then (if (zF) < (eN.length : Int) then (if e6 false eN (zF) = true then (some (eO, jM, true)) else (aE.l2 k4 eN (rd l0 (oS)) eO (wrap64 (jM + 1)))) else (none)) else (none)) = some (r1, r2, r3) := by first | (rw [EO] at H; exact H) | (simp only [EO] at H ⊢; exact H)
         (try rw [EO] at ra)
         have arQ : (IntKind.i64.wrap (eO + jM)) = zF := (b6 _).trans EO
         obtain ⟨Yg, H⟩ := dB H
         obtain ⟨ai7, H⟩ := dB H
         obtain ⟨ai8, Qj⟩ : ∃ b_ : Bool, b_ = (e6 false eN (zF)) := ⟨_, rfl⟩
         replace H : (if ai8 = true then (some (eO, jM, true)) else (aE.l2 k4 eN (rd l0 (oS)) eO (wrap64 (jM + 1)))) = some (r1, r2, r3) := by rw [← Qj] at H; exact H
         have BG := aa.mk Qj
         clear Qj
         by_cases c38 : ai8 = true
         rotate_left
         · replace c38 := Bool.eq_false_iff.mpr c38
           subst c38
           rw [if_neg (show ¬ (false = true) by decide)] at H
           have H' := aa.mk H
           clear H
           obtain ⟨aAu, aAv, arR⟩ := Kd.aN bJ.out
           subst arR
           have tS : 0 ≤ (eO : Int) := bO
           have tT : eO < (eN.length : Int) := bO
           obtain ⟨wV, HI, lb⟩ := Kd.fc (Kd.ao bJ.out).2.2 eO tS tT
           (try rw [← uJ.out] at lb)
           (try rw [← wW.out] at lb)
           (try rw [← BG.out] at lb)
           cases HI
           replace tS := eq_true tS
           replace tT := eq_true tT
           have zD : 0 ≤ (jM : Int) := bO
           have zE : jM < (eN.length : Int) := bO
           obtain ⟨EN, Qi, nb⟩ := Kd.fc (Kd.ao bJ.out).2.2 jM zD zE
           (try rw [← uJ.out] at nb)
           (try rw [← wW.out] at nb)
           (try rw [← BG.out] at nb)
           obtain rfl : wV = EN := (by injection Qi)
           replace zD := eq_true zD
           replace zE := eq_true zE
           have HJ : 0 ≤ ((zF) : Int) := bO
           have HM : (zF) < (eN.length : Int) := bO
           obtain ⟨Qk, ac4, qS⟩ := Kd.fc (Kd.ao bJ.out).2.2 (zF) HJ HM
           (try rw [← uJ.out] at qS)
           (try rw [← wW.out] at qS)
           (try rw [← BG.out] at qS)
           obtain rfl : wV = Qk := (by injection ac4)
           replace HJ := eq_true HJ
           replace HM := eq_true HM
           go_wp2
           go_roundg k4
           case measure => have := wL.out; have := jo.out; have := lp.out; have := qx.out; omega
           case rel => exact ⟨(wrap64 (jM + 1)), (lA), (kO), eF, H', ⟨by have := wL.out; have := jo.out; have := lp.out; have := qx.out; omega⟩, ⟨b9 bJ.out⟩, ⟨cC iE.out⟩, ⟨bC HB⟩⟩
         subst c38
         rw [if_pos rfl] at H
         simp only [Option.some.injEq, Prod.mk.injEq] at H
         obtain ⟨rfl, rfl, rfl⟩ := H
         obtain ⟨ai9, ai_, ac5⟩ := Kd.aN bJ.out
         subst ac5
         have tS : 0 ≤ (eO : Int) := bO
         have tT : eO < (eN.length : Int) := bO
         obtain ⟨wV, HI, lb⟩ := Kd.fc (Kd.ao bJ.out).2.2 eO tS tT
         (try rw [← uJ.out] at lb)
         (try rw [← wW.out] at lb)
         (try rw [← BG.out] at lb)
         cases HI
         replace tS := eq_true tS
         replace tT := eq_true tT
         have zD : 0 ≤ (jM : Int) := bO
         have zE : jM < (eN.length : Int) := bO
         obtain ⟨EN, Qi, nb⟩ := Kd.fc (Kd.ao bJ.out).2.2 jM zD zE
         (try rw [← uJ.out] at nb)
         (try rw [← wW.out] at nb)
         (try rw [← BG.out] at nb)
         obtain rfl : wV = EN := (by injection Qi)
         replace zD := eq_true zD
         replace zE := eq_true zE
         have HJ : 0 ≤ ((zF) : Int) := bO
         have HM : (zF) < (eN.length : Int) := bO
         obtain ⟨Qk, ac4, qS⟩ := Kd.fc (Kd.ao bJ.out).2.2 (zF) HJ HM
         (try rw [← uJ.out] at qS)
         (try rw [← wW.out] at qS)
         (try rw [← BG.out] at qS)
         obtain rfl : wV = Qk := (by injection ac4)
         replace HJ := eq_true HJ
         replace HM := eq_true HM
         have Vp : wr.cell? ⟨qa, 0, none⟩ = some (.int .i64 lA) := (aH iE.out 0).trans rfl
         have aon : wr.cell? ⟨qa, 1, none⟩ = some (.int .i64 kO) := (aH iE.out 1).trans rfl
         have Vq := af iE.out 0
         have aoo := af iE.out 1
         go_wp2
         refine bodyPost_ret (ee rfl _ _ qa 69 #[.int .i64 eO, .int .i64 jM] (0, 0) _ rfl (by (with_reducible repeat (first | refine dI ?_ _ | refine bg ?_ | refine du ?_ _)); refine gj (cs := #[.int .i64 eO, .int .i64 kO]) ?_ 1 _ rfl; (with_reducible repeat (first | refine dI ?_ _ | refine bg ?_ | refine du ?_ _)); refine gj (cs := #[.int .i64 lA, .int .i64 kO]) ?_ 0 _ rfl; (with_reducible repeat (first | refine dI ?_ _ | refine bg ?_ | refine du ?_ _)); exact iE.out) Tryz.underlying69 rfl (by kernel_rfl)) rfl ?_
         exact ⟨by first | rfl | (simp [cD, cF] <;> rfl) | (simp only [← EM, ← EO]; first | rfl | (simp [cD, cF] <;> rfl)) | (simp [*, cD, cF] <;> rfl), bC HB⟩
def cg.l0 : Nat → List Int → List Int → Int → Int → Option (Bool)
 | 0, _, _, _, _ => none
 | k + 1, x0, x1, Gq, rn => if rn < Gq then (if 0 ≤ rn then (if rn < (x0.length : Int) then (if rn < (x1.length : Int) then (if (rd x0 rn) = (rd x1 rn) then (cg.l0 k x0 x1 Gq (wrap64 (rn + 1))) else (some false)) else (none)) else (none)) else (none)) else (some true)
def cg.f (k : Nat) (l0 : List Int) (l1 : List Int) : Option (Bool) := if (l0.length : Int) = (l1.length : Int) then (cg.l0 k l0 l1 (l0.length : Int) 0) else (some false)
theorem cg.calls (k : Nat) (A0 : Option Addr) (c0 : Nat) (l0 : List Int) (A1 : Option Addr) (c1 : Nat) (l1 : List Int) (r : Bool) (w : World) (fH : Kd.C (Kd.int .i64) w A0 l0.length l0) (gL : l0.length ≤ c0) (uh : Kd.C (Kd.int .i64) w A1 l1.length l1) (Es : l1.length ≤ c1) (h : cg.f k l0 l1 = some r) :
 Calls Tryz.prog 78 #[.slice A0 l0.length c0, .slice A1 l1.length c1] w fun e w' => e = .returned (.bool r) ∧ av w w' := by
 have eZ := aa.mk fH
 have jN := aa.mk gL
 clear fH gL
 have Et := aa.mk uh
 have HC1 := aa.mk Es
 clear uh Es
 have H := h
 clear h
 unfold cg.f at H
 by_cases c3 : (l0.length : Int) = (l1.length : Int)
 rotate_left
 · rw [if_neg c3] at H
   have jD : ((l0.length : Int) == (l1.length : Int)) = false := beq_eq_false_iff_ne.mpr c3
   have ow : ((l0.length : Int) != (l1.length : Int)) = true := bne_iff_ne.mpr c3
   have uw : (l0.length == l1.length) = false := by first | simpa using c3 | (simp at c3 ⊢; omega)
   obtain rfl := Option.some.inj H
   go_enter Tryz.func78, Tryz.ntmps78
   go_wp2
   repeat (go_quiet (fail); try go_wp2)
   go_ret
   exact ⟨by first | rfl | (simp; done) | (simp [*]; done), by repeat (first | exact av.refl _ | apply av.step)⟩
 rw [if_pos c3] at H
 have jD : ((l0.length : Int) == (l1.length : Int)) = true := beq_iff_eq.mpr c3
 have ow : ((l0.length : Int) != (l1.length : Int)) = false := bne_eq_false_iff_eq.mpr c3
 have uw : (l0.length == l1.length) = true := by first | simpa using c3 | (simp at c3 ⊢; omega)
 clear c3
 have H' := aa.mk H
 clear H
 go_enter Tryz.func78, Tryz.ntmps78
 go_wp2
 repeat (go_quiet (fail); try go_wp2)
 go_loopg [13] k (fun kq v13 w' => ∃ (fi : Int), v13 = .int .i64 fi ∧ aa (cg.l0 kq l0 l1 (l0.length : Int) fi = some r) ∧ aa (kq ≤ k) ∧ av w w')
 case atStart => exact ⟨(0), eF, H', ⟨Nat.le_refl _⟩, by repeat (first | exact av.refl _ | apply av.step)⟩
 case round =>
  clear H'
  try clear c1
  try clear jD
  try clear ow
  try clear uw
  obtain ⟨fi, rfl, HA, fu, ⟨m1, rfl⟩⟩ := hrel
  cases gk with
  | zero => exact absurd HA.out (by simp [cg.l0])
  | succ k1 =>
   have H := HA.out
   clear HA
   simp only [cg.l0] at H
   by_cases c4 : fi < (l0.length : Int)
   rotate_left
   · rw [if_neg c4] at H
     have kI : decide (fi < (l0.length : Int)) = false := decide_eq_false c4
     clear c4
     obtain rfl := Option.some.inj H
     go_wp2
     repeat (go_quiet (fail); try go_wp2)
     go_ret
     exact ⟨by first | rfl | (simp; done) | (simp [*]; done), by repeat (first | exact av.refl _ | apply av.step)⟩
   rw [if_pos c4] at H
   have kI : decide (fi < (l0.length : Int)) = true := decide_eq_true c4
   clear c4
   obtain ⟨qJ, H⟩ := dB H
   obtain ⟨pH, H⟩ := dB H
   obtain ⟨oO, H⟩ := dB H
   by_cases c8 : (rd l0 fi) = (rd l1 fi)
   rotate_left
   · rw [if_neg c8] at H
     have rD : ((rd l0 fi) == (rd l1 fi)) = false := beq_eq_false_iff_ne.mpr c8
     have Pt : ((rd l0 fi) != (rd l1 fi)) = true := bne_iff_ne.mpr c8
     obtain rfl := Option.some.inj H
     have HN : 0 ≤ (fi : Int) := bO
     have HP : fi < (l0.length : Int) := bO
     obtain ⟨aja, ac6, Vr⟩ := Kd.aZ eZ.out fi HN HP
     cases ac6
     replace HN := eq_true HN
     replace HP := eq_true HP
     have HQ : 0 ≤ (fi : Int) := bO
     have HS : fi < (l1.length : Int) := bO
     obtain ⟨ajb, ac7, Vs⟩ := Kd.aZ Et.out fi HQ HS
     cases ac7
     replace HQ := eq_true HQ
     replace HS := eq_true HS
     go_wp2
     repeat (go_quiet (fail); try go_wp2)
     go_ret
     exact ⟨by first | rfl | (simp; done) | (simp [*]; done), by repeat (first | exact av.refl _ | apply av.step)⟩
   rw [if_pos c8] at H
   have rD : ((rd l0 fi) == (rd l1 fi)) = true := beq_iff_eq.mpr c8
   have Pt : ((rd l0 fi) != (rd l1 fi)) = false := bne_eq_false_iff_eq.mpr c8
   clear c8
   have H' := aa.mk H
   clear H
   have HN : 0 ≤ (fi : Int) := bO
   have HP : fi < (l0.length : Int) := bO
   obtain ⟨aja, ac6, Vr⟩ := Kd.aZ eZ.out fi HN HP
   cases ac6
   replace HN := eq_true HN
   replace HP := eq_true HP
   have HQ : 0 ≤ (fi : Int) := bO
   have HS : fi < (l1.length : Int) := bO
   obtain ⟨ajb, ac7, Vs⟩ := Kd.aZ Et.out fi HQ HS
   cases ac7
   replace HQ := eq_true HQ
   replace HS := eq_true HS
   go_wp2
   repeat (go_quiet (fail); try go_wp2)
   go_roundg k1
   case measure => have := fu.out; omega
   case rel => exact ⟨(wrap64 (fi + 1)), eF, H', ⟨by have := fu.out; omega⟩, by repeat (first | exact av.refl _ | apply av.step)⟩
end Go.Proofs.YtjodlkbhaofkkaaGreat.PA
end
