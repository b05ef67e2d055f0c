-- Bundled by shake.py from this session's printed and written texts; Lean checks it.
import Derived.Lib.SliceRun
import Derived.Lib.Walk
import Derived.Shelf.SlicesQ.Reverse
import Derived.Test.YtjodlkbhaofkkaaGreatZFnTreex8
section
namespace Go.Proofs.YtjodlkbhaofkkaaGreat.PA
open Go.RowKit Go.Proofs.YtjodlkbhaofkkaaGreatW.PrintWords Go.Proofs.YtjodlkbhaofkkaaGreatW.PrintLast Go.Proofs.YtjodlkbhaofkkaaGreatW.PrintMore
attribute [local go_sem] ja jb j5 j6 hY hZ jc jd
set_option linter.unusedVariables false
set_option linter.unusedSimpArgs false
def dp.l0 : Nat → Int → Int → List Int → Int → Int → List Int → Option (List Int × Int × Int)
 | 0, _, _, _, _, _, _ => none
 | k + 1, x5, x6, oC, uF, uG, qW => if x6 < x5 then ((bS.f oC uF uG (qW.length : Int)).bind fun uT => (if 0 ≤ uT.1 then (if uT.1 < (qW.length : Int) then ((bL.f k qW (rd qW uT.1)).bind fun zS => (if zS.2 = true then ((dj.f k zS.1).bind fun aen => (if aen < 16 then (dp.l0 k x5 (wrap64 (x6 + 1)) oC uT.2.1 uT.2.2 zS.1) else (dp.l0 k x5 (wrap64 (x6 + 1)) oC uT.2.1 uT.2.2 qW))) else (dp.l0 k x5 (wrap64 (x6 + 1)) oC uT.2.1 uT.2.2 qW))) else (none)) else (none))) else ((gq.f oC uF uG 12).bind fun E8 => (if E8.1 = true then ((dH.f k oC E8.2.1 E8.2.2).bind fun RD => (some (RD.1, RD.2.1, RD.2.2))) else (some (qW, E8.2.1, E8.2.2))))
def dp.f (k : Nat) (cd : List Int) (eD : Int) (eJ : Int) : Option (List Int × Int × Int) := (bj.f k (([1] : List Int))).bind fun RE => ((bS.f cd eD eJ 7).bind fun zT => (dp.l0 k zT.1 0 cd zT.2.1 zT.2.2 RE.1))
theorem E9 {W w3 ws : World} {g : Nat} {v : Value} (hb : Below W.heap.size W w3) (hg : W.heap.size ≤ g) (hw : ws = w3.setCell ⟨g, 0, none⟩ v) : Below W.heap.size W ws := by rw [hw]; exact hb.setCell hg _
structure iv (w0 w : World) (g G2 G3 : Nat) (s0 : List Int) (i h : Int) (u : Value) (x : List Int) (W : World) : Prop where
 x : Kd.Q (Kd.int .i64) 3 W w.heap.size (fun _ => True) u x
 b2 : W.heap[G2]? = some (.cells #[.slice none 0 0] 26 (0, 0))
 b3 : W.heap[G3]? = some (.cells #[u] 26 (0, 0))
 i : ae w0 W g s0 i h
 k : aq w W g none
 b : Below w0.heap.size w0 W
def BQ (w0 w : World) (g G2 G3 gb : Nat) : Prop := G2 < gb ∧ G3 < gb ∧ g < gb ∧ w.heap.size ≤ gb ∧ w0.heap.size ≤ gb
section
variable {w0 w W W1 : World} {g G2 G3 gb : Nat} {s0 : List Int} {i h i1 h1 : Int} {u v : Value} {x t : List Int}
theorem iv.fresh (m : iv w0 w g G2 G3 s0 i h u x W) : BQ w0 w g G2 G3 W.heap.size := ⟨mL m.b2, mL m.b3, ae.lt m.i, m.k.1, m.b.size⟩
theorem iv.drew (m : iv w0 w g G2 G3 s0 i h u x W) : iv w0 w g G2 G3 s0 i h u x W.drew := ⟨Kd.dV m.x, bg m.b2, bg m.b3, ae.drew m.i, sK m.k, bD m.b⟩
theorem iv.below (m : iv w0 w g G2 G3 s0 i h u x W) (hb : Below W.heap.size W W1) : iv w0 w g G2 G3 s0 i h u x W1 := ⟨Kd.bt m.x hb, bW m.b2 hb, bW m.b3 hb, ae.below m.i hb, m.k.trans (aq.dK hb g none) (.inl rfl), tF m.b m.b.size hb⟩
theorem iv.alloc (m : iv w0 w g G2 G3 s0 i h u x W) (o : Obj) : iv w0 w g G2 G3 s0 i h u x (W.alloc o) := m.below (fJ (Below.refl _ _) o)
theorem iv.keep (m : iv w0 w g G2 G3 s0 i h u x W) (n2 : G2 ≠ g) (n3 : G3 ≠ g) (hi : ae w0 W1 g s0 i1 h1) (hb : Below w0.heap.size w0 W1) (hk : aq W W1 g none) : iv w0 w g G2 G3 s0 i1 h1 u x W1 :=
 ⟨Kd.fe (Kd.Ci (ae.CE m.i m.x (by decide)) hk (fun _ h => h.2)) (fun _ h => h.1), aq.pS hk m.b2 n2 (by simp), aq.pS hk m.b3 n3 (by simp), hi, m.k.trans hk (.inl rfl), hb⟩
theorem iv.cells {ad : Addr} {co : Nat} (m : iv w0 w g G2 G3 s0 i h (.slice (some ad) x.length co) x W) {q : Int} (p0 : 0 ≤ q) (p1 : q < x.length) : W.cell? ⟨G3, 0, none⟩ = some (.slice (some ad) x.length co) ∧ W.cell? (ad.add q.toNat) = some (.int .i64 (rd x q)) := by
 obtain ⟨ad', e, hx⟩ := Kd.aZ (Kd.eU m.x).2.2 q p0 p1
 injection e with e
 subst e
 exact ⟨(aH m.b3 0).trans rfl, hx⟩
structure pf (w0 w : World) (g G2 G3 gb : Nat) (s0 : List Int) (i h : Int) (u v : Value) (x t : List Int) (W : World) : Prop where
 m : iv w0 w g G2 G3 s0 i h u x W
 t : Kd.Q (Kd.int .i64) 3 W w.heap.size (fun _ => True) v t
 z : W.heap[gb]? = some (.cells #[v] 26 (0, 0))
theorem s9 (f : BQ w0 w g G2 G3 gb) (hz : W.heap[gb]? = some (.cells #[.slice none 0 0] 26 (0, 0))) (ht : Kd.R (Kd.int .i64) 3 W w.heap.size (fun _ => True) v t) (m : iv w0 w g G2 G3 s0 i h u x W) : pf w0 w g G2 G3 gb s0 i h u v x t (W.setCell ⟨gb, 0, none⟩ v) := by
 obtain ⟨f1, f2, f3, f4, f5⟩ := f
 refine ⟨⟨Kd.fe (Kd.oY (p := ⟨gb, 0, none⟩) (Kd.bz m.x hz (by decide)) (fun _ hk => hk.2) v) (fun _ _ => trivial), sF m.b2 (p := ⟨gb, 0, none⟩) (by show G2 ≠ gb; omega) v, sF m.b3 (p := ⟨gb, 0, none⟩) (by show G3 ≠ gb; omega) v, ae.far m.i (p := ⟨gb, 0, none⟩) (by show g ≠ gb; omega) v, yA m.k (p := ⟨gb, 0, none⟩) f4 v, m.b.setCell f5 v⟩, Kd.px (Kd.af5 ht hz (by decide) 0 v), gj hz 0 v rfl⟩
theorem MD (ht : Kd.R (Kd.int .i64) 3 W w.heap.size (fun _ => True) v t) (m : iv w0 w g G2 G3 s0 i h u x W) : pf w0 w g G2 G3 W.heap.size s0 i h u v x t (W.alloc (.cells #[v] 26)) := ⟨m.alloc _, Kd.px (Kd.bQ ht _), ue _ _⟩
theorem pf.below (m : pf w0 w g G2 G3 gb s0 i h u v x t W) (hb : Below W.heap.size W W1) : pf w0 w g G2 G3 gb s0 i h u v x t W1 := ⟨m.m.below hb, Kd.bt m.t hb, bW m.z hb⟩
theorem pf.take (m : pf w0 w g G2 G3 gb s0 i h u v x t W) (n2 : G2 ≠ G3) (n0 : g ≠ G3) (hw : w.heap.size ≤ G3) (hw0 : w0.heap.size ≤ G3) : iv w0 w g G2 G3 s0 i h v t (W.setCell ⟨G3, 0, none⟩ v) :=
 ⟨Kd.fe (Kd.oY (p := ⟨G3, 0, none⟩) (Kd.bz m.t m.m.b3 (by decide)) (fun _ hk => hk.2) v) (fun _ _ => trivial), sF m.m.b2 (p := ⟨G3, 0, none⟩) n2 v, gj m.m.b3 0 v rfl, ae.far m.m.i (p := ⟨G3, 0, none⟩) n0 v, yA m.m.k (p := ⟨G3, 0, none⟩) hw v, m.m.b.setCell hw0 v⟩
end
set_option maxHeartbeats 8000000 in
set_option maxRecDepth 100000 in
theorem dp.calls (k : Nat) (g : Nat) (cd : List Int) (eD : Int) (eJ : Int) (r1 : List Int) (r2 : Int) (r3 : Int) (w0 w : World) (hI : ae w0 w g cd eD eJ) (hB : Below w0.heap.size w0 w) (h : dp.f k cd eD eJ = some (r1, r2, r3)) :
 Calls Tryz.prog 51 #[.pointer (some ⟨g, 0, none⟩)] w fun e w' => ∃ jf : Value, e = .returned (.agg #[jf]) ∧ Kd.Q (Kd.int .i64) 3 w' w.heap.size (fun _ => True) jf r1 ∧ ae w0 w' g cd r2 r3 ∧ Below w0.heap.size w0 w' ∧ aq w w' g none := by
 have kJ := Tryz.underlying26
 have bX := aa.mk hI
 have HK := aa.mk (aq.refl w g none)
 have HL := aa.mk hB.size
 clear hI
 have wR := aa.mk hB.size
 have HB := aa.mk hB
 clear hB
 have H := h
 clear h
 unfold dp.f at H
 obtain ⟨aeo, RF⟩ : ∃ y_ : List Int, y_ = (([1] : List Int)) := ⟨_, rfl⟩
 replace H : ((bj.f k aeo).bind fun RE => ((bS.f cd eD eJ 7).bind fun zT => (dp.l0 k zT.1 0 cd zT.2.1 zT.2.2 RE.1))) = some (r1, r2, r3) := by subst RF; exact H
 have ZN := aa.mk RF
 clear RF
 obtain ⟨⟨Iv, as9⟩, A2, H⟩ := eA H
 (try dsimp only at H)
 obtain ⟨⟨RG, alx, aly⟩, A3, H⟩ := eA H
 (try dsimp only at H)
 have H' := aa.mk H
 clear H
 go_enter Tryz.func51, Tryz.ntmps51
 go_wp2_with (first | ((with_reducible refine gate_dst (N := 2) rfl ?_); refine iP 2 #[.slice none 0 0] 26 ?_; intro nM hg w4 hbox hb; replace HB := aa.mk (b7 (gF HB (ae.ge bX.out)) hb); have jI := aa.mk (hbox); have axo := aa.mk ((by rw [hg]; exact (bs (w := w) (g := g) (row := none) (e9 HK)) : w.heap.size ≤ nM)); have axp := aa.mk ((Nat.le_trans wR.out (by rw [hg]; exact (bs (w := w) (g := g) (row := none) (e9 HK)) : w.heap.size ≤ nM) : w0.heap.size ≤ nM)); replace HK := aa.mk (aq.trans (e9 HK) (aq.dK hb g none) (.inl rfl)); have Kw := aa.mk ((by rw [hg]; exact Nat.ne_of_lt (ae.lt (show ae w0 _ g cd eD eJ from ae.q_ bX)) : g ≠ nM)); have pg := aa.mk ((by rw [hg]; exact Nat.ne_of_gt (ae.lt (show ae w0 _ g cd eD eJ from ae.q_ bX)) : nM ≠ g)); replace bX := aa.mk (ae.below (ae.q_ bX) hb); clear hb hbox hg) | ((with_reducible refine gate_dst (N := 10) rfl ?_); refine Kd.iK (Kd.int .i64) _ 3 ?hg (N := 10) ?hd (xs := ([1] : List Int)) (inner := [.int .i64 1]) (ok := fun _ => True) (okp := fun _ => True) ?hr ?hp (fun _ hk => hk) trivial (Below.refl _ _) (Nat.le_refl _) (by simp) ?_; (case hd => rfl); (case hg => rfl); (case hr => first | (go_simp; done) | (go_simp; rfl)); (case hp => exact (bE.one (show Kd.M (Kd.int .i64) _ _ _ 1 [.int .i64 1] from rfl) (bE.none _ _))); intro aBv w5 pX hb hg_ hnew_; clear hg_ hnew_; (first | rw [← ZN.out] at pX | (simp only [Int.reduceToNat] at pX; rw [← ZN.out] at pX)); have tA := aa.mk (Kd.aW pX (bs (w := w) (g := g) (row := none) (e9 HK))); replace jI := cn jI hb; replace HK := aa.mk (aq.trans (e9 HK) (aq.dK hb g none) (.inl rfl)); replace HB := aa.mk (b7 (gF HB (ae.ge bX.out)) hb); replace bX := aa.mk (ae.below (ae.q_ bX) hb); clear hb pX; obtain ⟨AH, sP, Bo⟩ := Kd.aN tA.out; subst Bo) | ((with_reducible refine gate_callee (f := 58) rfl ?_); refine dU (some 11) Tryz.func58 #[.slice AH aeo.length sP] ?_; (with_reducible refine (bj.calls k _ _ aeo Iv as9 _ ?ah ?aj A2.out).mono ?_); (case ah => exact kx ((Kd.ao tA.out).2.2)); (case aj => exact (Kd.ao tA.out).2.1); rintro e w8 ⟨aBw, rfl, b0, hb⟩; refine ⟨_, rfl, ?_⟩; have BR := aa.mk (Kd.aW (Kd.eV b0 (Kd.gy (b9 tA.out))) (bs (w := w) (g := g) (row := none) (e9 HK))); replace tA := aa.mk (Kd.dZ (b9 tA.out) (Kd.cV b0) hb); replace jI := cn jI hb; replace HK := aa.mk (aq.trans (e9 HK) (aq.dK hb g none) (.inl rfl)); replace HB := aa.mk (b7 (gF HB (ae.ge bX.out)) hb); replace bX := aa.mk (ae.below (ae.q_ bX) hb); (try clear hb); (try clear b0); obtain ⟨pI, o3, NR⟩ := Kd.aN BR.out; subst NR) | ((with_reducible refine gate_dst (N := 3) rfl ?_); refine vJ ?hg (N :=  3) ?hd (cs := #[.slice none 0 0]) (t := 26) ?hr ?_; (case hd => rfl); (case hg => rfl); (case hr => first | (go_simp; done) | (go_simp; rfl)); intro nt hgq wq hboxq hbq; have BXg_ := aa.mk hgq; have BXk_ := aa.mk hboxq; have BXb_ := aa.mk hbq; clear hgq hboxq hbq; have hczq_ : wq.cell? ⟨nt, 0, none⟩ = some (.slice none 0 0) := (aH BXk_.out 0).trans rfl; have hfzq_ := af BXk_.out 0) | (refine fw (t := 26) (p := 3) (v := ?vo_) (w1 := (wq.setCell ⟨nt, 0, none⟩ (.slice pI Iv.length o3))) ?hg ?ho ?hn ?hr ?_; (case ho => rfl); (case hg => rfl); (case hn => rfl); (case hr => first | (go_simp; done) | (go_simp; rfl)); intro Ju hw_; have hg := BXg_.out; have hbox : Ju.heap[nt]? = some (.cells #[.slice pI Iv.length o3] 26 (0, 0)) := (by rw [hw_]; exact gj BXk_.out 0 (.slice pI Iv.length o3) rfl); have hb := E9 BXb_.out (Nat.le_of_eq hg.symm) hw_; clear hw_ hczq_ hfzq_ BXg_ BXk_ BXb_; replace tA := aa.mk (Kd.aY (b9 tA.out) hb); replace BR := aa.mk (Kd.aY (b9 BR.out) hb); replace HB := aa.mk (b7 (gF HB (ae.ge bX.out)) hb); have ph := aa.mk (hbox); have alz := aa.mk ((by rw [hg]; exact (bs (w := w) (g := g) (row := none) (e9 HK)) : w.heap.size ≤ nt)); have alA := aa.mk ((Nat.le_trans wR.out (by rw [hg]; exact (bs (w := w) (g := g) (row := none) (e9 HK)) : w.heap.size ≤ nt) : w0.heap.size ≤ nt)); replace HK := aa.mk (aq.trans (e9 HK) (aq.dK hb g none) (.inl rfl)); have wk := mw hg jI; have BS := my hg jI; replace jI := cn jI hb; have Kx := aa.mk ((by rw [hg]; exact Nat.ne_of_lt (ae.lt (show ae w0 _ g cd eD eJ from ae.q_ bX)) : g ≠ nt)); have qX := aa.mk ((by rw [hg]; exact Nat.ne_of_gt (ae.lt (show ae w0 _ g cd eD eJ from ae.q_ bX)) : nt ≠ g)); replace bX := aa.mk (ae.below (ae.q_ bX) hb); clear hb hbox hg) | ((with_reducible refine gate_callee (f := 69) rfl ?_); refine dU (some 15) Tryz.func69 #[.pointer (some ⟨g, 0, none⟩), .int .i64 7] ?_; (with_reducible refine (bS.calls g cd eD eJ 7 RG alx aly w0 _ ?ah ?aj A3.out).mono ?_); (case ah => exact ae.q_ bX); (case aj => exact gF HB (ae.ge bX.out)); rintro e Bn ⟨rfl, hi, hb, hk⟩; refine ⟨_, rfl, ?_⟩; replace jI := aa.mk (aq.pS hk (g' := nM) (o := .cells #[.slice none 0 0] 26 (0, 0)) (cC jI.out) pg.out (by simp)); replace tA := aa.mk (Kd.bB (Kd.lI (ae.apart (show ae w0 _ g cd eD eJ from ae.q_ bX) (b9 tA.out) (by decide)) hk (fun _ h => h.2)) (fun _ h => h.1)); replace BR := aa.mk (Kd.bB (Kd.lI (ae.apart (show ae w0 _ g cd eD eJ from ae.q_ bX) (b9 BR.out) (by decide)) hk (fun _ h => h.2)) (fun _ h => h.1)); replace ph := aa.mk (aq.pS hk (g' := nt) (o := .cells #[.slice pI Iv.length o3] 26 (0, 0)) (cC ph.out) qX.out (by simp)); replace HK := aa.mk (aq.trans (e9 HK) hk (.inl rfl)); replace HB := aa.mk (hb); replace bX := aa.mk (hi); (try clear hb); (try clear hk); (try clear hi)))
 go_loopg [6] k (fun kq v6 w' => ∃ (bY : Int) (ka : Int) (kb : Int) (ie : List Int) (qY : Value), v6 = .int .i64 bY ∧ aa (dp.l0 kq RG bY cd ka kb ie = some (r1, r2, r3)) ∧ aa (kq ≤ k) ∧ aa (Kd.Q (Kd.int .i64) 3 w' w.heap.size (fun _ => True) qY ie) ∧ aa (w'.heap[nM]? = some (.cells #[(.slice none 0 0)] 26 (0, 0))) ∧ aa (w'.heap[nt]? = some (.cells #[qY] 26 (0, 0))) ∧ aa (ae w0 w' g cd ka kb) ∧ aa (aq w w' g none) ∧ aa (Below w0.heap.size w0 w'))
 case atStart => exact ⟨(0), (alx), (aly), (Iv), (.slice pI Iv.length o3), eF, H', ⟨Nat.le_refl _⟩, ⟨Kd.px (by (with_reducible repeat (first | apply Kd.bQ | apply Kd.bT | apply Kd.bR)); exact Kd.bB BR.out (fun _ hk => trivial))⟩, ⟨cC jI.out⟩, ⟨cC ph.out⟩, ⟨ae.q_ bX⟩, ⟨e9 HK⟩, ⟨gF HB (ae.ge bX.out)⟩⟩
 case round =>
  clear H'
  obtain ⟨bY, ka, kb, ie, qY, rfl, HA, fu, iX, jI, ph, bX, HK, HB⟩ := hrel
  cases gk with
  | zero => exact absurd HA.out (by simp [dp.l0])
  | succ k1 =>
   have H := HA.out
   clear HA
   simp only [dp.l0] at H
   by_cases pK : bY < RG
   rotate_left
   · rw [if_neg pK] at H
     have o6 : decide (bY < RG) = false := decide_eq_false pK
     clear pK
     obtain ⟨⟨as_, Wj, Wk⟩, A52, H⟩ := eA H
     (try dsimp only at H)
     by_cases Vu : as_ = true
     rotate_left
     · replace Vu := Bool.eq_false_iff.mpr Vu
       subst Vu
       rw [if_neg (show ¬ (false = true) by decide)] at H
       simp only [Option.some.injEq, Prod.mk.injEq] at H
       obtain ⟨rfl, rfl, rfl⟩ := H
       go_wp2_with (first | ((with_reducible refine gate_callee (f := 50) rfl ?_); refine dU (some 43) Tryz.func50 #[.pointer (some ⟨g, 0, none⟩), .int .i64 12] ?_; (with_reducible refine (gq.calls g cd ka kb 12 false Wj Wk w0 _ ?ah ?aj A52.out).mono ?_); (case ah => exact ae.q_ bX); (case aj => exact gF HB (ae.ge bX.out)); rintro e Mc ⟨rfl, hi, hb, hk⟩; refine ⟨_, rfl, ?_⟩; replace iX := aa.mk (Kd.fe (Kd.Ci (ae.CE (show ae w0 _ g cd ka kb from ae.q_ bX) (fS iX.out) (by decide)) hk (fun _ h => h.2)) (fun _ h => h.1)); replace jI := aa.mk (aq.pS hk (g' := nM) (o := .cells #[.slice none 0 0] 26 (0, 0)) (cC jI.out) pg.out (by simp)); replace ph := aa.mk (aq.pS hk (g' := nt) (o := .cells #[qY] 26 (0, 0)) (cC ph.out) qX.out (by simp)); replace HK := aa.mk (aq.trans (e9 HK) hk (.inl rfl)); replace HB := aa.mk (hb); replace bX := aa.mk (hi); (try clear hb); (try clear hk); (try clear hi); have axq := BS.out; have axr := wk.out; have ail := qX.out; have aim := Kx.out; have U0 : Mc.cell? ⟨nt, 0, none⟩ = some (qY) := (aH ph.out 0).trans rfl; have U1 := af ph.out 0; obtain ⟨alB, alC, ata, _⟩ := Kd.la iX.out; subst ata; have axs := pg.out; have axt := Kw.out; have ao4 := fG jI; have ao5 := af jI.out 0))
       refine bodyPost_ret (results_cell_row rfl _ _ nM 26 #[.slice alB ie.length alC] (0, 0) _ rfl (mz jI) Tryz.underlying26 rfl (by kernel_rfl)) rfl ?_
       exact ⟨_, ig, by (with_reducible repeat (first | apply Kd.gf | apply Kd.gh | apply Kd.dV)); exact Kd.fe (Kd.oY (p := ⟨nM, 0, none⟩) (Kd.bz iX.out jI.out (by decide)) (fun _ hk => hk.2) (.slice alB ie.length alC)) (fun _ hk => trivial), ae.q_ bX, gF HB (ae.ge bX.out), e9 HK⟩
     subst Vu
     rw [if_pos rfl] at H
     obtain ⟨⟨aep, atb, atc⟩, A54, H⟩ := eA H
     (try dsimp only at H)
     simp only [Option.some.injEq, Prod.mk.injEq] at H
     obtain ⟨rfl, rfl, rfl⟩ := H
     go_wp2_with (first | ((with_reducible refine gate_callee (f := 50) rfl ?_); refine dU (some 43) Tryz.func50 #[.pointer (some ⟨g, 0, none⟩), .int .i64 12] ?_; (with_reducible refine (gq.calls g cd ka kb 12 true Wj Wk w0 _ ?ah ?aj A52.out).mono ?_); (case ah => exact ae.q_ bX); (case aj => exact gF HB (ae.ge bX.out)); rintro e w55 ⟨rfl, hi, hb, hk⟩; refine ⟨_, rfl, ?_⟩; replace iX := aa.mk (Kd.fe (Kd.Ci (ae.CE (show ae w0 _ g cd ka kb from ae.q_ bX) (fS iX.out) (by decide)) hk (fun _ h => h.2)) (fun _ h => h.1)); replace jI := aa.mk (aq.pS hk (g' := nM) (o := .cells #[.slice none 0 0] 26 (0, 0)) (cC jI.out) pg.out (by simp)); replace ph := aa.mk (aq.pS hk (g' := nt) (o := .cells #[qY] 26 (0, 0)) (cC ph.out) qX.out (by simp)); replace HK := aa.mk (aq.trans (e9 HK) hk (.inl rfl)); replace HB := aa.mk (hb); replace bX := aa.mk (hi); (try clear hb); (try clear hk); (try clear hi)) | ((with_reducible refine gate_callee (f := 34) rfl ?_); refine dU (some 45) Tryz.func34 #[.pointer (some ⟨g, 0, none⟩)] ?_; (with_reducible refine (dH.calls k1 g cd Wj Wk aep atb atc w0 _ ?ah ?aj A54.out).mono ?_); (case ah => exact ae.q_ bX); (case aj => exact gF HB (ae.ge bX.out)); rintro e w56 ⟨aBy, rfl, b0, hi, hb, hk⟩; refine ⟨_, rfl, ?_⟩; replace jI := aa.mk (aq.pS hk (g' := nM) (o := .cells #[.slice none 0 0] 26 (0, 0)) (cC jI.out) pg.out (by simp)); replace ph := aa.mk (aq.pS hk (g' := nt) (o := .cells #[qY] 26 (0, 0)) (cC ph.out) qX.out (by simp)); have ZO := aa.mk (Kd.oX (Kd.rz b0 (Kd.lH (fS iX.out))) (bs (w := w) (g := g) (row := none) (e9 HK))); replace iX := aa.mk (Kd.fe (Kd.aaO (Kd.aaN (ae.CE (show ae w0 _ g cd Wj Wk from ae.q_ bX) (fS iX.out) (by decide)) hk) (Kd.oo b0)) (fun _ h_ => h_.1)); replace HK := aa.mk (aq.trans (e9 HK) hk (.inl rfl)); replace HB := aa.mk (hb); replace bX := aa.mk (hi); (try clear hb); (try clear hk); (try clear hi); (try clear b0); obtain ⟨alD, alE, atd, _⟩ := Kd.la ZO.out; subst atd; have Y3 := wk.out; have Y4 := BS.out; have axu := pg.out; have axv := Kw.out; have Vv := fG jI; have Vw := af jI.out 0))
     refine bodyPost_ret (results_cell_row rfl _ _ nM 26 #[.slice alD aep.length alE] (0, 0) _ rfl (mz jI) Tryz.underlying26 rfl (by kernel_rfl)) rfl ?_
     exact ⟨_, ig, by (with_reducible repeat (first | apply Kd.gf | apply Kd.gh | apply Kd.dV)); exact Kd.fe (Kd.oY (p := ⟨nM, 0, none⟩) (Kd.bz ZO.out jI.out (by decide)) (fun _ hk => hk.2) (.slice alD aep.length alE)) (fun _ hk => trivial), ae.q_ bX, gF HB (ae.ge bX.out), e9 HK⟩
   rw [if_pos pK] at H
   have o6 : decide (bY < RG) = true := decide_eq_true pK
   clear pK
   obtain ⟨⟨Iw, alF, alG⟩, Wl, H⟩ := eA H
   (try dsimp only at H)
   obtain ⟨jQ, H⟩ := dB H
   obtain ⟨rH, H⟩ := dB H
   obtain ⟨⟨Wm, aeq⟩, ZE, H⟩ := eA H
   (try dsimp only at H)
   obtain ⟨Ao_, co_, eo_, _⟩ := Kd.la iX.out
   subst eo_
   have p_ : 0 ≤ (Iw : Int) := of_decide_eq_true (by assumption)
   have q_ : Iw < (ie.length : Int) := of_decide_eq_true (by assumption)
   obtain ⟨ad_, ea_, _⟩ := Kd.aZ (Kd.eU iX.out).2.2 Iw p_ q_
   subst ea_
   have xK := aa.mk (show iv w0 w g nM nt cd ka kb (.slice (some ad_) ie.length co_) ie wr from ⟨iX.out, jI.out, ph.out, bX.out, HK.out, HB.out⟩)
   have HP_ := aa.mk p_
   have HQ_ := aa.mk q_
   clear p_ q_ iX jI ph bX HK HB
   go_upto_region 6 with (fail)
   go_cut [7, 8] (fun s7 s8 wx => ∃ (gb : Nat) (v : Value), s7 = .pointer (some ⟨gb, 0, none⟩) ∧ s8 = .bool aeq ∧ aa (pf w0 w g nM nt gb cd alF alG (.slice (some ad_) ie.length co_) v ie Wm wx))
   case first =>
    have p_ := eq_true HP_.out
    have q_ := eq_true HQ_.out
    go_region_held3 (fun w' => w'.cell? ⟨nt, 0, none⟩ = some (.slice (some ad_) ie.length co_) ∧ w'.cell? (ad_.add (Iw).toNat) = some (.int .i64 (rd ie Iw))) (first | exact E_.out.cells HP_.out HQ_.out | exact xL.out.cells HP_.out HQ_.out | exact xK.out.drew.cells HP_.out HQ_.out | exact (E_.out.alloc _).cells HP_.out HQ_.out | exact (xL.out.alloc _).cells HP_.out HQ_.out | exact (xK.out.drew.alloc _).cells HP_.out HQ_.out | exact (s9 xL.out.fresh Ix.out Iy.out E_.out).m.cells HP_.out HQ_.out | exact (s9 xK.out.fresh Ix.out Iy.out E_.out).m.cells HP_.out HQ_.out)
     (first
      | (go_at_call 69; refine (bS.calls g cd ka kb (ie.length : Int) Iw alF alG w0 _ ?i_ ?b_ Wl.out).mono ?_; (case i_ => first | exact xK.out.drew.i | exact (xK.out.drew.alloc _).i); (case b_ => first | exact xK.out.drew.b | exact (xK.out.drew.alloc _).b); rintro e DT ⟨rfl, hi, hb, hk⟩; (first | have xL := aa.mk (xK.out.drew.keep pg.out qX.out hi hb hk) | have xL := aa.mk ((xK.out.drew.alloc _).keep pg.out qX.out hi hb hk)); (try have ate := aa.mk (aq.pS hk (ue _ _) (Ne.symm (Nat.ne_of_lt xK.out.drew.fresh.2.2.1)) (by simp))); clear hi hb hk)
      | (go_at_call 46; refine (bL.calls k1 _ _ ie (rd ie Iw) Wm aeq _ ?r_ ?c_ ZE.out).mono ?_; (case r_ => first | exact (Kd.eU xL.out.x).2.2 | exact (Kd.eU (xL.out.alloc _).x).2.2); (case c_ => exact (Kd.eU xL.out.x).2.1); rintro e xV ⟨v_, rfl, b0, hb⟩; (first | have E_ := aa.mk (xL.out.below hb) | have E_ := aa.mk ((xL.out.alloc _).below hb)); (first | have Iy := aa.mk (Kd.aW b0 xL.out.k.1) | have Iy := aa.mk (Kd.aW b0 (xL.out.alloc _).k.1)); (first | have Ix := aa.mk (bW ate.out hb) | have Ix := aa.mk (bW (ue _ _) hb) | skip); clear b0 hb; obtain ⟨Av_, cv_, ev_⟩ := Kd.aN Iy.out; subst ev_; (try (have hczz_ := (aH Ix.out 0).trans rfl; have hfzz_ := af Ix.out 0))))
    all_goals (go_wp2_with (fail); go_meet; first | exact ⟨_, _, rfl, rfl, ⟨MD Iy.out E_.out⟩⟩ | exact ⟨_, _, rfl, rfl, ⟨s9 xL.out.fresh Ix.out Iy.out E_.out⟩⟩ | exact ⟨_, _, rfl, rfl, ⟨s9 xK.out.fresh Ix.out Iy.out E_.out⟩⟩)
   case rest =>
    obtain ⟨gb_, v_, rfl, rfl, HE_⟩ := hcut
    clear xK
    obtain ⟨Av_, cv_, ev_, _⟩ := Kd.la HE_.out.t
    subst ev_
    by_cases oN : aeq = true
    rotate_left
    · rw [if_neg oN] at H
      have atf := Bool.eq_false_iff.mpr oN
      clear oN
      subst atf
      have H' := aa.mk H
      clear H
      go_wp2
      have hm_ := HE_.out.m
      go_roundg k1
      case measure => have := fu.out; omega
      case rel => exact ⟨_, _, _, _, _, rfl, H', ⟨by have := fu.out; omega⟩, ⟨hm_.x⟩, ⟨hm_.b2⟩, ⟨hm_.b3⟩, ⟨hm_.i⟩, ⟨hm_.k⟩, ⟨hm_.b⟩⟩
    rw [if_pos oN] at H
    subst oN
    replace H := Option.bind_eq_some_iff.mp H
    obtain ⟨Fa, alH, H⟩ := H
    have alI := aa.mk alH
    clear alH
    by_cases rE : Fa < 16
    rotate_left
    · rw [if_neg rE] at H
      have pY : decide (Fa < 16) = false := decide_eq_false rE
      have H' := aa.mk H
      clear rE H
      have alJ := (aH HE_.out.z 0).trans rfl
      have alK := af HE_.out.z 0
      go_wp2_with (go_at_call 38; (refine (dj.calls k1 _ _ Wm Fa _ (Kd.eU HE_.out.t).2.2 (Kd.eU HE_.out.t).2.1 alI.out).mono ?_); rintro e w30 ⟨rfl, hb⟩; have Iz := aa.mk (HE_.out.below hb); clear hb)
      have hm_ := Iz.out.m
      go_roundg k1
      case measure => have := fu.out; omega
      case rel => exact ⟨_, _, _, _, _, rfl, H', ⟨by have := fu.out; omega⟩, ⟨hm_.x⟩, ⟨hm_.b2⟩, ⟨hm_.b3⟩, ⟨hm_.i⟩, ⟨hm_.k⟩, ⟨hm_.b⟩⟩
    rw [if_pos rE] at H
    have pY : decide (Fa < 16) = true := decide_eq_true rE
    have H' := aa.mk H
    clear rE H
    have alJ := (aH HE_.out.z 0).trans rfl
    have alK := af HE_.out.z 0
    go_wp2_with (go_at_call 38; (refine (dj.calls k1 _ _ Wm Fa _ (Kd.eU HE_.out.t).2.2 (Kd.eU HE_.out.t).2.1 alI.out).mono ?_); rintro e w30 ⟨rfl, hb⟩; have Iz := aa.mk (HE_.out.below hb); clear hb; have axw := (aH Iz.out.z 0).trans rfl; have axx := af Iz.out.z 0; have axy := (aH Iz.out.m.b3 0).trans rfl; have axz := af Iz.out.m.b3 0)
    have hm_ := Iz.out.take wk.out Kx.out alz.out alA.out
    go_roundg k1
    case measure => have := fu.out; omega
    case rel => exact ⟨_, _, _, _, _, rfl, H', ⟨by have := fu.out; omega⟩, ⟨hm_.x⟩, ⟨hm_.b2⟩, ⟨hm_.b3⟩, ⟨hm_.i⟩, ⟨hm_.k⟩, ⟨hm_.b⟩⟩
def jr.f (k : Nat) (l0 : List Int) : Option (List Int) := (eh.f k l0).bind fun Fb => ((gq.f Fb.1 Fb.2.1 Fb.2.2 8).bind fun Fc => (if Fc.1 = true then ((dH.f k Fb.1 Fc.2.1 Fc.2.2).bind fun alL => (some alL.1)) else ((dp.f k Fb.1 Fc.2.1 Fc.2.2).bind fun alM => (some alM.1))))
set_option maxHeartbeats 8000000 in
set_option maxRecDepth 100000 in
theorem jr.calls (k : Nat) (A0 : Option Addr) (c0 : Nat) (l0 : List Int) (r : List Int) (w : World) (fH : Kd.C (Kd.int .u8) w A0 l0.length l0) (gL : l0.length ≤ c0) (h : jr.f k l0 = some r) :
 Calls Tryz.prog 15 #[.slice A0 l0.length c0] w fun e w' => ∃ jf : Value, e = .returned (.agg #[jf]) ∧ Kd.Q (Kd.int .i64) 3 w' w.heap.size (fun _ => True) jf r ∧ Below w.heap.size w w' := by
 have kJ := Tryz.underlying26
 have eZ := aa.mk fH
 have jN := aa.mk gL
 clear fH gL
 have HB := aa.mk (Below.refl w.heap.size w)
 have H := h
 clear h
 unfold jr.f at H
 obtain ⟨⟨ME, Wn, Wo⟩, A2, H⟩ := eA H
 (try dsimp only at H)
 obtain ⟨⟨atg, Wp, Wq⟩, A3, H⟩ := eA H
 (try dsimp only at H)
 by_cases c4 : atg = true
 · subst c4
   rw [if_pos rfl] at H
   obtain ⟨⟨aer, ath, ati⟩, A5, H⟩ := eA H
   (try dsimp only at H)
   obtain rfl := Option.some.inj H
   go_enter Tryz.func15, Tryz.ntmps15
   go_wp2_with (first | ((with_reducible refine gate_dst (N := 2) rfl ?_); refine iP 2 #[.slice none 0 0] 26 ?_; intro uU hg w6 hbox hb; have kj := aa.mk (hbox); have alN := ij hg HB; have alO := ij hg HB; replace HB := jL HB hb; clear hb hbox hg) | ((with_reducible refine gate_callee (f := 35) rfl ?_); refine dU (some 5) Tryz.func35 #[.slice A0 l0.length c0] ?_; (with_reducible refine (eh.calls k _ _ l0 ME Wn Wo w _ ?ah ?aj ?fB A2.out).mono ?_); (case ah => exact bC HB); (case aj => exact eZ.out); (case fB => exact jN.out); rintro e w7 ⟨Dp, rfl, hi, hb, vA⟩; refine ⟨_, rfl, ?_⟩; replace HB := aa.mk (hb); have nu := aa.mk (hi); have wm := aa.mk (ae.rK hi (bW (cC kj.out) vA) (by decide)); have mS := aa.mk (Ne.symm (ae.rK hi (bW (cC kj.out) vA) (by decide))); replace kj := aa.mk (bW (cC kj.out) vA); (try clear hb); (try clear vA); (try clear hi)) | ((with_reducible refine gate_callee (f := 50) rfl ?_); refine dU (some 7) Tryz.func50 #[.pointer (some ⟨Dp, 0, none⟩), .int .i64 8] ?_; (with_reducible refine (gq.calls Dp ME Wn Wo 8 true Wp Wq w _ ?ah ?aj A3.out).mono ?_); (case ah => exact ae.q_ nu); (case aj => exact gF HB (ae.ge nu.out)); rintro e w8 ⟨rfl, hi, hb, hk⟩; refine ⟨_, rfl, ?_⟩; replace kj := aa.mk (aq.pS hk (g' := uU) (o := .cells #[.slice none 0 0] 26 (0, 0)) (cC kj.out) mS.out (by simp)); replace HB := aa.mk (hb); replace nu := aa.mk (hi); (try clear hb); (try clear hk); (try clear hi)) | ((with_reducible refine gate_callee (f := 34) rfl ?_); refine dU (some 9) Tryz.func34 #[.pointer (some ⟨Dp, 0, none⟩)] ?_; (with_reducible refine (dH.calls k Dp ME Wp Wq aer ath ati w _ ?ah ?aj A5.out).mono ?_); (case ah => exact ae.q_ nu); (case aj => exact gF HB (ae.ge nu.out)); rintro e w9 ⟨aBz, rfl, b0, hi, hb, hk⟩; refine ⟨_, rfl, ?_⟩; replace kj := aa.mk (aq.pS hk (g' := uU) (o := .cells #[.slice none 0 0] 26 (0, 0)) (cC kj.out) mS.out (by simp)); have ZP := aa.mk (Kd.oX b0 (ag (gF HB (ae.ge nu.out)))); replace HB := aa.mk (hb); replace nu := aa.mk (hi); (try clear hb); (try clear hk); (try clear hi); (try clear b0); obtain ⟨pJ, oQ, rJ, _⟩ := Kd.la ZP.out; subst rJ; have YC := mS.out; have YD := wm.out; have nV := fG kj; have nW := af kj.out 0))
   refine bodyPost_ret (results_cell_row rfl _ _ uU 26 #[.slice pJ aer.length oQ] (0, 0) _ rfl (mz kj) Tryz.underlying26 rfl (by kernel_rfl)) rfl ?_
   exact ⟨_, ig, by (with_reducible repeat (first | apply Kd.gf | apply Kd.gh | apply Kd.dV)); exact Kd.fe (Kd.oY (p := ⟨uU, 0, none⟩) (Kd.bz ZP.out kj.out (by decide)) (fun _ hk => hk.2) (.slice pJ aer.length oQ)) (fun _ hk => trivial), gF HB (ae.ge nu.out)⟩
 replace c4 := Bool.eq_false_iff.mpr c4
 subst c4
 rw [if_neg (show ¬ (false = true) by decide)] at H
 obtain ⟨⟨aes, atj, atk⟩, Wl, H⟩ := eA H
 (try dsimp only at H)
 obtain rfl := Option.some.inj H
 go_enter Tryz.func15, Tryz.ntmps15
 go_wp2_with (first | ((with_reducible refine gate_dst (N := 2) rfl ?_); refine iP 2 #[.slice none 0 0] 26 ?_; intro uU hg TI hbox hb; have kj := aa.mk (hbox); have alN := ij hg HB; have alO := ij hg HB; replace HB := jL HB hb; clear hb hbox hg) | ((with_reducible refine gate_callee (f := 35) rfl ?_); refine dU (some 5) Tryz.func35 #[.slice A0 l0.length c0] ?_; (with_reducible refine (eh.calls k _ _ l0 ME Wn Wo w _ ?ah ?aj ?fB A2.out).mono ?_); (case ah => exact bC HB); (case aj => exact eZ.out); (case fB => exact jN.out); rintro e LS ⟨Dp, rfl, hi, hb, vA⟩; refine ⟨_, rfl, ?_⟩; replace HB := aa.mk (hb); have nu := aa.mk (hi); have wm := aa.mk (ae.rK hi (bW (cC kj.out) vA) (by decide)); have mS := aa.mk (Ne.symm (ae.rK hi (bW (cC kj.out) vA) (by decide))); replace kj := aa.mk (bW (cC kj.out) vA); (try clear hb); (try clear vA); (try clear hi)) | ((with_reducible refine gate_callee (f := 50) rfl ?_); refine dU (some 7) Tryz.func50 #[.pointer (some ⟨Dp, 0, none⟩), .int .i64 8] ?_; (with_reducible refine (gq.calls Dp ME Wn Wo 8 false Wp Wq w _ ?ah ?aj A3.out).mono ?_); (case ah => exact ae.q_ nu); (case aj => exact gF HB (ae.ge nu.out)); rintro e LX ⟨rfl, hi, hb, hk⟩; refine ⟨_, rfl, ?_⟩; replace kj := aa.mk (aq.pS hk (g' := uU) (o := .cells #[.slice none 0 0] 26 (0, 0)) (cC kj.out) mS.out (by simp)); replace HB := aa.mk (hb); replace nu := aa.mk (hi); (try clear hb); (try clear hk); (try clear hi)) | ((with_reducible refine gate_callee (f := 51) rfl ?_); refine dU (some 11) Tryz.func51 #[.pointer (some ⟨Dp, 0, none⟩)] ?_; (with_reducible refine (dp.calls k Dp ME Wp Wq aes atj atk w _ ?ah ?aj Wl.out).mono ?_); (case ah => exact ae.q_ nu); (case aj => exact gF HB (ae.ge nu.out)); rintro e LN ⟨aBA, rfl, b0, hi, hb, hk⟩; refine ⟨_, rfl, ?_⟩; replace kj := aa.mk (aq.pS hk (g' := uU) (o := .cells #[.slice none 0 0] 26 (0, 0)) (cC kj.out) mS.out (by simp)); have ZQ := aa.mk (Kd.oX b0 (ag (gF HB (ae.ge nu.out)))); replace HB := aa.mk (hb); replace nu := aa.mk (hi); (try clear hb); (try clear hk); (try clear hi); (try clear b0); obtain ⟨nn, mQ, ze, _⟩ := Kd.la ZQ.out; subst ze; have axA := mS.out; have axB := wm.out; have Dg := fG kj; have Dh := af kj.out 0))
 refine bodyPost_ret (results_cell_row rfl _ _ uU 26 #[.slice nn aes.length mQ] (0, 0) _ rfl (mz kj) Tryz.underlying26 rfl (by kernel_rfl)) rfl ?_
 exact ⟨_, ig, by (with_reducible repeat (first | apply Kd.gf | apply Kd.gh | apply Kd.dV)); exact Kd.fe (Kd.oY (p := ⟨uU, 0, none⟩) (Kd.bz ZQ.out kj.out (by decide)) (fun _ hk => hk.2) (.slice nn aes.length mQ)) (fun _ hk => trivial), gF HB (ae.ge nu.out)⟩
end Go.Proofs.YtjodlkbhaofkkaaGreat.PA
end
section
namespace Go.Proofs
open Go.Shelf
def Tryz.MF : Go.Shelf.Ren := ⟨fun | 35 => 54 | n => n, fun | 22 => 30 | 23 => 26 | 3 => 3 | 4 => 4 | 0 => 0 | n => n, fun | n => n⟩
theorem Tryz.ZR : Go.Proofs.SlLaysE0.n35 Tryz.prog Tryz.MF := {
 mixed := by kernel_rfl
 f35 := ⟨Tryz.f54.name, by decide, Tryz.func54.trans (congrArg some (by kernel_rfl))⟩
 t0 := Tryz.underlying0
 a0 := Tryz.isAgg0
 z0 := Tryz.sizeOf0
 v0 := Tryz.zeroValue0
 t3 := Tryz.underlying3
 a3 := Tryz.isAgg3
 z3 := Tryz.sizeOf3
 v3 := Tryz.zeroValue3
 t4 := Tryz.underlying4
 a4 := Tryz.isAgg4
 z4 := Tryz.sizeOf4
 v4 := Tryz.zeroValue4
 t22 := Tryz.underlying30
 a22 := Tryz.isAgg30
 z22 := Tryz.sizeOf30
 v22 := Tryz.zeroValue30 }
end Go.Proofs
end
section
namespace Go.Proofs.YtjodlkbhaofkkaaGreat.PA
open Go.RowKit Go.Proofs.YtjodlkbhaofkkaaGreatW.PrintWords Go.Proofs.YtjodlkbhaofkkaaGreatW.PrintLast Go.Proofs.YtjodlkbhaofkkaaGreatW.PrintMore
attribute [local go_sem] ja jb j5 j6 hY hZ jc jd
set_option linter.unusedVariables false
set_option linter.unusedSimpArgs false
set_option maxHeartbeats 8000000
set_option maxRecDepth 100000
def fP.f (l0 : List Int) : Option (List Int) := (some (([] : List Int) : List Int)).bind fun IA => (if IA.length + l0.length < 17592186044416 then (some (IA ++ l0)) else (none))
theorem fP.calls (A0 : Option Addr) (c0 : Nat) (l0 : List Int) (r : List Int) (w : World) (fH : Kd.C (Kd.int .i64) w A0 l0.length l0) (gL : l0.length ≤ c0) (h : fP.f l0 = some r) :
 Calls Tryz.prog 52 #[.slice A0 l0.length c0] w fun e w' => ∃ jf : Value, e = .returned (jf) ∧ Kd.R (Kd.int .i64) 3 w' w.heap.size (fun _ => True) jf r ∧ Below w.heap.size w w' := by
 have eZ := aa.mk fH
 have jN := aa.mk gL
 clear fH gL
 have HB := aa.mk (Below.refl w.heap.size w)
 have H := h
 clear h
 unfold fP.f at H
 obtain ⟨IA, RH⟩ : ∃ y_ : List Int, y_ = (([] : List Int)) := ⟨_, rfl⟩
 replace H : (if IA.length + l0.length < 17592186044416 then (some (IA ++ l0)) else (none)) = some r := by subst RH; exact H
 have RI := aa.mk RH
 clear RH
 obtain ⟨c2, H⟩ := kG H
 have aet := aa.mk c2
 clear c2
 obtain ⟨atl, RJ⟩ : ∃ y_ : List Int, y_ = (IA ++ l0) := ⟨_, rfl⟩
 replace H : (some atl) = some r := by subst RJ; exact H
 have ZS := aa.mk RJ
 clear RJ
 obtain rfl := Option.some.inj H
 have q_ : ∀ (w : World) (a : Option Addr) (n c n' c' : Nat), (binOp .eql 24 (.slice a n c) (.slice none n' c')).run Tryz.prog w = .ok (.bool a.isNone) w := fun w a n c n' c' => Lib.run_eql_slice_nil w _ _ a n c n' c' Tryz.underlying24
 go_enter Tryz.func52, Tryz.ntmps52
 rcases A0 with _ | ad_
 · have e0_ : l0 = [] := (by rcases l0 with _ | ⟨a_, r_⟩; exact rfl; obtain ⟨ad_, ea_, _⟩ := Kd.aZ eZ.out 0 (by decide) (by simp only [List.length_cons]; omega); cases ea_)
   subst e0_
   go_wp2
   go_ret
   exact ⟨_, rfl, (by rw [ZS.out, RI.out]; exact Kd.kQ _ _ _ _ _), HB.out⟩
 · go_wp2_with (first | ((with_reducible refine gate_dst (N := 5) rfl ?_); refine Kd.iK (Kd.int .i64) _ 3 ?hg (N := 5) ?hd (xs := ([] : List Int)) (inner := []) (ok := fun _ => True) (okp := fun _ => True) ?hr ?hp (fun _ hk => hk) trivial (Below.refl _ _) (Nat.le_refl _) (by simp) ?_; (case hd => rfl); (case hg => rfl); (case hr => first | (go_simp; done) | (go_simp; rfl)); (case hp => exact (bE.none _ _)); intro atm w3 EC hb hg_ hnew_; clear hg_ hnew_; (first | rw [← RI.out] at EC | (simp only [Int.reduceToNat] at EC; rw [← RI.out] at EC)); have ZT := aa.mk (Kd.aW EC (ag (gA HB.out))); replace HB := jL HB hb; clear hb EC) | ((with_reducible refine gate_builtin (b := .append) (xs := #[.tmp 5, .tmp 6]) rfl ?_); at_builtin; refine Kd.kn (Kd.int .i64) (w0 := w) w.heap.size rfl (.tmp 5) (.tmp 6) 24 3 (.int .i64 0) 8 rfl Tryz.underlying24 iS rfl (by decide) (by omega) atm IA l0 _ _ _ (fun _ => True) (fun _ => False) rfl rfl ?aO ?aR (fun _ _ h => h) (fun _ h => h.elim) ?aF ?aB ?aS ?aL ?_; (case aR => exact iZ eZ HB); (case aB => exact (gA HB.out)); (case aF => exact (fun _ _ => trivial)); (case aO => exact (b9 ZT.out)); (case aS => exact (ag (gA HB.out))); (case aL => have := aet.out; omega); intro aBC w5 ho hb hg hat; rw [← ZS.out] at ho; replace HB := aa.mk (hb); have alP := aa.mk (ho); clear ZT; clear ho hb hg hat))
   go_ret
   exact ⟨_, ig, b9 alP.out, gA HB.out⟩
theorem Fe {e : Nat} {W W' : World} {base g n cap : Nat} {inner : List Value} {F : Array Value} (h : W.ownsRow base e 1 (.slice (some ⟨g, 0, none⟩) n cap) n inner) (hF : F.size = n) (hg : W'.heap[g]? = (Go.Sort.putRow id W g 0 F).heap[g]?) : W'.ownsRow base e 1 (.slice (some ⟨g, 0, none⟩) n cap) n F.toList := by
 obtain ⟨hl, h2⟩ := h
 refine ⟨by rw [Array.length_toList, hF, Nat.mul_one], ?_⟩
 rcases h2 with ⟨hv, _⟩ | ⟨g', cap', cur, hv, hb, hh, hn, hc, hs, hi⟩
 · cases hv
 · injection hv with e1 e2 e3
   injection e1 with e1
   injection e1 with e1
   subst e1 e3
   refine .inr ⟨_, _, Go.Sort.putCells id 0 F cur, rfl, hb, ?_, hn, hc, ?_, ?_⟩
   · rw [hg]
     show (W.heap.modify g (Go.Sort.onCells (Go.Sort.putCells id 0 F)))[g]? = _
     rw [Array.getElem?_modify, if_pos rfl, hh]
     rfl
   · unfold Go.Sort.putCells
     rw [Array.size_mapIdx]; exact hs
   · rw [Nat.mul_one] at hs ⊢
     apply List.ext_getElem?
     intro j
     rw [List.getElem?_take]
     by_cases c : j < n
     · rw [if_pos c]
       unfold Go.Sort.putCells
       rw [Array.getElem?_toList, Array.getElem?_mapIdx, Array.getElem?_eq_getElem (show j < cur.size by omega), Array.getElem?_toList, Array.getElem?_eq_getElem (show j < F.size by omega)]
       simp only [Option.map_some, Nat.zero_le, true_and, Nat.zero_add, Nat.sub_zero, id_eq]
       rw [if_pos (show j < F.size by omega), getElem!_pos F j (by omega)]
     · rw [if_neg c, List.getElem?_eq_none (by rw [Array.length_toList]; omega)]
theorem MG {e : Nat} {W : World} {base g n cap : Nat} {inner : List Value} (h : W.ownsRow base e 1 (.slice (some ⟨g, 0, none⟩) n cap) n inner) {i : Nat} (hi : i < n) : W.cell? ⟨g, i, none⟩ = inner[i]? := by
 obtain ⟨hl, h2⟩ := h
 rcases h2 with ⟨hv, _⟩ | ⟨g', cap', cur, hv, hb, hh, hn, hc, hs, hi'⟩
 · cases hv
 · injection hv with e1 e2 e3
   injection e1 with e1
   injection e1 with e1
   subst e1 e3
   rw [← hi', List.getElem?_take, if_pos (by omega), Array.getElem?_toList]
   simp [World.cell?, hh]
theorem MH {α : Type} (d : Kd α) (hsz : d.sz = 1) {e : Nat} {W W' : World} {base g n cap : Nat} {ok : Nat → Prop} {xs : List α} {F : Array Value} {ps : List Nat}
 (h : Kd.R d e W base ok (.slice (some ⟨g, 0, none⟩) n cap) xs) (hps : ps.length = xs.length) (hlt : ∀ i ∈ ps, i < xs.length) (z : α)
 (hF : F.size = n) (hF' : ∀ j (hj : j < ps.length), W.cell? ⟨g, ps[j], none⟩ = some F[j]!)
 (hg : W'.heap[g]? = (Go.Sort.putRow id W g 0 F).heap[g]?) (hm : ∀ k, k ≠ g → k < W.heap.size → W'.heap[k]? = W.heap[k]?) :
 Kd.R d e W' base ok (.slice (some ⟨g, 0, none⟩) n cap) (ps.map fun i => xs.getD i z) := by
 obtain ⟨hn, _, _⟩ := Kd.ao h
 obtain ⟨h0, inner, ho, hr⟩ := h
 rw [hsz] at ho hr
 subst hn
 refine ⟨h0, F.toList, ?_, ?_⟩
 · rw [hsz, List.length_map, hps]
   exact Fe ho hF hg
 · rw [hsz]
   refine ⟨by rw [Array.length_toList, hF, List.length_map, hps, Nat.mul_one], fun j p hj => ?_⟩
   obtain ⟨TT, hj2⟩ := List.getElem?_eq_some_iff.1 hj
   rw [List.length_map] at TT
   rw [List.getElem_map] at hj2
   have hlt' := hlt _ (List.getElem_mem TT)
   have hc := hF' j TT
   rw [MG ho hlt'] at hc
   have hx : xs[ps[j]]? = some p := by rw [List.getElem?_eq_getElem hlt', ← hj2, List.getD_eq_getElem?_getD, List.getElem?_eq_getElem hlt']; rfl
   have hM := hr.2 _ _ hx
   have one : ∀ (l : List Value) (i : Nat) (v : Value), l[i]? = some v → (l.drop (i * 1)).take 1 = [v] := fun l i v hv => by
    obtain ⟨q, r⟩ := List.getElem?_eq_some_iff.1 hv
    rw [Nat.mul_one, List.drop_eq_getElem_cons q, r]; rfl
   rw [one _ _ _ hc] at hM
   rw [one F.toList j F[j]! (by rw [Array.getElem?_toList, Array.getElem?_eq_getElem (by omega), getElem!_pos F j (by omega)])]
   refine Kd.Gv hM (fun k hk hlt => hm k (fun e => hk.2 ?_) hlt)
   rw [e]; rfl
theorem MI {α : Type} (d : Kd α) (hsz : d.sz = 1) {e : Nat} {W W' : World} {base g n cap : Nat} {ok : Nat → Prop} {xs : List α} {F : Array Value} {ps : List Nat}
 (h : Kd.N d e W base ok (.slice (some ⟨g, 0, none⟩) n cap) xs) (hps : ps.length = xs.length) (hlt : ∀ i ∈ ps, i < xs.length) (z : α)
 (hF : F.size = n) (hF' : ∀ j (hj : j < ps.length), W.cell? ⟨g, ps[j], none⟩ = some F[j]!)
 (hg : W'.heap[g]? = (Go.Sort.putRow id W g 0 F).heap[g]?) (hm : ∀ k, k ≠ g → k < W.heap.size → W'.heap[k]? = W.heap[k]?) :
 Kd.N d e W' base ok (.slice (some ⟨g, 0, none⟩) n cap) (ps.map fun i => xs.getD i z) := by
 obtain ⟨h0, rows, hl, hR, hf⟩ := h
 have hR' := MH (Kd.raw d.sz) hsz hR (by rw [hl]; exact hps) (fun i hi => by rw [hl]; exact hlt i hi) [] hF hF' hg hm
 refine ⟨h0, _, by rw [List.length_map, List.length_map], hR', fun j x c hx hc => ?_⟩
 obtain ⟨TT, hx⟩ := List.getElem?_eq_some_iff.1 hx
 obtain ⟨_, hc⟩ := List.getElem?_eq_some_iff.1 hc
 rw [List.length_map] at TT
 rw [List.getElem_map] at hx hc
 have hlt' := hlt _ (List.getElem_mem TT)
 rw [List.getD_eq_getElem?_getD, List.getElem?_eq_getElem hlt'] at hx
 rw [List.getD_eq_getElem?_getD, List.getElem?_eq_getElem (by rw [hl]; exact hlt')] at hc
 exact Kd.xR (hf _ x c (by rw [List.getElem?_eq_getElem hlt', ← hx]; rfl) (by rw [List.getElem?_eq_getElem (by rw [hl]; exact hlt'), ← hc]; rfl)) (fun k hk atn => hm k (fun e => hk.2 (by rw [e]; rfl)) atn)
theorem Ff {w : World} {g n c0 : Nat} {base : Nat} {ok : Nat → Prop} {l0 : List (cT)} (hN : Kd.N ix 26 w base ok (.slice (some ⟨g, 0, none⟩) l0.length c0) l0) (hn : n = l0.length) :
 ∃ enc : Nat → List Value, (∀ x, (enc x).length = 1) ∧ (∀ x, ∀ v ∈ enc x, v.oneCell' = true) ∧ Go.Sort.HoldsK enc 1 w g 0 (Array.range n) ∧ ∀ i, i < n → w.cell? ⟨g, i, none⟩ = some ((enc i)[0]!) := by
 have hx : ∀ i : Nat, ∃ v : Value, v.oneCell' = true ∧ (i < n → w.cell? ⟨g, i, none⟩ = some v ∧ w.frozen? ⟨g, i, none⟩ = false) := fun i => by
  by_cases hi : i < n
  · obtain ⟨c, hcl, hF, hcc, hfr⟩ := Kd.GB hN (⟨[]⟩ : cT) (i : Int) (by omega) (by omega)
    obtain ⟨A, c', rfl, hle, hR⟩ := jP hF
    have k1 : ix.sz = 1 := rfl
    refine ⟨.slice A (l0.getD (i : Int).toNat ⟨[]⟩).f0.length c', rfl, fun _ => ⟨?_, ?_⟩⟩
    · have := hcc 0 _ rfl
      rw [Int.toNat_natCast, k1, Nat.mul_one, Nat.add_zero] at this
      exact this
    · have := hfr 0
      rw [Int.toNat_natCast, k1, Nat.mul_one, Nat.add_zero] at this
      exact this
  · exact ⟨.slice none 0 0, rfl, fun h => absurd h hi⟩
 obtain ⟨f, hf⟩ := Classical.axiomOfChoice hx
 refine ⟨fun i => [f i], fun _ => rfl, fun x v hv => by rw [List.mem_singleton.1 hv]; exact (hf x).1, fun j hj => ?_, fun i hi => ((hf i).2 hi).1⟩
 rw [Go.Sort.size_flatK, Array.size_range, Nat.mul_one] at hj
 rw [Go.Sort.get_flatK _ 1 _ j (by rw [Array.size_range]; omega), Nat.div_one, Nat.mod_one, getElem!_pos (Array.range n) j (by simpa using hj), Nat.zero_add, Array.getElem_range]
 exact (hf j).2 hj
theorem RK {w w' : World} {g c0 : Nat} {base : Nat} {ok : Nat → Prop} {l0 : List (cT)} (hN : Kd.N ix 26 w base ok (.slice (some ⟨g, 0, none⟩) l0.length c0) l0) {enc : Nat → List Value} (hcell : ∀ i, i < l0.length → w.cell? ⟨g, i, none⟩ = some ((enc i)[0]!)) {d : Array Nat} (hd : d.size = l0.length) (hlt : ∀ i ∈ d.toList, i < l0.length)
 {m : Nat} {os : Array Obj} (hw : w' = Go.Sort.grow (Go.Sort.putRowK enc 1 (Go.Sort.ahead w m) g 0 d) os) : Kd.N ix 26 w' base ok (.slice (some ⟨g, 0, none⟩) l0.length c0) (d.toList.map fun i => l0.getD i ⟨[]⟩) := by
 have hgl : g < w.heap.size := Kd.lM hN g rfl
 have hh : ∀ k, k < w.heap.size → w'.heap[k]? = (w.heap.modify g (Go.Sort.onCells (Go.Sort.putCells id 0 (Go.Sort.flatK enc 1 d))))[k]? := fun k hk => by
  rw [hw]
  show ((w.heap.modify g (Go.Sort.onCells (Go.Sort.putCells id 0 (Go.Sort.flatK enc 1 d)))) ++ os)[k]? = _
  rw [Array.getElem?_append, if_pos (by simpa using hk)]
 refine MI (F := Go.Sort.flatK enc 1 d) ix rfl hN (by rw [Array.length_toList, hd]) hlt ⟨[]⟩ (by rw [Go.Sort.size_flatK, hd, Nat.mul_one]) (fun j hj => ?_) (hh g hgl) (fun k hk hkl => ?_)
 · rw [Array.length_toList] at hj
   rw [Go.Sort.get_flatK enc 1 d j (by omega), Nat.div_one, Nat.mod_one, getElem!_pos d j hj, Array.getElem_toList]
   exact hcell _ (hlt _ (by rw [← Array.getElem_toList hj]; exact List.getElem_mem _))
 · rw [hh k hkl, Array.getElem?_modify, if_neg (fun e => hk e.symm)]
theorem IB {wb w w' : World} {g base : Nat} (hb : Below base wb w) (hg : base ≤ g) {enc : Nat → List Value} {d : Array Nat} {m : Nat} {os : Array Obj} (hs : base ≤ w.heap.size) (hw : w' = Go.Sort.grow (Go.Sort.putRowK enc 1 (Go.Sort.ahead w m) g 0 d) os) : Below base wb w' := by
 have hz : w'.heap = (w.heap.modify g (Go.Sort.onCells (Go.Sort.putCells id 0 (Go.Sort.flatK enc 1 d)))) ++ os := by rw [hw]; rfl
 refine ⟨by rw [hw]; exact hb.os, by rw [hw]; exact hb.tape, by rw [hw]; exact hb.output, ?_, fun k hk => ?_⟩
 · have := hb.size
   rw [hz, Array.size_append, Array.size_modify]; omega
 · rw [hz, Array.getElem?_append, if_pos (by rw [Array.size_modify]; omega), Array.getElem?_modify, if_neg (by omega)]
   exact hb.block k hk
def ma.f (_l0 : List (cT)) : Option (Unit) := some ()
theorem ma.calls (A0 : Option Addr) (c0 : Nat) (l0 : List (cT)) (base : Nat) (ok : Nat → Prop) (wb w : World) (hN : Kd.N ix 26 w base ok (.slice A0 l0.length c0) l0) (hl : l0.length ≤ 9223372036854775807) (hBb : Below base wb w) (hs : base ≤ w.heap.size) :
 Calls Tryz.prog 54 #[.slice A0 l0.length c0] w fun e w' => e = .returned (.tuple #[]) ∧ Kd.N ix 26 w' base ok (.slice A0 l0.length c0) l0.reverse ∧ Below base wb w' := by
 rcases Nat.eq_zero_or_pos l0.length with h0 | hp
 · have hc := Go.Proofs.AnyQ.slices_Reverse_empty (P := Tryz.prog) Tryz.ZR A0 c0 w
   change Calls Tryz.prog 54 _ _ _ at hc
   have e0 : l0 = [] := List.length_eq_zero_iff.1 h0
   subst e0
   exact hc.mono fun e w' ⟨he, hw⟩ => ⟨he, by rw [hw]; exact hN, by rw [hw]; exact hBb⟩
 · obtain ⟨g, cap, hv, hbase, hg, cells, hblk⟩ := Kd.NH hN hp
   injection hv with e1 e2 e3
   subst e1 e3
   obtain ⟨enc, hk1, h1, hH, hcell⟩ := Ff hN rfl
   have hs := Go.Proofs.AnyQ.slices_Reverse (P := Tryz.prog) Tryz.ZR 1 Tryz.isAgg26 Tryz.sizeOf26 enc hk1 h1 g 0 c0 (Array.range l0.length) w hH (by rw [Array.size_range]; exact hl)
   change Calls Tryz.prog 54 _ _ _ at hs
   rw [Array.size_range] at hs
   refine hs.mono ?_
   rintro e w' ⟨he, m, hw⟩
   have hw2 : w' = Go.Sort.grow (Go.Sort.putRowK enc 1 (Go.Sort.ahead w m) g 0 (Array.range l0.length).reverse) #[] := by rw [Go.Sort.grow_empty]; exact hw
   have hN' := RK hN hcell (d := (Array.range l0.length).reverse) (by rw [Array.size_reverse, Array.size_range]) (fun i hi => by simpa using hi) hw2
   refine ⟨he, ?_, IB hBb hbase (by assumption) hw2⟩
   have e1 : ((Array.range l0.length).reverse.toList.map fun i => l0.getD i ⟨[]⟩) = l0.reverse := by
    rw [Array.toList_reverse, Array.toList_range, List.map_reverse]
    congr 1
    apply List.ext_getElem
    · rw [List.length_map, List.length_range]
    · intro i h1 h2
      rw [List.getElem_map, List.getElem_range, List.getD_eq_getElem?_getD, List.getElem?_eq_getElem h2]; rfl
   rw [e1] at hN'
   exact hN'
def eR.l0 : Nat → List (cT) → List Int → Option ((List (cT)) × Bool)
 | 0, _, _ => none
 | k + 1, x4, Ky => (ff.f k Ky).bind fun Fg => (if Fg > 0 then ((fQ.f k Ky).bind fun RL => (if RL.2 = true then (if x4.length < 5864062014805 then (eR.l0 k (x4 ++ [(⟨RL.1⟩ : cT)]) RL.1) else (none)) else (some (([] : List (cT)), false)))) else ((ma.f x4).bind fun _ => (some (x4.reverse, true))))
def eR.f (k : Nat) (an : List Int) : Option ((List (cT)) × Bool) := (ak.f k an).bind fun aeu => (if aeu = true then ((fP.f an).bind fun Dq => (eR.l0 k (([(⟨Dq⟩ : cT)] : List (cT))) an)) else (some (([] : List (cT)), false)))
theorem IC {α : Type} {d : Kd α} {e : Nat} {w : World} {base : Nat} {ok : Nat → Prop} {A : Option Addr} {n c : Nat} {xs : List α} (h : Kd.N d e w base ok (.slice A n c) xs) : xs.length ≤ 9223372036854775807 := by
 obtain ⟨_, rows, hl, ⟨_, inner, ho, _⟩, _⟩ := h
 rcases ho.2 with ⟨_, h0⟩ | ⟨g, cap, cur, _, _, _, hn, hc, _⟩
 · omega
 · have : Go.maxLen ≤ 9223372036854775807 := by decide
   omega
theorem eR.calls (k : Nat) (mb : Nat → Prop) (bF : Option Addr) (bl : Nat) (an : List Int) (r1 : List (cT)) (r2 : Bool) (w : World) (alQ : Kd.V (Kd.int .i64) 3 w w.heap.size (fun k_ => mb k_) (.slice bF an.length bl) an) (h : eR.f k an = some (r1, r2)) :
 Calls Tryz.prog 16 #[.agg #[.slice bF an.length bl]] w fun e w' => ∃ jf : Value, e = .returned (.tuple #[jf, .bool r2]) ∧ Kd.N ix 26 w' w.heap.size (fun k_ => (mb k_ ∨ w.heap.size ≤ k_)) jf r1 ∧ Below w.heap.size w w' := by
 have kJ := Tryz.underlying26
 have mc := aa.mk (show Kd.V (Kd.int .i64) 3 w w.heap.size (fun k_ => (mb k_ ∨ w.heap.size ≤ k_)) (.slice bF an.length bl) an from Kd.je alQ (fun k_ hk => .inl hk))
 have HB := aa.mk (Below.refl w.heap.size w)
 have H := h
 clear h
 unfold eR.f at H
 obtain ⟨aeu, A2, H⟩ := eA H
 by_cases c3 : aeu = true
 rotate_left
 · replace c3 := Bool.eq_false_iff.mpr c3
   subst c3
   rw [if_neg (show ¬ (false = true) by decide)] at H
   simp only [Option.some.injEq, Prod.mk.injEq] at H
   obtain ⟨rfl, rfl⟩ := H
   go_enter Tryz.func16, Tryz.ntmps16
   go_wp2_with (first | ((with_reducible refine gate_dst (N := 1) rfl ?_); refine iP 1 #[.slice bF an.length bl] 26 ?_; intro jX hg w46 hbox hb; replace mc := aa.mk (Kd.iB (Kd.nk (pF mc.out) jX (Nat.le_of_eq hg.symm)) hb); have ew := aa.mk (hbox); have alR := ij hg HB; have alS := ij hg HB; replace HB := jL HB hb; clear hb hbox hg; have VJ := fG ew; have VK := af ew.out 0) | ((with_reducible refine gate_callee (f := 42) rfl ?_); refine dU (some 8) Tryz.func42 #[.agg #[.slice bF an.length bl]] ?_; (with_reducible refine (ak.calls k _ _ an false _ ?ah ?aj A2.out).mono ?_); (case ah => exact kx ((Kd.fZ mc.out).2.2)); (case aj => exact (Kd.fZ mc.out).2.1); rintro e w48 ⟨rfl, hb⟩; refine ⟨_, rfl, ?_⟩; replace mc := aa.mk (Kd.iB (pF mc.out) hb); replace ew := cn ew hb; replace HB := eM HB hb; (try clear hb)))
   go_ret2
   exact ⟨_, ig, by first | exact Kd.mD _ _ _ _ _ | exact Kd.mE _ _ _ _ _ | exact Kd.mF _ _ _ _ _ | exact Kd.mC _ _ _ _ _ | exact Kd.kQ _ _ _ _ _, bC HB⟩
 subst c3
 rw [if_pos rfl] at H
 obtain ⟨Dq, A4, H⟩ := eA H
 obtain ⟨alT, RM⟩ : ∃ y_ : List (cT), y_ = (([(⟨Dq⟩ : cT)] : List (cT))) := ⟨_, rfl⟩
 replace H : (eR.l0 k alT an) = some (r1, r2) := by subst RM; exact H
 have ZU := aa.mk RM
 clear RM
 have H' := aa.mk H
 clear H
 go_enter Tryz.func16, Tryz.ntmps16
 go_wp2_with (first | ((with_reducible refine gate_dst (N := 1) rfl ?_); refine iP 1 #[.slice bF an.length bl] 26 ?_; intro jX hg w5 hbox hb; replace mc := aa.mk (Kd.iB (Kd.nk (pF mc.out) jX (Nat.le_of_eq hg.symm)) hb); have ew := aa.mk (hbox); have alR := ij hg HB; have alS := ij hg HB; replace HB := jL HB hb; clear hb hbox hg; have lV := fG ew; have lW := af ew.out 0) | ((with_reducible refine gate_callee (f := 42) rfl ?_); refine dU (some 8) Tryz.func42 #[.agg #[.slice bF an.length bl]] ?_; (with_reducible refine (ak.calls k _ _ an true _ ?ah ?aj A2.out).mono ?_); (case ah => exact kx ((Kd.fZ mc.out).2.2)); (case aj => exact (Kd.fZ mc.out).2.1); rintro e w7 ⟨rfl, hb⟩; refine ⟨_, rfl, ?_⟩; replace mc := aa.mk (Kd.iB (pF mc.out) hb); replace ew := cn ew hb; replace HB := eM HB hb; (try clear hb); have lX := fG ew; have lY := af ew.out 0) | ((with_reducible refine gate_callee (f := 52) rfl ?_); refine dU (some 12) Tryz.func52 #[.slice bF an.length bl] ?_; (with_reducible refine (fP.calls _ _ an Dq _ ?ah ?aj A4.out).mono ?_); (case ah => exact kx ((Kd.fZ mc.out).2.2)); (case aj => exact (Kd.fZ mc.out).2.1); rintro e w9 ⟨aBD, rfl, b0, hb⟩; refine ⟨_, rfl, ?_⟩; replace mc := aa.mk (Kd.kf (pF mc.out) (Kd.cV b0) hb); have Kz := aa.mk (Kd.aW (Kd.pE (M := fun k_ => (w.heap.size ≤ k_)) b0 (ag (bC HB)) (fun k_ h_ => h_)) (ag (bC HB))); replace ew := cn ew hb; replace HB := eM HB hb; (try clear hb); (try clear b0); obtain ⟨pJ, oQ, rJ⟩ := Kd.aN Kz.out; subst rJ) | ((with_reducible refine gate_dst (N := 14) rfl ?_); refine Kd.rA ix _ 26 ?hg (N' := 14) ?hd (xs := ([(⟨Dq⟩ : cT)] : List (cT))) (inner := [.slice pJ Dq.length oQ]) (ok := (fun k_ => (mb k_ ∨ w.heap.size ≤ k_) ∧ k_ ≠ jX)) (okp := (fun k_ => (mb k_ ∨ w.heap.size ≤ k_) ∧ k_ ≠ jX)) ?hr ?hp (fun _ hk => hk) ((show ∀ k_, w9.heap.size ≤ k_ → (fun k_ => (mb k_ ∨ w.heap.size ≤ k_) ∧ k_ ≠ jX) k_ from fun k_ hk => ⟨(.inr (Nat.le_trans (ag (bC HB)) hk)), Kd.dX (g := jX) (o := .cells #[.slice bF an.length bl] 26 (0, 0)) (cC ew.out) k_ hk⟩) _ (Nat.le_refl _)) (Below.refl _ _) (Nat.le_refl _) (by simp) ?_; (case hd => rfl); (case hg => rfl); (case hr => first | (go_simp; done) | (go_simp; rfl)); (case hp => exact (bE.one (show Kd.FK ix _ _ (⟨Dq⟩ : cT) [.slice pJ Dq.length oQ] from (qI _ _ (⟨Dq⟩ : cT) (Kd.ao (Kd.bB (ok' := (fun k_ => (mb k_ ∨ w.heap.size ≤ k_) ∧ k_ ≠ jX)) (Kd.cI (Kz.out) ew.out (by decide)) (fun k_ hk => ⟨(.inr (hk.1.1)), hk.2⟩))).2.1 (Kd.XH (Kd.bB (ok' := (fun k_ => (mb k_ ∨ w.heap.size ≤ k_) ∧ k_ ≠ jX)) (Kd.cI (Kz.out) ew.out (by decide)) (fun k_ hk => ⟨(.inr (hk.1.1)), hk.2⟩))))) (bE.none _ _))); intro aBE Bn nU hb hg_ hnew_; clear hg_ hnew_; (first | rw [← ZU.out] at nU | (simp only [Int.reduceToNat] at nU; rw [← ZU.out] at nU)); replace mc := aa.mk (Kd.kf (pF mc.out) (Kd.hU nU) hb); have alU := aa.mk (Kd.im nU (ag (bC HB))); replace ew := cn ew hb; replace HB := eM HB hb; clear Kz; clear hb nU))
 go_loopg [4] k (fun kq v4 w' => ∃ (bx : List (cT)) (gC : List Int) (Dr : Value), aa (eR.l0 kq bx gC = some (r1, r2)) ∧ aa (kq ≤ k) ∧ aa (Kd.N ix 26 w' w.heap.size (fun k_ => (mb k_ ∨ w.heap.size ≤ k_) ∧ k_ ≠ jX) v4 bx) ∧ aa (Kd.V (Kd.int .i64) 3 w' w.heap.size (fun k_ => (mb k_ ∨ w.heap.size ≤ k_) ∧ some k_ ≠ (v4 : Value).ownBlock ∧ k_ ≠ jX) Dr gC) ∧ aa (w'.heap[jX]? = some (.cells #[Dr] 26 (0, 0))) ∧ aa (Below w.heap.size w w'))
 case atStart => exact ⟨(alT), (an), (.slice bF an.length bl), H', ⟨Nat.le_refl _⟩, ⟨d_ alU.out⟩, ⟨pF (Kd.je mc.out (fun _ hk => ⟨hk.1.1.1, ⟨hk.2, hk.1.1.2⟩⟩))⟩, ⟨cC ew.out⟩, ⟨bC HB⟩⟩
 case round =>
  clear H'
  try clear lV
  try clear lX
  try clear lW
  try clear lY
  obtain ⟨bx, gC, Dr, HA, fu, bJ, dA, ew, HB⟩ := hrel
  cases gk with
  | zero => exact absurd HA.out (by simp [eR.l0])
  | succ k1 =>
   have H := HA.out
   clear HA
   simp only [eR.l0] at H
   obtain ⟨Fg, Wl, H⟩ := eA H
   by_cases mG : Fg > 0
   rotate_left
   · rw [if_neg mG] at H
     have jQ : decide (0 < Fg) = false := decide_eq_false mG
     clear mG
     obtain ⟨_, A41, H⟩ := eA H
     simp only [Option.some.injEq, Prod.mk.injEq] at H
     obtain ⟨rfl, rfl⟩ := H
     have Vn := fG ew
     have Vo := af ew.out 0
     obtain ⟨Mm, H9, adR⟩ := Kd.Cw dA.out
     subst adR
     go_wp2_with (first | ((with_reducible refine gate_callee (f := 53) rfl ?_); refine dU (some 16) Tryz.func53 #[.agg #[.slice Mm gC.length H9]] ?_; (with_reducible refine (ff.calls k1 _ _ gC Fg _ ?ah ?aj Wl.out).mono ?_); (case ah => exact kx ((Kd.fZ dA.out).2.2)); (case aj => exact (Kd.fZ dA.out).2.1); rintro e w44 ⟨rfl, hb⟩; refine ⟨_, rfl, ?_⟩; replace bJ := aa.mk (Kd.bM (d_ bJ.out) hb); replace dA := aa.mk (Kd.iB (pF dA.out) hb); replace ew := cn ew hb; replace HB := eM HB hb; (try clear hb); obtain ⟨Vc, Vd, acM⟩ := Kd.gw bJ.out; subst acM) | ((with_reducible refine gate_callee (f := 54) rfl ?_); refine dU (some 31) Tryz.func54 #[.slice Vc bx.length Vd] ?_; (with_reducible refine (ma.calls _ _ bx w.heap.size (fun k_ => (mb k_ ∨ w.heap.size ≤ k_) ∧ k_ ≠ jX) w _ ?hN_ ?hL_ ?hB_ ?hs_).mono ?_); (case hN_ => (with_reducible repeat (first | apply Kd.Uf | apply Kd.Ug | apply Kd.lN)); exact bJ.out); (case hL_ => exact IC bJ.out); (case hB_ => exact (bC HB)); (case hs_ => exact ag (bC HB)); rintro e w' ⟨rfl, hn_, hb_⟩; refine ⟨_, rfl, ?_⟩; clear HB bJ; have bJ := aa.mk hn_; have HB := aa.mk hb_; clear hn_ hb_))
     go_ret2
     exact ⟨_, rfl, Kd.bU bJ.out (fun _ hk => hk.1), HB.out⟩
   rw [if_pos mG] at H
   have jQ : decide (0 < Fg) = true := decide_eq_true mG
   clear mG
   obtain ⟨⟨oV, ato⟩, A15, H⟩ := eA H
   (try dsimp only at H)
   by_cases rI : ato = true
   rotate_left
   · replace rI := Bool.eq_false_iff.mpr rI
     subst rI
     rw [if_neg (show ¬ (false = true) by decide)] at H
     simp only [Option.some.injEq, Prod.mk.injEq] at H
     obtain ⟨rfl, rfl⟩ := H
     have Dc := fG ew
     have Dd := af ew.out 0
     obtain ⟨Pg, Ph, L5⟩ := Kd.Cw dA.out
     subst L5
     go_wp2_with (first | ((with_reducible refine gate_callee (f := 53) rfl ?_); refine dU (some 16) Tryz.func53 #[.agg #[.slice Pg gC.length Ph]] ?_; (with_reducible refine (ff.calls k1 _ _ gC Fg _ ?ah ?aj Wl.out).mono ?_); (case ah => exact kx ((Kd.fZ dA.out).2.2)); (case aj => exact (Kd.fZ dA.out).2.1); rintro e PX ⟨rfl, hb⟩; refine ⟨_, rfl, ?_⟩; replace bJ := aa.mk (Kd.bM (d_ bJ.out) hb); replace dA := aa.mk (Kd.iB (pF dA.out) hb); replace ew := cn ew hb; replace HB := eM HB hb; (try clear hb); have VX := fG ew; have VY := af ew.out 0) | ((with_reducible refine gate_callee (f := 7) rfl ?_); refine dU (some 20) Tryz.func7 #[.agg #[.slice Pg gC.length Ph]] ?_; (with_reducible refine (fQ.calls k1 _ _ gC oV false _ ?ah ?aj A15.out).mono ?_); (case ah => exact kx ((Kd.fZ dA.out).2.2)); (case aj => exact (Kd.fZ dA.out).2.1); rintro e w36 ⟨atp, rfl, b0, hb⟩; refine ⟨_, rfl, ?_⟩; replace bJ := aa.mk (Kd.dP (d_ bJ.out) (Kd.cV b0) hb); replace dA := aa.mk (Kd.kf (pF dA.out) (Kd.cV b0) hb); have pj := aa.mk (Kd.aW (Kd.pE (M := fun k_ => (w.heap.size ≤ k_)) b0 (ag (bC HB)) (fun k_ h_ => h_)) (ag (bC HB))); replace ew := cn ew hb; replace HB := eM HB hb; (try clear hb); (try clear b0)) | ((with_reducible refine gate_dst (N := 5) rfl ?_); refine iP 5 #[.slice none 0 0] 26 ?_; intro lD hg w37 hbox hb; replace bJ := aa.mk (Kd.bM (Kd.ky (d_ bJ.out) lD (Nat.le_of_eq hg.symm)) hb); replace dA := aa.mk (Kd.iB (Kd.nk (pF dA.out) lD (Nat.le_of_eq hg.symm)) hb); replace pj := aa.mk (Kd.aY (b9 pj.out) hb); have me := aa.mk (hbox); have alV := kW hg (bC HB); have alW := kW hg (bC HB); replace HB := eM HB hb; have wo := mw hg ew; have wu := my hg ew; replace ew := cn ew hb; clear hb hbox hg; obtain ⟨aBG, aBH, atq⟩ := Kd.aN pj.out; subst atq; have axE := wu.out; have axF := wo.out; have Vp := fG me; have Vq := af me.out 0))
     go_ret2
     exact ⟨_, ig, by first | exact Kd.mD _ _ _ _ _ | exact Kd.mE _ _ _ _ _ | exact Kd.mF _ _ _ _ _ | exact Kd.mC _ _ _ _ _ | exact Kd.kQ _ _ _ _ _, bC HB⟩
   subst rI
   rw [if_pos rfl] at H
   obtain ⟨oN, H⟩ := kG H
   have Rx := aa.mk oN
   clear oN
   obtain ⟨alX, RN⟩ : ∃ y_ : List (cT), y_ = (bx ++ [(⟨oV⟩ : cT)]) := ⟨_, rfl⟩
   replace H : (eR.l0 k1 alX oV) = some (r1, r2) := by subst RN; exact H
   have alY := aa.mk RN
   clear RN
   have H' := aa.mk H
   clear H
   have yd := fG ew
   have ye := af ew.out 0
   obtain ⟨eT, eI, LR⟩ := Kd.Cw dA.out
   subst LR
   go_wp2_with (first | ((with_reducible refine gate_callee (f := 53) rfl ?_); refine dU (some 16) Tryz.func53 #[.agg #[.slice eT gC.length eI]] ?_; (with_reducible refine (ff.calls k1 _ _ gC Fg _ ?ah ?aj Wl.out).mono ?_); (case ah => exact kx ((Kd.fZ dA.out).2.2)); (case aj => exact (Kd.fZ dA.out).2.1); rintro e UB ⟨rfl, hb⟩; refine ⟨_, rfl, ?_⟩; replace bJ := aa.mk (Kd.bM (d_ bJ.out) hb); replace dA := aa.mk (Kd.iB (pF dA.out) hb); replace ew := cn ew hb; replace HB := eM HB hb; (try clear hb); have Jx := fG ew; have Jy := af ew.out 0) | ((with_reducible refine gate_callee (f := 7) rfl ?_); refine dU (some 20) Tryz.func7 #[.agg #[.slice eT gC.length eI]] ?_; (with_reducible refine (fQ.calls k1 _ _ gC oV true _ ?ah ?aj A15.out).mono ?_); (case ah => exact kx ((Kd.fZ dA.out).2.2)); (case aj => exact (Kd.fZ dA.out).2.1); rintro e DT ⟨atp, rfl, b0, hb⟩; refine ⟨_, rfl, ?_⟩; replace bJ := aa.mk (Kd.dP (d_ bJ.out) (Kd.cV b0) hb); replace dA := aa.mk (Kd.kf (pF dA.out) (Kd.cV b0) hb); have pj := aa.mk (Kd.aW (Kd.pE (M := fun k_ => (w.heap.size ≤ k_)) b0 (ag (bC HB)) (fun k_ h_ => h_)) (ag (bC HB))); replace ew := cn ew hb; replace HB := eM HB hb; (try clear hb); (try clear b0)) | ((with_reducible refine gate_dst (N := 5) rfl ?_); refine iP 5 #[.slice none 0 0] 26 ?_; intro lD hg xV hbox hb; replace bJ := aa.mk (Kd.bM (Kd.ky (d_ bJ.out) lD (Nat.le_of_eq hg.symm)) hb); replace dA := aa.mk (Kd.iB (Kd.nk (pF dA.out) lD (Nat.le_of_eq hg.symm)) hb); replace pj := aa.mk (Kd.aY (b9 pj.out) hb); have me := aa.mk (hbox); have alV := kW hg (bC HB); have alW := kW hg (bC HB); replace HB := eM HB hb; have wo := mw hg ew; have wu := my hg ew; replace ew := cn ew hb; clear hb hbox hg; obtain ⟨kL, kM, zb⟩ := Kd.aN pj.out; subst zb; have axG := wu.out; have axH := wo.out; have KA := fG me; have KB := af me.out 0) | ((with_reducible refine gate_store (t := 26) (p := 5) rfl ?_); refine fw (t := 26) (p := 5) (v := ?atr) (w1 := (xV.setCell ⟨lD, 0, none⟩ (.slice kL oV.length kM))) ?hg ?ho ?hn ?hr ?_; (case ho => rfl); (case hg => rfl); (case hn => rfl); (case hr => first | (go_simp; done) | (go_simp; rfl)); intro TL hw; have n5 : aa (Kd.N ix 26 TL w.heap.size (fun k_ => (mb k_ ∨ w.heap.size ≤ k_) ∧ some k_ ≠ (.slice kL oV.length kM : Value).ownBlock ∧ k_ ≠ jX ∧ k_ ≠ lD) u4 bx) := ⟨(by rw [hw]; exact (d_ (Kd.bU (Kd.q8 (p := ⟨lD, 0, none⟩) (Kd.bU bJ.out (fun k_ hk => (⟨hk, hk.2⟩ : _ ∧ k_ ≠ lD))) (fun _ hk => hk.2) (.slice kL oV.length kM)) (fun _ hk => ⟨hk.1.1.1.1, ⟨hk.1.1.2, ⟨hk.1.1.1.2, hk.1.2⟩⟩⟩))))⟩; have n9 : aa (Kd.V (Kd.int .i64) 3 TL w.heap.size (fun k_ => (mb k_ ∨ w.heap.size ≤ k_) ∧ some k_ ≠ (u4 : Value).ownBlock ∧ some k_ ≠ (.slice kL oV.length kM : Value).ownBlock ∧ k_ ≠ jX ∧ k_ ≠ lD) (.slice eT gC.length eI) gC) := ⟨(by rw [hw]; exact (pF (Kd.je (Kd.yN (p := ⟨lD, 0, none⟩) (Kd.je dA.out (fun k_ hk => (⟨hk, hk.2⟩ : _ ∧ k_ ≠ lD))) (fun _ hk => hk.2) (.slice kL oV.length kM)) (fun _ hk => ⟨hk.1.1.1.1, ⟨hk.1.1.1.2.1, ⟨hk.1.1.2, ⟨hk.1.1.1.2.2, hk.1.2⟩⟩⟩⟩))))⟩; have rp : aa (Kd.R (Kd.int .i64) 3 TL w.heap.size (fun k_ => (w.heap.size ≤ k_)) (.slice kL oV.length kM) oV) := ⟨(by rw [hw]; exact (by (with_reducible repeat (first | apply Kd.bQ | apply Kd.bT | apply Kd.bR)); exact Kd.bB (Kd.iJ (p := ⟨lD, 0, none⟩) (Kd.cI pj.out me.out (by decide)) (fun _ hk => hk.2) (.slice kL oV.length kM)) (fun _ hk => hk.1.1)))⟩; have rq : aa (TL.heap[jX]? = some (.cells #[.slice eT gC.length eI] 26 (0, 0))) := ⟨(by rw [hw]; exact (pB ew))⟩; have ti : aa (TL.heap[lD]? = some (.cells #[.slice kL oV.length kM] 26 (0, 0))) := ⟨(by rw [hw]; exact (mz me))⟩; have zH : aa (Below w.heap.size w TL) := ⟨(by rw [hw]; exact (bC HB))⟩; clear hw; clear bJ; clear dA; clear pj; clear ew; clear me; clear HB; have bJ := n5; have dA := n9; have pj := rp; have ew := rq; have me := ti; have HB := zH; clear n5 n9 rp rq ti zH; have yb := fG me; have yc := af me.out 0) | ((with_reducible refine gate_builtin (b := .append) (xs := #[.tmp 25, .tmp 27]) rfl ?_); at_builtin; refine Kd.NJ ix (w0 := w) w.heap.size rfl (.tmp 25) (.tmp 27) 30 26 (.agg #[(.slice none 0 0)]) 24 rfl Tryz.underlying30 pG rfl (by decide) (by omega) u4 bx (⟨oV⟩ : cT) [.slice kL oV.length kM] (fun k_ => (mb k_ ∨ w.heap.size ≤ k_) ∧ k_ ≠ jX ∧ k_ ≠ lD) (fun k_ => ((fun k_ => (mb k_ ∨ w.heap.size ≤ k_) ∧ k_ ≠ jX ∧ k_ ≠ lD)) k_ ∧ some k_ ≠ (u4 : Value).ownBlock) rfl rfl ?aP (fun _ hk => hk) ?aF ?aO ?aB ?aS ?aL ?_; (case aP => exact (qI _ _ (⟨oV⟩ : cT) (Kd.ao (Kd.bB (ok' := (fun k_ => ((fun k_ => (mb k_ ∨ w.heap.size ≤ k_) ∧ k_ ≠ jX ∧ k_ ≠ lD)) k_ ∧ some k_ ≠ (u4 : Value).ownBlock)) (Kd.cI (Kd.cI (Kd.lJ (pj.out) (Kd.dF bJ.out) (by decide)) ew.out (by decide)) me.out (by decide)) (fun k_ hk => ⟨⟨(.inr (hk.1.1.1)), ⟨hk.1.2, hk.2⟩⟩, hk.1.1.2⟩))).2.1 (Kd.XH (Kd.bB (ok' := (fun k_ => ((fun k_ => (mb k_ ∨ w.heap.size ≤ k_) ∧ k_ ≠ jX ∧ k_ ≠ lD)) k_ ∧ some k_ ≠ (u4 : Value).ownBlock)) (Kd.cI (Kd.cI (Kd.lJ (pj.out) (Kd.dF bJ.out) (by decide)) ew.out (by decide)) me.out (by decide)) (fun k_ hk => ⟨⟨(.inr (hk.1.1.1)), ⟨hk.1.2, hk.2⟩⟩, hk.1.1.2⟩))))); (case aB => exact (bC HB)); (case aF => exact (fun k_ hk => ⟨(.inr (Nat.le_trans (ag (bC HB)) hk)), Kd.dX (g := jX) (o := .cells #[.slice eT gC.length eI] 26 (0, 0)) (cC ew.out) k_ hk, Kd.dX (g := lD) (o := .cells #[.slice kL oV.length kM] 26 (0, 0)) (cC me.out) k_ hk⟩)); (case aO => exact (d_ (Kd.bU bJ.out (fun _ hk => ⟨hk.1, ⟨hk.2.2.1, hk.2.2.2⟩⟩)))); (case aS => exact (ag (bC HB))); (case aL => have := Rx.out; omega); intro aBI w29 ho hb hg hat; rw [← alY.out] at ho; have n5 := aa.mk (Kd.pV (ok := (fun k_ => (mb k_ ∨ w.heap.size ≤ k_) ∧ some k_ ≠ (.slice kL oV.length kM : Value).ownBlock ∧ k_ ≠ jX ∧ k_ ≠ lD)) (pF (Kd.je dA.out (fun _ hk => ⟨⟨hk.1, ⟨hk.2.2.1, ⟨hk.2.2.2.1, hk.2.2.2.2⟩⟩⟩, hk.2.1⟩))) hg hat); have n9 := aa.mk (cS (cC ew.out) hg (Kd.tH bJ.out (fun _ hk => hk.2.2.1))); have rp := aa.mk (cS (cC me.out) hg (Kd.tH bJ.out (fun _ hk => hk.2.2.2))); have rq := aa.mk (hb); have ti := aa.mk (ho); have nr_ := aa.mk (Kd.pV (ok := (fun k_ => (mb k_ ∨ w.heap.size ≤ k_) ∧ k_ ≠ jX)) (Kd.je (Kd.R_V (base' := w.heap.size) (Kd.cI (Kd.lJ (pj.out) (Kd.dF bJ.out) (by decide)) ew.out (by decide))) (fun k_ hk => ⟨⟨(.inr (hk.1.1)), hk.2⟩, hk.1.2⟩)) hg hat); clear dA; clear ew; clear me; clear HB; clear bJ; clear pj; have HV_ := nr_; clear nr_; have dA := n5; have ew := n9; have me := rp; have HB := rq; have alZ := ti; clear n5 n9 rp rq ti; clear ho hb hg hat; have VZ := fG me; have V0 := af me.out 0; have ao6 := fG ew; have ao7 := af ew.out 0))
   go_roundg k1
   case measure => have := fu.out; omega
   case rel => exact ⟨(alX), (oV), (.slice kL oV.length kM), H', ⟨by have := fu.out; omega⟩, ⟨d_ (Kd.bU (Kd.q8 (p := ⟨jX, 0, none⟩) (Kd.bU alZ.out (fun k_ hk => (⟨hk, hk.2.1⟩ : _ ∧ k_ ≠ jX))) (fun _ hk => hk.2) (.slice kL oV.length kM)) (fun _ hk => ⟨hk.1.1, hk.1.2.1⟩))⟩, ⟨Kd.je (Kd.yN (p := ⟨jX, 0, none⟩) HV_.out (fun _ hk => hk.1.2) (.slice kL oV.length kM)) (fun k_ hk => ⟨hk.1.1, ⟨hk.2, hk.1.2⟩⟩)⟩, ⟨mz ew⟩, ⟨bC HB⟩⟩
def iW.f (an : List Int) : Option (List Int) := (some (([] : List Int) : List Int)).bind fun ID => (if ID.length + an.length < 17592186044416 then (some (ID ++ an)) else (none))
theorem iW.calls (bF : Option Addr) (bl : Nat) (an : List Int) (r : List Int) (w : World) (eB : Kd.C (Kd.int .i64) w bF an.length an) (eC : an.length ≤ bl) (h : iW.f an = some r) :
 Calls Tryz.prog 55 #[.agg #[.slice bF an.length bl]] w fun e w' => ∃ jf : Value, e = .returned (.agg #[jf]) ∧ Kd.R (Kd.int .i64) 3 w' w.heap.size (fun _ => True) jf r ∧ Below w.heap.size w w' := by
 have kJ := Tryz.underlying26
 have bV := aa.mk eB
 have cH := aa.mk eC
 clear eB eC
 have HB := aa.mk (Below.refl w.heap.size w)
 have H := h
 clear h
 unfold iW.f at H
 obtain ⟨ID, RO⟩ : ∃ y_ : List Int, y_ = (([] : List Int)) := ⟨_, rfl⟩
 replace H : (if ID.length + an.length < 17592186044416 then (some (ID ++ an)) else (none)) = some r := by subst RO; exact H
 have ZV := aa.mk RO
 clear RO
 obtain ⟨c2, H⟩ := kG H
 have aet := aa.mk c2
 clear c2
 obtain ⟨aev, RP⟩ : ∃ y_ : List Int, y_ = (ID ++ an) := ⟨_, rfl⟩
 replace H : (some aev) = some r := by subst RP; exact H
 have al0 := aa.mk RP
 clear RP
 obtain rfl := Option.some.inj H
 go_enter Tryz.func55, Tryz.ntmps55
 go_wp2_with (first | ((with_reducible refine gate_dst (N := 1) rfl ?_); refine iP 1 #[.slice bF an.length bl] 26 ?_; intro axI hg w3 hbox hb; have r6 := aa.mk (hbox); have axJ := ij hg HB; have axK := ij hg HB; replace HB := jL HB hb; clear hb hbox hg) | ((with_reducible refine gate_dst (N := 2) rfl ?_); refine iP 2 #[.slice none 0 0] 26 ?_; intro ZW hg w4 hbox hb; have uV := aa.mk (hbox); have axL := kW hg (bC HB); have axM := kW hg (bC HB); replace HB := eM HB hb; have MJ := mw hg r6; have MK := my hg r6; replace r6 := cn r6 hb; clear hb hbox hg) | ((with_reducible refine gate_dst (N := 3) rfl ?_); refine Kd.iK (Kd.int .i64) _ 3 ?hg (N := 3) ?hd (xs := ([] : List Int)) (inner := []) (ok := fun _ => True) (okp := fun _ => True) ?hr ?hp (fun _ hk => hk) trivial (Below.refl _ _) (Nat.le_refl _) (by simp) ?_; (case hd => rfl); (case hg => rfl); (case hr => first | (go_simp; done) | (go_simp; rfl)); (case hp => exact (bE.none _ _)); intro att w5 pX hb hg_ hnew_; clear hg_ hnew_; (first | rw [← ZV.out] at pX | (simp only [Int.reduceToNat] at pX; rw [← ZV.out] at pX)); have KC := aa.mk (Kd.aW pX (ag (bC HB))); replace r6 := cn r6 hb; replace uV := cn uV hb; replace HB := eM HB hb; clear hb pX; have ajf := MJ.out; have ajg := MK.out; have lX := fG r6; have lY := af r6.out 0) | ((with_reducible refine gate_builtin (b := .append) (xs := #[.tmp 3, .tmp 5]) rfl ?_); at_builtin; refine Kd.kn (Kd.int .i64) (w0 := w) w.heap.size rfl (.tmp 3) (.tmp 5) 24 3 (.int .i64 0) 8 rfl Tryz.underlying24 iS rfl (by decide) (by omega) att ID an _ _ _ (fun _ => True) (fun _ => False) rfl rfl ?aO ?aR (fun _ _ h => h) (fun _ h => h.elim) ?aF ?aB ?aS ?aL ?_; (case aR => exact iZ bV HB); (case aB => exact (bC HB)); (case aF => exact (fun _ _ => trivial)); (case aO => exact (b9 KC.out)); (case aS => exact (ag (bC HB))); (case aL => have := aet.out; omega); intro aBJ w9 ho hb hg hat; rw [← al0.out] at ho; replace r6 := aa.mk (cS (cC r6.out) hg (Kd.nR KC.out r6.out (by decide))); replace uV := aa.mk (cS (cC uV.out) hg (Kd.nR KC.out uV.out (by decide))); replace HB := aa.mk (hb); have ZX := aa.mk (ho); clear KC; clear ho hb hg hat; obtain ⟨pJ, oQ, rJ⟩ := Kd.aN ZX.out; subst rJ; have uK := fG uV; have uL := af uV.out 0))
 refine bodyPost_ret (results_cell_row rfl _ _ ZW 26 #[.slice pJ aev.length oQ] (0, 0) _ rfl (mz uV) Tryz.underlying26 rfl (by kernel_rfl)) rfl ?_
 exact ⟨_, ig, by (with_reducible repeat (first | apply Kd.bQ | apply Kd.bT | apply Kd.bR)); exact Kd.bB (Kd.iJ (p := ⟨ZW, 0, none⟩) (Kd.cI ZX.out uV.out (by decide)) (fun _ hk => hk.2) (.slice pJ aev.length oQ)) (fun _ hk => trivial), bC HB⟩
mutual
def cY.l0 : Nat → List (cT) → Option ((List (cT)) × Bool)
 | 0, _ => none
 | k + 1, x4 => if 0 < (x4.length : Int) then ((iu.f k ((cG x4 0).f0)).bind fun Fh => (if Fh.2 = true then (cY.j1 k x4 Fh.2 false Fh.1) else ((dj.f k ((cG x4 0).f0)).bind fun Wr => (cY.j1 k x4 Fh.2 (decide (Wr ≥ 0)) Fh.1)))) else (none)
def cY.j1 : Nat → List (cT) → Bool → Bool → List Int → Option ((List (cT)) × Bool)
 | 0, _, _, _, _ => none
 | k + 1, x4, x6, GM, Ws => if GM = true then (some ((([] : List (cT))), false)) else (if x6 = true then ((some (([(⟨Ws⟩ : cT)] : List (cT)) : List (cT))).bind fun IE => (if IE.length + x4.length < 5864062014805 then (cY.l0 k (IE ++ x4)) else (none))) else (some (x4, true)))
end
def cY.f (k : Nat) (an : List Int) : Option ((List (cT)) × Bool) := (aA.f k an).bind fun aew => (if aew = true then ((iW.f an).bind fun Ds => (cY.l0 k (([(⟨Ds⟩ : cT)] : List (cT))))) else (some ((([] : List (cT))), false)))
theorem IF {W w3 ws : World} {g : Nat} {v : Value} (hb : Below W.heap.size W w3) (hg : W.heap.size ≤ g) (hw : ws = w3.setCell ⟨g, 0, none⟩ v) : Below W.heap.size W ws := by rw [hw]; exact hb.setCell hg _
theorem cY.calls (k : Nat) (bF : Option Addr) (bl : Nat) (an : List Int) (r1 : List (cT)) (r2 : Bool) (w : World) (eB : Kd.C (Kd.int .i64) w bF an.length an) (eC : an.length ≤ bl) (h : cY.f k an = some (r1, r2)) :
 Calls Tryz.prog 17 #[.agg #[.slice bF an.length bl]] w fun e w' => ∃ jf : Value, e = .returned (.tuple #[jf, .bool r2]) ∧ Kd.N ix 26 w' w.heap.size (fun k_ => (w.heap.size ≤ k_)) jf r1 ∧ Below w.heap.size w w' := by
 have kJ := Tryz.underlying26
 have bV := aa.mk eB
 have cH := aa.mk eC
 clear eB eC
 have HB := aa.mk (Below.refl w.heap.size w)
 have H := h
 clear h
 unfold cY.f at H
 obtain ⟨aew, A2, H⟩ := eA H
 by_cases c3 : aew = true
 rotate_left
 · replace c3 := Bool.eq_false_iff.mpr c3
   subst c3
   rw [if_neg (show ¬ (false = true) by decide)] at H
   obtain ⟨atu, RQ⟩ : ∃ y_ : List (cT), y_ = (([] : List (cT))) := ⟨_, rfl⟩
   replace H : (some (atu, false)) = some (r1, r2) := by subst RQ; exact H
   have ZY := aa.mk RQ
   clear RQ
   simp only [Option.some.injEq, Prod.mk.injEq] at H
   obtain ⟨rfl, rfl⟩ := H
   go_enter Tryz.func17, Tryz.ntmps17
   go_wp2_with (first | ((with_reducible refine gate_dst (N := 1) rfl ?_); refine iP 1 #[.slice bF an.length bl] 26 ?_; intro jl hg XO hbox hb; have fV := aa.mk (hbox); have al1 := ij hg HB; have al2 := ij hg HB; replace HB := jL HB hb; clear hb hbox hg; have JQ := fG fV; have JR := af fV.out 0) | ((with_reducible refine gate_callee (f := 45) rfl ?_); refine dU (some 8) Tryz.func45 #[.agg #[.slice bF an.length bl]] ?_; (with_reducible refine (aA.calls k _ _ an false _ ?ah ?aj A2.out).mono ?_); (case ah => exact iZ bV HB); (case aj => exact cH.out); rintro e w35 ⟨rfl, hb⟩; refine ⟨_, rfl, ?_⟩; replace fV := cn fV hb; replace HB := eM HB hb; (try clear hb)) | ((with_reducible refine gate_dst (N := 10) rfl ?_); refine Kd.rA ix _ 26 ?hg (N' := 10) ?hd (xs := ([] : List (cT))) (inner := []) (ok := (fun k_ => (w.heap.size ≤ k_) ∧ k_ ≠ jl)) (okp := (fun k_ => (w.heap.size ≤ k_) ∧ k_ ≠ jl)) ?hr ?hp (fun _ hk => hk) ((show ∀ k_, w35.heap.size ≤ k_ → (fun k_ => (w.heap.size ≤ k_) ∧ k_ ≠ jl) k_ from fun k_ hk => ⟨(Nat.le_trans (ag (bC HB)) hk), Kd.dX (g := jl) (o := .cells #[.slice bF an.length bl] 26 (0, 0)) (cC fV.out) k_ hk⟩) _ (Nat.le_refl _)) (Below.refl _ _) (Nat.le_refl _) (by simp) ?_; (case hd => rfl); (case hg => rfl); (case hr => first | (go_simp; done) | (go_simp; rfl)); (case hp => exact (bE.none _ _)); intro aBK w36 RR hb hg_ hnew_; clear hg_ hnew_; (first | rw [← ZY.out] at RR | (simp only [Int.reduceToNat] at RR; rw [← ZY.out] at RR)); have al3 := aa.mk (Kd.im RR (ag (bC HB))); replace fV := cn fV hb; replace HB := eM HB hb; clear hb RR))
   go_ret2
   exact ⟨_, ig, d_ (Kd.bU al3.out (fun _ hk => hk.1)), bC HB⟩
 subst c3
 rw [if_pos rfl] at H
 obtain ⟨Ds, A4, H⟩ := eA H
 obtain ⟨al4, RS⟩ : ∃ y_ : List (cT), y_ = (([(⟨Ds⟩ : cT)] : List (cT))) := ⟨_, rfl⟩
 replace H : (cY.l0 k al4) = some (r1, r2) := by subst RS; exact H
 have ZZ := aa.mk RS
 clear RS
 have H' := aa.mk H
 clear H
 go_enter Tryz.func17, Tryz.ntmps17
 go_wp2_with (first | ((with_reducible refine gate_dst (N := 1) rfl ?_); refine iP 1 #[.slice bF an.length bl] 26 ?_; intro jl hg w5 hbox hb; have fV := aa.mk (hbox); have al1 := ij hg HB; have al2 := ij hg HB; replace HB := jL HB hb; clear hb hbox hg; have lV := fG fV; have lW := af fV.out 0) | ((with_reducible refine gate_callee (f := 45) rfl ?_); refine dU (some 8) Tryz.func45 #[.agg #[.slice bF an.length bl]] ?_; (with_reducible refine (aA.calls k _ _ an true _ ?ah ?aj A2.out).mono ?_); (case ah => exact iZ bV HB); (case aj => exact cH.out); rintro e w7 ⟨rfl, hb⟩; refine ⟨_, rfl, ?_⟩; replace fV := cn fV hb; replace HB := eM HB hb; (try clear hb); have lX := fG fV; have lY := af fV.out 0) | ((with_reducible refine gate_callee (f := 55) rfl ?_); refine dU (some 12) Tryz.func55 #[.agg #[.slice bF an.length bl]] ?_; (with_reducible refine (iW.calls _ _ an Ds _ ?ah ?aj A4.out).mono ?_); (case ah => exact iZ bV HB); (case aj => exact cH.out); rintro e w9 ⟨aBL, rfl, b0, hb⟩; refine ⟨_, rfl, ?_⟩; have KD := aa.mk (Kd.aW (Kd.pE (M := fun k_ => (w.heap.size ≤ k_)) b0 (ag (bC HB)) (fun k_ h_ => h_)) (ag (bC HB))); replace fV := cn fV hb; replace HB := eM HB hb; (try clear hb); (try clear b0); obtain ⟨pJ, oQ, rJ⟩ := Kd.aN KD.out; subst rJ) | ((with_reducible refine gate_dst (N := 13) rfl ?_); refine Kd.rA ix _ 26 ?hg (N' := 13) ?hd (xs := ([(⟨Ds⟩ : cT)] : List (cT))) (inner := [.slice pJ Ds.length oQ]) (ok := (fun k_ => (w.heap.size ≤ k_) ∧ k_ ≠ jl)) (okp := (fun k_ => (w.heap.size ≤ k_) ∧ k_ ≠ jl)) ?hr ?hp (fun _ hk => hk) ((show ∀ k_, w9.heap.size ≤ k_ → (fun k_ => (w.heap.size ≤ k_) ∧ k_ ≠ jl) k_ from fun k_ hk => ⟨(Nat.le_trans (ag (bC HB)) hk), Kd.dX (g := jl) (o := .cells #[.slice bF an.length bl] 26 (0, 0)) (cC fV.out) k_ hk⟩) _ (Nat.le_refl _)) (Below.refl _ _) (Nat.le_refl _) (by simp) ?_; (case hd => rfl); (case hg => rfl); (case hr => first | (go_simp; done) | (go_simp; rfl)); (case hp => exact (bE.one (show Kd.FK ix _ _ (⟨Ds⟩ : cT) [.slice pJ Ds.length oQ] from (qI _ _ (⟨Ds⟩ : cT) (Kd.ao (Kd.bB (ok' := (fun k_ => (w.heap.size ≤ k_) ∧ k_ ≠ jl)) (Kd.cI (KD.out) fV.out (by decide)) (fun k_ hk => ⟨hk.1.1, hk.2⟩))).2.1 (Kd.XH (Kd.bB (ok' := (fun k_ => (w.heap.size ≤ k_) ∧ k_ ≠ jl)) (Kd.cI (KD.out) fV.out (by decide)) (fun k_ hk => ⟨hk.1.1, hk.2⟩))))) (bE.none _ _))); intro aBM Bn nU hb hg_ hnew_; clear hg_ hnew_; (first | rw [← ZZ.out] at nU | (simp only [Int.reduceToNat] at nU; rw [← ZZ.out] at nU)); have al5 := aa.mk (Kd.im nU (ag (bC HB))); replace fV := cn fV hb; replace HB := eM HB hb; clear KD; clear hb nU))
 go_loopg [4] k (fun kq v4 w' => ∃ (bx : List (cT)), aa (cY.l0 kq bx = some (r1, r2)) ∧ aa (kq ≤ k) ∧ aa (Kd.N ix 26 w' w.heap.size (fun k_ => (w.heap.size ≤ k_) ∧ k_ ≠ jl) v4 bx) ∧ aa (w'.heap[jl]? = some (.cells #[(.slice bF an.length bl)] 26 (0, 0))) ∧ aa (Below w.heap.size w w'))
 case atStart => exact ⟨(al4), H', ⟨Nat.le_refl _⟩, ⟨d_ al5.out⟩, ⟨cC fV.out⟩, ⟨bC HB⟩⟩
 case round =>
  clear H'
  try clear lV
  try clear lX
  try clear lW
  try clear lY
  obtain ⟨bx, HA, fu, bJ, fV, HB⟩ := hrel
  cases gk with
  | zero => exact absurd HA.out (by simp [cY.l0])
  | succ k1 =>
   have H := HA.out
   clear HA
   simp only [cY.l0] at H
   obtain ⟨mY, H⟩ := kG H
   have lS : decide (0 < (bx.length : Int)) = true := decide_eq_true mY
   have EE : decide (0 < bx.length) = true := decide_eq_true (by omega)
   clear mY
   obtain ⟨⟨oW, Wt⟩, A14, H⟩ := eA H
   (try dsimp only at H)
   have aex := aa.mk H
   clear H
   obtain ⟨aba, ur, AT⟩ := Kd.gw bJ.out
   subst AT
   have RT : 0 ≤ (0 : Int) := (by omega)
   have RU : 0 < (bx.length : Int) := bO
   obtain ⟨tB, RV, aey, atv, yj, KE, KF⟩ := mP (Kd.ei bJ.out).2.2 0 RT RU
   cases atv
   obtain ⟨axN, aez, aeA, RW⟩ := Kd.wG bJ.out z26 0 RT (by first | exact RU | exact bO | (have e_ := (Kd.ei bJ.out).1; omega))
   obtain ⟨ao8, ao9, rfl, Dt, Du⟩ := jP aeA
   have yk := RW 0 _ rfl
   rw [Nat.add_zero, show (ix).sz = 1 from rfl, Nat.mul_one] at yk
   replace yk := Option.some.inj (yk.symm.trans yj)
   injection yk with hva_ hvn_ hvc_
   rw [hva_] at Du
   rw [hvc_] at Dt
   have tb := aa.mk (show Kd.V (Kd.int .i64) 3 _ w.heap.size _ _ ((cG bx 0).f0) from Kd.yM Dt Du)
   clear hva_ hvn_ hvc_ Du Dt
   clear RW aez
   have axO : (0 < bx.length) = True := eq_true (by omega)
   (try rw [show ((0 : Int)).toNat = 0 from rfl] at yj)
   (try rw [Addr.add_zero'] at yj)
   have gW := aa.mk KF
   have Wu := aa.mk KE
   clear KF KE
   replace RT := eq_true RT
   replace RU := eq_true RU
   go_upto_region 5 with (first | ((with_reducible refine gate_callee (f := 8) rfl ?_); refine dU (some 18) Tryz.func8 #[.agg #[.slice RV ((cG bx 0).f0).length aey]] ?_; (with_reducible refine (iu.calls k1 _ _ ((cG bx 0).f0) oW Wt _ ?ah ?aj A14.out).mono ?_); (case ah => repeat (first | exact (by repeat (first | (with_reducible exact gW.out) | (with_reducible refine Kd.cz ?_ _) | (with_reducible refine Kd.cA ?_ _) | (with_reducible refine Kd.di ?_) | exact gW.out)) | (with_reducible refine Kd.cz ?_ _) | (with_reducible refine Kd.cA ?_ _) | (with_reducible refine Kd.di ?_))); (case aj => exact Wu.out); rintro e LN ⟨aBN, rfl, b0, hb⟩; refine ⟨_, rfl, ?_⟩; replace bJ := aa.mk (Kd.dP (d_ bJ.out) (Kd.cV b0) hb); replace tb := aa.mk (Kd.kf (pF tb.out) (Kd.cV b0) hb); have zU := aa.mk (Kd.aW (Kd.pE (M := fun k_ => (w.heap.size ≤ k_)) b0 (ag (bC HB)) (fun k_ h_ => h_)) (ag (bC HB))); replace fV := cn fV hb; replace gW := aa.mk (Kd.dx (by repeat (first | (with_reducible exact gW.out) | (with_reducible refine Kd.cz ?_ _) | (with_reducible refine Kd.cA ?_ _) | (with_reducible refine Kd.di ?_) | exact gW.out)) hb); replace HB := eM HB hb; (try clear hb); (try clear b0); obtain ⟨nn, mQ, ze⟩ := Kd.aN zU.out; subst ze) | ((with_reducible refine gate_dst (N := 5) rfl ?_); refine vJ ?hg (N :=  5) ?hd (cs := #[.slice none 0 0]) (t := 26) ?hr ?_; (case hd => rfl); (case hg => rfl); (case hr => first | (go_simp; done) | (go_simp; rfl)); intro kC hgq wq hboxq hbq; have BXg_ := aa.mk hgq; have BXk_ := aa.mk hboxq; have BXb_ := aa.mk hbq; clear hgq hboxq hbq; have hczq_ : wq.cell? ⟨kC, 0, none⟩ = some (.slice none 0 0) := (aH BXk_.out 0).trans rfl; have hfzq_ := af BXk_.out 0) | (refine fw (t := 26) (p := 5) (v := ?vo_) (w1 := (wq.setCell ⟨kC, 0, none⟩ (.slice nn oW.length mQ))) ?hg ?ho ?hn ?hr ?_; (case ho => rfl); (case hg => rfl); (case hn => rfl); (case hr => first | (go_simp; done) | (go_simp; rfl)); intro TJ hw_; have hg := BXg_.out; have hbox : TJ.heap[kC]? = some (.cells #[.slice nn oW.length mQ] 26 (0, 0)) := (by rw [hw_]; exact gj BXk_.out 0 (.slice nn oW.length mQ) rfl); have hb := IF BXb_.out (Nat.le_of_eq hg.symm) hw_; clear hw_ hczq_ hfzq_ BXg_ BXk_ BXb_; replace bJ := aa.mk (Kd.bM (Kd.ky (d_ bJ.out) kC (Nat.le_of_eq hg.symm)) hb); replace tb := aa.mk (Kd.iB (Kd.nk (pF tb.out) kC (Nat.le_of_eq hg.symm)) hb); replace zU := aa.mk (Kd.aY (b9 zU.out) hb); replace gW := aa.mk (Kd.dx (by repeat (first | (with_reducible exact gW.out) | (with_reducible refine Kd.cz ?_ _) | (with_reducible refine Kd.cA ?_ _) | (with_reducible refine Kd.di ?_) | exact gW.out)) hb); have mI := aa.mk (hbox); have axP := kW hg (bC HB); have axQ := kW hg (bC HB); replace HB := eM HB hb; have ML := mw hg fV; have MM := my hg fV; replace fV := cn fV hb; clear hb hbox hg))
   (try simp only [Act.put, jK, jA, jB])
   go_cut [29] (fun v29 wc => ∃ (kq : Nat) (Dv : Bool), v29 = .bool Dv ∧ aa (cY.j1 kq bx Wt Dv oW = some (r1, r2)) ∧ aa (kq ≤ k1) ∧ aa (Kd.N ix 26 wc w.heap.size (fun k_ => (w.heap.size ≤ k_) ∧ some k_ ≠ ((.slice nn oW.length mQ) : Value).ownBlock ∧ k_ ≠ jl ∧ k_ ≠ kC) (.slice (some tB) bx.length ur) bx) ∧ aa (Kd.R (Kd.int .i64) 3 wc w.heap.size (fun k_ => (w.heap.size ≤ k_)) (.slice nn oW.length mQ) oW) ∧ aa (wc.heap[jl]? = some (.cells #[(.slice bF an.length bl)] 26 (0, 0))) ∧ aa (wc.heap[kC]? = some (.cells #[(.slice nn oW.length mQ)] 26 (0, 0))) ∧ aa (Kd.C (Kd.int .i64) wc RV ((cG bx 0).f0).length ((cG bx 0).f0)) ∧ aa (Below w.heap.size w wc))
   case first =>
    have H := aex.out
    clear aex
    by_cases AI : Wt = true
    · subst AI
      rw [if_pos rfl] at H
      have H' := aa.mk H
      clear H
      go_wp2
      go_meet
      case rel => exact ⟨_, (false), eF, H', ⟨by have := fu.out; first | omega | exact Nat.le_refl _⟩, ⟨d_ (Kd.bU bJ.out (fun _ hk => ⟨hk.1.1.1, ⟨hk.1.2, ⟨hk.1.1.2, hk.2⟩⟩⟩))⟩, ⟨by (with_reducible repeat (first | apply Kd.bQ | apply Kd.bT | apply Kd.bR)); exact Kd.bB zU.out (fun _ hk => hk.1)⟩, ⟨cC fV.out⟩, ⟨cC mI.out⟩, ⟨by repeat (first | (with_reducible exact gW.out) | (with_reducible refine Kd.cz ?_ _) | (with_reducible refine Kd.cA ?_ _) | (with_reducible refine Kd.di ?_) | exact gW.out)⟩, ⟨bC HB⟩⟩
    replace AI := Bool.eq_false_iff.mpr AI
    subst AI
    rw [if_neg (show ¬ (false = true) by decide)] at H
    obtain ⟨Wr, A21, H⟩ := eA H
    have H' := aa.mk H
    clear H
    have Wv : 0 ≤ (0 : Int) := (by omega)
    have Ww : 0 < (bx.length : Int) := bO
    obtain ⟨al6, atw, atx, aty, Dw, KG, KH⟩ := mP (Kd.ei bJ.out).2.2 0 Wv Ww
    obtain rfl : tB = al6 := (by injection aty)
    obtain ⟨axR, aeB, aeC, RX⟩ := Kd.wG bJ.out z26 0 Wv (by first | exact Ww | exact bO | (have e_ := (Kd.ei bJ.out).1; omega))
    obtain ⟨ao_, apa, rfl, Dx, Dy⟩ := jP aeC
    have yl := RX 0 _ rfl
    rw [Nat.add_zero, show (ix).sz = 1 from rfl, Nat.mul_one] at yl
    replace yl := Option.some.inj (yl.symm.trans Dw)
    injection yl with hva_ hvn_ hvc_
    rw [hva_] at Dy
    rw [hvc_] at Dx
    have KI := aa.mk (show Kd.V (Kd.int .i64) 3 _ w.heap.size _ _ ((cG bx 0).f0) from Kd.yM Dx Dy)
    clear hva_ hvn_ hvc_ Dy Dx
    clear RX aeB
    have axS : (0 < bx.length) = True := eq_true (by omega)
    (try rw [show ((0 : Int)).toNat = 0 from rfl] at Dw)
    (try rw [Addr.add_zero'] at Dw)
    have uW := aa.mk KH
    have Wx := aa.mk KG
    clear KH KG
    replace Wv := eq_true Wv
    replace Ww := eq_true Ww
    go_wp2_with (first | (go_at_call 38; (with_reducible refine (dj.calls k1 _ _ ((cG bx 0).f0) Wr _ ?ah ?aj A21.out).mono ?_); (case ah => repeat (first | exact (by repeat (first | (with_reducible exact uW.out) | (with_reducible refine Kd.cz ?_ _) | (with_reducible refine Kd.cA ?_ _) | (with_reducible refine Kd.di ?_) | exact uW.out)) | (with_reducible refine Kd.cz ?_ _) | (with_reducible refine Kd.cA ?_ _) | (with_reducible refine Kd.di ?_))); (case aj => exact Wx.out); rintro e DT ⟨rfl, hb⟩; replace bJ := aa.mk (Kd.bM (d_ bJ.out) hb); replace tb := aa.mk (Kd.iB (pF tb.out) hb); replace zU := aa.mk (Kd.aY (b9 zU.out) hb); replace KI := aa.mk (Kd.iB (pF KI.out) hb); replace fV := cn fV hb; replace gW := aa.mk (Kd.dx (by repeat (first | (with_reducible exact gW.out) | (with_reducible refine Kd.cz ?_ _) | (with_reducible refine Kd.cA ?_ _) | (with_reducible refine Kd.di ?_) | exact gW.out)) hb); replace mI := cn mI hb; replace uW := aa.mk (Kd.dx (by repeat (first | (with_reducible exact uW.out) | (with_reducible refine Kd.cz ?_ _) | (with_reducible refine Kd.cA ?_ _) | (with_reducible refine Kd.di ?_) | exact uW.out)) hb); replace HB := eM HB hb; (try clear hb)))
    go_meet
    case rel => exact ⟨_, (decide (Wr ≥ 0)), eF, H', ⟨by have := fu.out; first | omega | exact Nat.le_refl _⟩, ⟨d_ (Kd.bU bJ.out (fun _ hk => ⟨hk.1.1.1, ⟨hk.1.2, ⟨hk.1.1.2, hk.2⟩⟩⟩))⟩, ⟨by (with_reducible repeat (first | apply Kd.bQ | apply Kd.bT | apply Kd.bR)); exact Kd.bB zU.out (fun _ hk => hk.1)⟩, ⟨cC fV.out⟩, ⟨cC mI.out⟩, ⟨by repeat (first | (with_reducible exact gW.out) | (with_reducible refine Kd.cz ?_ _) | (with_reducible refine Kd.cA ?_ _) | (with_reducible refine Kd.di ?_) | exact gW.out)⟩, ⟨bC HB⟩⟩
   case rest =>
    clear aex
    try clear lS
    try clear EE
    try clear yj
    try clear RT
    try clear RU
    obtain ⟨kq, Dv, rfl, HA, al7, bJ, od, fV, mI, gW, HB⟩ := hcut
    cases kq with
    | zero => exact absurd HA.out (by simp [cY.j1])
    | succ aeD =>
     have H := HA.out
     clear HA
     simp only [cY.j1] at H
     by_cases q9 : Dv = true
     · subst q9
       rw [if_pos rfl] at H
       obtain ⟨atz, RY⟩ : ∃ y_ : List (cT), y_ = (([] : List (cT))) := ⟨_, rfl⟩
       replace H : (some (atz, false)) = some (r1, r2) := by subst RY; exact H
       have Z0 := aa.mk RY
       clear RY
       simp only [Option.some.injEq, Prod.mk.injEq] at H
       obtain ⟨rfl, rfl⟩ := H
       go_wp2_with (first | ((with_reducible refine gate_dst (N := 30) rfl ?_); refine Kd.rA ix _ 26 ?hg (N' := 30) ?hd (xs := ([] : List (cT))) (inner := []) (ok := (fun k_ => (w.heap.size ≤ k_) ∧ some k_ ≠ (.slice (some tB) bx.length ur : Value).ownBlock ∧ some k_ ≠ (.slice nn oW.length mQ : Value).ownBlock ∧ k_ ≠ jl ∧ k_ ≠ kC)) (okp := (fun k_ => (w.heap.size ≤ k_) ∧ some k_ ≠ (.slice (some tB) bx.length ur : Value).ownBlock ∧ some k_ ≠ (.slice nn oW.length mQ : Value).ownBlock ∧ k_ ≠ jl ∧ k_ ≠ kC)) ?hr ?hp (fun _ hk => hk) ((show ∀ k_, wc.heap.size ≤ k_ → (fun k_ => (w.heap.size ≤ k_) ∧ some k_ ≠ (.slice (some tB) bx.length ur : Value).ownBlock ∧ some k_ ≠ (.slice nn oW.length mQ : Value).ownBlock ∧ k_ ≠ jl ∧ k_ ≠ kC) k_ from fun k_ hk => ⟨(Nat.le_trans (ag (bC HB)) hk), Kd.cM (Kd.lM (d_ bJ.out)) k_ hk, Kd.cM (Kd.gy (b9 od.out)) k_ hk, Kd.dX (g := jl) (o := .cells #[.slice bF an.length bl] 26 (0, 0)) (cC fV.out) k_ hk, Kd.dX (g := kC) (o := .cells #[.slice nn oW.length mQ] 26 (0, 0)) (cC mI.out) k_ hk⟩) _ (Nat.le_refl _)) (Below.refl _ _) (Nat.le_refl _) (by simp) ?_; (case hd => rfl); (case hg => rfl); (case hr => first | (go_simp; done) | (go_simp; rfl)); (case hp => exact (bE.none _ _)); intro aBO Ek xF hb hg_ hnew_; clear hg_ hnew_; (first | rw [← Z0.out] at xF | (simp only [Int.reduceToNat] at xF; rw [← Z0.out] at xF)); replace bJ := aa.mk (Kd.dP (d_ bJ.out) (Kd.hU xF) hb); replace od := aa.mk (Kd.aY (b9 od.out) hb); have al8 := aa.mk (Kd.im xF (ag (bC HB))); replace fV := cn fV hb; replace mI := cn mI hb; replace gW := aa.mk (Kd.dx (by repeat (first | (with_reducible exact gW.out) | (with_reducible refine Kd.cz ?_ _) | (with_reducible refine Kd.cA ?_ _) | (with_reducible refine Kd.di ?_) | exact gW.out)) hb); replace HB := eM HB hb; clear hb xF))
       go_ret2
       exact ⟨_, ig, d_ (Kd.bU al8.out (fun _ hk => hk.1)), bC HB⟩
     replace q9 := Bool.eq_false_iff.mpr q9
     subst q9
     rw [if_neg (show ¬ (false = true) by decide)] at H
     by_cases Cz : Wt = true
     rotate_left
     · replace Cz := Bool.eq_false_iff.mpr Cz
       subst Cz
       rw [if_neg (show ¬ (false = true) by decide)] at H
       simp only [Option.some.injEq, Prod.mk.injEq] at H
       obtain ⟨rfl, rfl⟩ := H
       go_wp2
       go_ret2
       exact ⟨_, ig, d_ (Kd.bU bJ.out (fun _ hk => hk.1)), bC HB⟩
     subst Cz
     rw [if_pos rfl] at H
     obtain ⟨IE, RZ⟩ : ∃ y_ : List (cT), y_ = (([(⟨oW⟩ : cT)] : List (cT))) := ⟨_, rfl⟩
     replace H : (if IE.length + bx.length < 5864062014805 then (cY.l0 aeD (IE ++ bx)) else (none)) = some (r1, r2) := by subst RZ; exact H
     have Z1 := aa.mk RZ
     clear RZ
     obtain ⟨tQ, H⟩ := kG H
     have R0 := aa.mk tQ
     clear tQ
     obtain ⟨al9, R1⟩ : ∃ y_ : List (cT), y_ = (IE ++ bx) := ⟨_, rfl⟩
     replace H : (cY.l0 aeD al9) = some (r1, r2) := by subst R1; exact H
     have al_ := aa.mk R1
     clear R1
     have H' := aa.mk H
     clear H
     have axT := MM.out
     have axU := ML.out
     have Kb : wc.cell? ⟨kC, 0, none⟩ = some (.slice nn oW.length mQ) := (aH mI.out 0).trans rfl
     have Ke := af mI.out 0
     go_wp2_with (first | ((with_reducible refine gate_dst (N := 35) rfl ?_); refine Kd.rA ix _ 26 ?hg (N' := 35) ?hd (xs := ([(⟨oW⟩ : cT)] : List (cT))) (inner := [.slice nn oW.length mQ]) (ok := (fun k_ => (w.heap.size ≤ k_) ∧ some k_ ≠ (.slice (some tB) bx.length ur : Value).ownBlock ∧ k_ ≠ jl ∧ k_ ≠ kC)) (okp := (fun k_ => (w.heap.size ≤ k_) ∧ some k_ ≠ (.slice (some tB) bx.length ur : Value).ownBlock ∧ k_ ≠ jl ∧ k_ ≠ kC)) ?hr ?hp (fun _ hk => hk) ((show ∀ k_, wc.heap.size ≤ k_ → (fun k_ => (w.heap.size ≤ k_) ∧ some k_ ≠ (.slice (some tB) bx.length ur : Value).ownBlock ∧ k_ ≠ jl ∧ k_ ≠ kC) k_ from fun k_ hk => ⟨(Nat.le_trans (ag (bC HB)) hk), Kd.cM (Kd.lM (d_ bJ.out)) k_ hk, Kd.dX (g := jl) (o := .cells #[.slice bF an.length bl] 26 (0, 0)) (cC fV.out) k_ hk, Kd.dX (g := kC) (o := .cells #[.slice nn oW.length mQ] 26 (0, 0)) (cC mI.out) k_ hk⟩) _ (Nat.le_refl _)) (Below.refl _ _) (Nat.le_refl _) (by simp) ?_; (case hd => rfl); (case hg => rfl); (case hr => first | (go_simp; done) | (go_simp; rfl)); (case hp => exact (bE.one (show Kd.FK ix _ _ (⟨oW⟩ : cT) [.slice nn oW.length mQ] from (qI _ _ (⟨oW⟩ : cT) (Kd.ao (Kd.bB (ok' := (fun k_ => (w.heap.size ≤ k_) ∧ some k_ ≠ (.slice (some tB) bx.length ur : Value).ownBlock ∧ k_ ≠ jl ∧ k_ ≠ kC)) (Kd.cI (Kd.cI (Kd.lJ (od.out) (Kd.dF bJ.out) (by decide)) fV.out (by decide)) mI.out (by decide)) (fun k_ hk => ⟨hk.1.1.1, ⟨hk.1.1.2, ⟨hk.1.2, hk.2⟩⟩⟩))).2.1 (Kd.XH (Kd.bB (ok' := (fun k_ => (w.heap.size ≤ k_) ∧ some k_ ≠ (.slice (some tB) bx.length ur : Value).ownBlock ∧ k_ ≠ jl ∧ k_ ≠ kC)) (Kd.cI (Kd.cI (Kd.lJ (od.out) (Kd.dF bJ.out) (by decide)) fV.out (by decide)) mI.out (by decide)) (fun k_ hk => ⟨hk.1.1.1, ⟨hk.1.1.2, ⟨hk.1.2, hk.2⟩⟩⟩))))) (bE.none _ _))); intro aeE w30 MN hb hg_ hnew_; clear hg_ hnew_; (first | rw [← Z1.out] at MN | (simp only [Int.reduceToNat] at MN; rw [← Z1.out] at MN)); replace bJ := aa.mk (Kd.dP (d_ bJ.out) (Kd.hU MN) hb); have KJ := aa.mk (Kd.im MN (ag (bC HB))); replace fV := cn fV hb; replace mI := cn mI hb; replace gW := aa.mk (Kd.dx (by repeat (first | (with_reducible exact gW.out) | (with_reducible refine Kd.cz ?_ _) | (with_reducible refine Kd.cA ?_ _) | (with_reducible refine Kd.di ?_) | exact gW.out)) hb); replace HB := eM HB hb; clear od; clear hb MN) | ((with_reducible refine gate_builtin (b := .append) (xs := #[.tmp 35, .tmp 36]) rfl ?_); at_builtin; refine Kd.pD ix (w0 := w) w.heap.size rfl (.tmp 35) (.tmp 36) 30 26 (.agg #[(.slice none 0 0)]) 24 rfl Tryz.underlying30 pG rfl (by decide) (by omega) aeE IE bx _ _ _ (fun k_ => (w.heap.size ≤ k_) ∧ k_ ≠ jl ∧ k_ ≠ kC) (fun k_ => ((fun k_ => (w.heap.size ≤ k_) ∧ k_ ≠ jl ∧ k_ ≠ kC)) k_ ∧ some k_ ≠ (aeE : Value).ownBlock) rfl rfl ?aO ?aR (fun _ hk => hk) ?aF ?aB ?aS ?aL ?_; (case aR => exact (by skip; exact Kd.N_F (Kd.bU (ok' := (fun k_ => ((fun k_ => (w.heap.size ≤ k_) ∧ k_ ≠ jl ∧ k_ ≠ kC)) k_ ∧ some k_ ≠ (aeE : Value).ownBlock)) (bJ.out) (fun k_ hk => ⟨⟨hk.1.1, ⟨hk.1.2.2.1, hk.1.2.2.2⟩⟩, hk.2⟩)))); (case aB => exact (bC HB)); (case aF => exact (fun k_ hk => ⟨(Nat.le_trans (ag (bC HB)) hk), Kd.dX (g := jl) (o := .cells #[.slice bF an.length bl] 26 (0, 0)) (cC fV.out) k_ hk, Kd.dX (g := kC) (o := .cells #[.slice nn oW.length mQ] 26 (0, 0)) (cC mI.out) k_ hk⟩)); (case aO => exact (d_ (Kd.bU KJ.out (fun _ hk => ⟨hk.1, ⟨hk.2.2.1, hk.2.2.2⟩⟩)))); (case aS => exact (ag (bC HB))); (case aL => have := R0.out; omega); intro aBP w32 ho hb hg hat; rw [← al_.out] at ho; replace bJ := aa.mk (Kd.rB (ok := (fun k_ => (w.heap.size ≤ k_) ∧ k_ ≠ jl ∧ k_ ≠ kC)) (d_ (Kd.bU bJ.out (fun _ hk => ⟨⟨hk.1.1, ⟨hk.1.2.2.1, hk.1.2.2.2⟩⟩, hk.2⟩))) hg hat); replace fV := aa.mk (cS (cC fV.out) hg (Kd.tH KJ.out (fun _ hk => hk.2.2.1))); replace mI := aa.mk (cS (cC mI.out) hg (Kd.tH KJ.out (fun _ hk => hk.2.2.2))); replace HB := aa.mk (hb); have ama := aa.mk (ho); clear KJ; clear ho hb hg hat))
     go_roundg aeD
     case measure => have := fu.out; have := al7.out; omega
     case rel => exact ⟨(al9), H', ⟨by have := fu.out; have := al7.out; omega⟩, ⟨d_ (Kd.bU ama.out (fun _ hk => ⟨hk.1, hk.2.1⟩))⟩, ⟨cC fV.out⟩, ⟨bC HB⟩⟩
def cP.f (k : Nat) (an : List Int) (jg : List Int) : Option (Bool) := (cJ.f k an jg).bind fun aeF => (some aeF)
theorem cP.calls (k : Nat) (bF : Option Addr) (bl : Nat) (an : List Int) (nX : Option Addr) (nY : Nat) (jg : List Int) (r : Bool) (w : World) (eB : Kd.C (Kd.int .i64) w bF an.length an) (eC : an.length ≤ bl) (wN : Kd.C (Kd.int .i64) w nX jg.length jg) (wO : jg.length ≤ nY) (h : cP.f k an jg = some r) :
 Calls Tryz.prog 18 #[.agg #[.slice bF an.length bl], .agg #[.slice nX jg.length nY]] w fun e w' => e = .returned (.bool r) ∧ Below w.heap.size w w' := by
 have kJ := Tryz.underlying26
 have bV := aa.mk eB
 have cH := aa.mk eC
 clear eB eC
 have wP := aa.mk wN
 have wQ := aa.mk wO
 clear wN wO
 have HB := aa.mk (Below.refl w.heap.size w)
 have H := h
 clear h
 unfold cP.f at H
 obtain ⟨aeF, A3, H⟩ := eA H
 obtain rfl := Option.some.inj H
 go_enter Tryz.func18, Tryz.ntmps18
 go_wp2_with (first | ((with_reducible refine gate_dst (N := 2) rfl ?_); refine iP 2 #[.slice bF an.length bl] 26 ?_; intro axV hg w4 hbox hb; have BT := aa.mk (hbox); have axW := ij hg HB; have axX := ij hg HB; replace HB := jL HB hb; clear hb hbox hg) | ((with_reducible refine gate_dst (N := 3) rfl ?_); refine iP 3 #[.slice nX jg.length nY] 26 ?_; intro axY hg w5 hbox hb; have Z2 := aa.mk (hbox); have axZ := kW hg (bC HB); have ax0 := kW hg (bC HB); replace HB := eM HB hb; have MO := mw hg BT; have MP := my hg BT; replace BT := cn BT hb; clear hb hbox hg; have ajD := MO.out; have ajE := MP.out; have CX := fG BT; have CY := af BT.out 0; have lX := fG Z2; have lY := af Z2.out 0) | ((with_reducible refine gate_callee (f := 56) rfl ?_); refine dU (some 9) Tryz.func56 #[.slice bF an.length bl, .slice nX jg.length nY] ?_; (with_reducible refine (cJ.calls k _ _ an _ _ jg aeF _ ?ah ?aj ?fB ?hD A3.out).mono ?_); (case ah => exact iZ bV HB); (case aj => exact cH.out); (case fB => exact iZ wP HB); (case hD => exact wQ.out); rintro e w' ⟨rfl, ⟨nd, rfl⟩⟩; refine ⟨_, rfl, ?_⟩))
 go_ret
 exact ⟨ig, bC HB⟩
end Go.Proofs.YtjodlkbhaofkkaaGreat.PA
end
