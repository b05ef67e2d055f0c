-- Bundled by shake.py from this session's printed and written texts; Lean checks it.
import Derived.Calls
import Derived.Shelf.SlSortCmp.NoneTotal
import Derived.Shelf.SlSortCmp.WholeK
import Derived.Sort.Grow
import Derived.Test.YtjodlkbhaofkkaaGreatZFnTreex8
import GoSem.Step
section
namespace Go.Proofs.YtjodlkbhaofkkaaGreat.PA
open Go.RowKit Go.Proofs.YtjodlkbhaofkkaaGreatW.PrintWords Go.Proofs.YtjodlkbhaofkkaaGreatW.PrintLast Go.Proofs.YtjodlkbhaofkkaaGreatW.PrintMore
attribute [local go_sem] ja jb j5 j6 hY hZ jc jd
set_option linter.unusedVariables false
set_option linter.unusedSimpArgs false
set_option maxHeartbeats 8000000
set_option maxRecDepth 100000
def br.l0 : Nat → List (cT) → Int → Int → List Int → Option ((List (cT)) × Bool)
 | 0, _, _, _, _ => none
 | k + 1, x4, x5, x6, s6 => if x6 < (s6.length : Int) then (if 0 ≤ x6 then (if (rd s6 x6) ≤ x5 then (br.l0 k x4 x5 (wrap64 (x6 + 1)) s6) else ((bL.f k s6 (rd s6 x6)).bind fun ZA => (if ZA.2 = true then (if x4.length < 5864062014805 then (br.l0 k (x4 ++ [(⟨ZA.1⟩ : cT)]) x5 (wrap64 (x6 + 1)) s6) else (none)) else (some ((([] : List (cT))), false))))) else (none)) else (some (x4, true))
def br.f (k : Nat) (an : List Int) : Option ((List (cT)) × Bool) := (aA.f k an).bind fun aea => (if aea = true then ((dj.f k an).bind fun Bd => (br.l0 k (([] : List (cT))) Bd 0 an)) else (some ((([] : List (cT))), false)))
def br.T9 : Bool × List (List Nat × List Nat) := (true, [([], []), ([], []), ([1], [1]), ([], []), ([2, 3], [2, 3]), ([4], [4]), ([0, 5], [0, 5]), ([6], [6]), ([7], [7]), ([7], [7]), ([], []), ([10, 8, 6, 0, 1, 2, 3, 4, 5, 6, 7, 8, 10], [8, 10]), ([9, 11, 0, 1, 2, 3, 4, 5, 6, 7, 8, 9, 10, 11], [9])])
def br.B9 : List Nat := [0, 0, 2, 0, 14, 30, 63, 127, 255, 255, 0, 1535, 4095]
theorem br.ak6 : gX .any (opsOf Tryz.f11 9) = br.T9 := by kernel_rfl
theorem br.ZB : gm br.T9.2 br.B9 = true := by kernel_rfl
theorem br.calls (k : Nat) (bF : Option Addr) (bl : Nat) (an : List Int) (r1 : List (cT)) (r2 : Bool) (w : World) (eB : Kd.C (Kd.int .i64) w bF an.length an) (eC : an.length ≤ bl) (h : br.f k an = some (r1, r2)) :
 Calls Tryz.prog 11 #[.agg #[.slice bF an.length bl]] w fun e w' => ∃ jf : Value, e = .returned (.tuple #[jf, .bool r2]) ∧ Kd.S ix 26 w' w.heap.size (fun _ => True) jf r1 ∧ Below w.heap.size w w' := by
 have kJ := Tryz.underlying26
 have bV := aa.mk eB
 have cH := aa.mk eC
 clear eB eC
 have HB := aa.mk (Below.refl w.heap.size w)
 have H := h
 clear h
 unfold br.f at H
 obtain ⟨aea, A2, H⟩ := eA H
 by_cases c3 : aea = true
 rotate_left
 · replace c3 := Bool.eq_false_iff.mpr c3
   subst c3
   rw [if_neg (show ¬ (false = true) by decide)] at H
   obtain ⟨asU, Q5⟩ : ∃ y_ : List (cT), y_ = (([] : List (cT))) := ⟨_, rfl⟩
   replace H : (some (asU, false)) = some (r1, r2) := by subst Q5; exact H
   have ZC := aa.mk Q5
   clear Q5
   simp only [Option.some.injEq, Prod.mk.injEq] at H
   obtain ⟨rfl, rfl⟩ := H
   go_enter Tryz.func11, Tryz.ntmps11
   go_wp2_with (first | ((with_reducible refine gate_dst (N := 1) rfl ?_); refine iP 1 #[.slice bF an.length bl] 26 ?_; intro iy hg w40 hbox hb; have cO := aa.mk (hbox); have ak7 := ij hg HB; have ak8 := ij hg HB; replace HB := jL HB hb; clear hb hbox hg; have C6 := fG cO; have C7 := af cO.out 0) | ((with_reducible refine gate_callee (f := 45) rfl ?_); refine dU (some 10) Tryz.func45 #[.agg #[.slice bF an.length bl]] ?_; (with_reducible refine (aA.calls k _ _ an false _ ?ah ?aj A2.out).mono ?_); (case ah => exact iZ bV HB); (case aj => exact cH.out); rintro e Yi ⟨rfl, hb⟩; refine ⟨_, rfl, ?_⟩; replace cO := cn cO hb; replace HB := eM HB hb; (try clear hb)) | ((with_reducible refine gate_dst (N := 12) rfl ?_); refine Kd.Jj ix _ 26 ?hg (N := 12) ?hd (xs := ([] : List (cT))) (inner := []) (ok := fun _ => True) (okp := fun _ => True) ?hr ?hp (fun _ hk => hk) trivial (Below.refl _ _) (Nat.le_refl _) (by simp) ?_; (case hd => rfl); (case hg => rfl); (case hr => first | (go_simp; done) | (go_simp; rfl)); (case hp => exact (bE.none _ _)); intro aBh w43 Q6 hb hg_ hnew_; clear hg_ hnew_; (first | rw [← ZC.out] at Q6 | (simp only [Int.reduceToNat] at Q6; rw [← ZC.out] at Q6)); have ak9 := aa.mk (Kd.xP (Kd.yJ Q6 (g := iy) (o := .cells #[.slice bF an.length bl] 26 (0, 0)) (cC cO.out)) (ag (bC HB))); replace cO := cn cO hb; replace HB := eM HB hb; clear hb Q6))
   go_ret2
   exact ⟨_, ig, te (Kd.iH ak9.out (fun _ hk => trivial)), bC HB⟩
 subst c3
 rw [if_pos rfl] at H
 obtain ⟨ak_, Q7⟩ : ∃ y_ : List (cT), y_ = (([] : List (cT))) := ⟨_, rfl⟩
 replace H : ((dj.f k an).bind fun Bd => (br.l0 k ak_ Bd 0 an)) = some (r1, r2) := by subst Q7; exact H
 have ZD := aa.mk Q7
 clear Q7
 obtain ⟨Bd, A4, H⟩ := eA H
 have H' := aa.mk H
 clear H
 go_enter Tryz.func11, Tryz.ntmps11
 go_wp2_with (first | ((with_reducible refine gate_dst (N := 1) rfl ?_); refine iP 1 #[.slice bF an.length bl] 26 ?_; intro iy hg w5 hbox hb; have cO := aa.mk (hbox); have ak7 := ij hg HB; have ak8 := ij hg HB; replace HB := jL HB hb; clear hb hbox hg; have lV := fG cO; have lW := af cO.out 0) | ((with_reducible refine gate_callee (f := 45) rfl ?_); refine dU (some 10) Tryz.func45 #[.agg #[.slice bF an.length bl]] ?_; (with_reducible refine (aA.calls k _ _ an true _ ?ah ?aj A2.out).mono ?_); (case ah => exact iZ bV HB); (case aj => exact cH.out); rintro e w7 ⟨rfl, hb⟩; refine ⟨_, rfl, ?_⟩; replace cO := cn cO hb; replace HB := eM HB hb; (try clear hb)) | ((with_reducible refine gate_dst (N := 13) rfl ?_); refine Kd.Jj ix _ 26 ?hg (N := 13) ?hd (xs := ([] : List (cT))) (inner := []) (ok := fun _ => True) (okp := fun _ => True) ?hr ?hp (fun _ hk => hk) trivial (Below.refl _ _) (Nat.le_refl _) (by simp) ?_; (case hd => rfl); (case hg => rfl); (case hr => first | (go_simp; done) | (go_simp; rfl)); (case hp => exact (bE.none _ _)); intro aBi w8 Ep hb hg_ hnew_; clear hg_ hnew_; (first | rw [← ZD.out] at Ep | (simp only [Int.reduceToNat] at Ep; rw [← ZD.out] at Ep)); have Q8 := aa.mk (Kd.xP (Kd.yJ Ep (g := iy) (o := .cells #[.slice bF an.length bl] 26 (0, 0)) (cC cO.out)) (ag (bC HB))); replace cO := cn cO hb; replace HB := eM HB hb; clear hb Ep; have sS := fG cO; have sT := af cO.out 0) | ((with_reducible refine gate_callee (f := 38) rfl ?_); refine dU (some 15) Tryz.func38 #[.agg #[.slice bF an.length bl]] ?_; (with_reducible refine (dj.calls k _ _ an Bd _ ?ah ?aj A4.out).mono ?_); (case ah => exact iZ bV HB); (case aj => exact cH.out); rintro e Bn ⟨rfl, hb⟩; refine ⟨_, rfl, ?_⟩; replace Q8 := aa.mk (Kd.nT (te Q8.out) hb); replace cO := cn cO hb; replace HB := eM HB hb; (try clear hb)))
 go_loopg [4, 6] k (fun kq v4 v6 w' => ∃ (bx : List (cT)) (bY : Int), v6 = .int .i64 bY ∧ aa (br.l0 kq bx Bd bY an = some (r1, r2)) ∧ aa (kq ≤ k) ∧ aa (Kd.S ix 26 w' w.heap.size (fun k_ => k_ ≠ iy) v4 bx) ∧ aa (w'.heap[iy]? = some (.cells #[(.slice bF an.length bl)] 26 (0, 0))) ∧ aa (Below w.heap.size w w'))
 case atStart => exact ⟨(ak_), (0), eF, H', ⟨Nat.le_refl _⟩, ⟨te (Kd.iH Q8.out (fun _ hk => hk.2))⟩, ⟨cC cO.out⟩, ⟨bC HB⟩⟩
 case round =>
  clear H'
  try clear sS
  try clear lV
  try clear sT
  try clear lW
  obtain ⟨bx, bY, rfl, HA, fu, bJ, cO, HB⟩ := hrel
  cases gk with
  | zero => exact absurd HA.out (by simp [br.l0])
  | succ k1 =>
   have H := HA.out
   clear HA
   simp only [br.l0] at H
   by_cases pK : bY < (an.length : Int)
   rotate_left
   · rw [if_neg pK] at H
     have o6 : decide (bY < (an.length : Int)) = false := decide_eq_false pK
     clear pK
     simp only [Option.some.injEq, Prod.mk.injEq] at H
     obtain ⟨rfl, rfl⟩ := H
     have CT := fG cO
     have CU := af cO.out 0
     go_wp2
     go_ret2
     exact ⟨_, ig, te (Kd.iH bJ.out (fun _ hk => trivial)), bC HB⟩
   rw [if_pos pK] at H
   have o6 : decide (bY < (an.length : Int)) = true := decide_eq_true pK
   clear pK
   obtain ⟨lS, H⟩ := dB H
   by_cases mG : (rd an bY) ≤ Bd
   · rw [if_pos mG] at H
     have jQ : decide ((rd an bY) ≤ Bd) = true := decide_eq_true mG
     clear mG
     have H' := aa.mk H
     clear H
     have JM := fG cO
     have JN := af cO.out 0
     have zP : 0 ≤ (bY : Int) := bO
     have zQ : bY < (an.length : Int) := bO
     obtain ⟨jH, Q9, l9⟩ := Kd.aZ bV.out bY zP zQ
     cases Q9
     (try replace l9 := (HB.out.cell (World.block_lt_of_cell? w _ l9)).trans l9)
     replace zP := eq_true zP
     replace zQ := eq_true zQ
     go_wp2
     go_roundg k1
     case measure => have := fu.out; omega
     case rel => exact ⟨(bx), (wrap64 (bY + 1)), eF, H', ⟨by have := fu.out; omega⟩, ⟨te bJ.out⟩, ⟨cC cO.out⟩, ⟨bC HB⟩⟩
   rw [if_neg mG] at H
   have jQ : decide ((rd an bY) ≤ Bd) = false := decide_eq_false mG
   clear mG
   obtain ⟨⟨lr, asV⟩, ZE, H⟩ := eA H
   (try dsimp only at H)
   by_cases oN : asV = true
   rotate_left
   · replace oN := Bool.eq_false_iff.mpr oN
     subst oN
     rw [if_neg (show ¬ (false = true) by decide)] at H
     obtain ⟨asW, Q_⟩ : ∃ y_ : List (cT), y_ = (([] : List (cT))) := ⟨_, rfl⟩
     replace H : (some (asW, false)) = some (r1, r2) := by subst Q_; exact H
     have ZF := aa.mk Q_
     clear Q_
     simp only [Option.some.injEq, Prod.mk.injEq] at H
     obtain ⟨rfl, rfl⟩ := H
     have VZ := fG cO
     have V0 := af cO.out 0
     have zP : 0 ≤ (bY : Int) := bO
     have zQ : bY < (an.length : Int) := bO
     obtain ⟨jH, Q9, l9⟩ := Kd.aZ bV.out bY zP zQ
     cases Q9
     (try replace l9 := (HB.out.cell (World.block_lt_of_cell? w _ l9)).trans l9)
     replace zP := eq_true zP
     replace zQ := eq_true zQ
     try go_wp2
     replace bJ := aa.mk (Kd.Nx bJ.out)
     replace cO := aa.mk (bg cO.out)
     replace HB := aa.mk (bD HB.out)
     have Im : 0 ≤ (bY : Int) := bO
     have Io : bY < (an.length : Int) := bO
     obtain ⟨Ra, aeb, l_⟩ := Kd.aZ bV.out bY Im Io
     have fD := l_
     obtain rfl : jH = Ra := (by injection aeb)
     (try replace l_ := (HB.out.cell (World.block_lt_of_cell? w _ l_)).trans l_)
     replace Im := eq_true Im
     replace Io := eq_true Io
     refine fy (n := 13) (S := fun w' => w'.cell? ⟨iy, 0, none⟩ = some (.slice (some jH) an.length bl) ∧ w'.cell? (jH.add (bY).toNat) = some (.int .i64 (rd an bY))) (ds := []) (B_ 0 13) (by kernel_rfl) rfl rfl ⟨(aH cO.out 0).trans rfl, ((HB.out.cell (World.block_lt_of_cell? w _ fD)).trans fD)⟩ (fun hHeld => ?_); refine dv br.ak6 br.ZB (fun HT_ HW_ => ?_)
     generalize wr.drew = TP at bJ cO HB l_ hHeld ⊢
     refine b5 HT_ 1 32 (B_ 2 13) ?_
     refine b5 HT_ 3 34 (B_ 10 13) ?_
     refine ni HT_ HW_ hHeld 0 31 (B_ 11 13) ?_
     refine ni HT_ HW_ hHeld 2 33 (B_ 15 13) ?_
     refine b5 HT_ 4 35 (B_ 31 13) ?_
     refine ni HT_ HW_ hHeld 5 36 (B_ 63 13) ?_
     refine XE (σ := Value × Nat) 2 (B_ 2047 13) (fun s_ => [(37, .tuple #[.agg #[s_.1], .bool false]), (7, .pointer (some ⟨s_.2, 0, none⟩)), (30, .tuple #[.agg #[s_.1], .bool false]), (38, .agg #[s_.1]), (39, .bool false)]) (fun s_ w' => (w'.cell? ⟨iy, 0, none⟩ = some (.slice (some jH) an.length bl) ∧ w'.cell? (jH.add (bY).toNat) = some (.int .i64 (rd an bY))) ∧ (Kd.R (Kd.int .i64) 3 w' w.heap.size (fun _ => True) s_.1 lr) ∧ (Kd.S ix 26 w' w.heap.size (fun k_ => some k_ ≠ (s_.1 : Value).ownBlock ∧ k_ ≠ iy ∧ k_ ≠ s_.2) u4 bx) ∧ (w'.heap[iy]? = some (.cells #[.slice (some jH) an.length bl] 26 (0, 0))) ∧ (w'.heap[s_.2]? = some (.cells #[.slice none 0 0] 26 (0, 0))) ∧ (w.heap.size ≤ s_.2) ∧ (w.heap.size ≤ s_.2) ∧ (iy ≠ s_.2) ∧ (s_.2 ≠ iy) ∧ (Below w.heap.size w w')) ?_ ?_
     rotate_left
     · intro hCont
       refine aga (i := 6) (j := 10) (Ni := some 37) (Nj := some 7) (B_ 127 13) (B_ 1087 13) rfl rfl rfl rfl (Nv HT_.out (by kernel_rfl)) (by decide) (by decide) (fun K hK => ?_) (fun K hK => ?_)
       · skip
         refine gu Tryz.func46 (by kernel_rfl) rfl #[.agg #[.slice (some jH) an.length bl], .int .i64 (rd an bY)] (by rfl) rfl rfl (by (try simp only [List.map_toArray, List.map_cons, List.map_nil]); first | done | rfl | (simp only [List.length_drop, List.length_take]; rfl)) ?_
         with_reducible refine (bL.calls k1 _ _ an (rd an bY) lr false _ ?ah ?aj ZE.out).mono ?_
         (case ah => exact iZ bV HB)
         (case aj => exact cH.out)
         rintro e w32 ⟨wj, rfl, b0, hb⟩
         refine ⟨_, rfl, ?_⟩
         replace bJ := aa.mk (Kd.oq (te bJ.out) (Kd.cV b0) hb)
         have kv := aa.mk (Kd.aW b0 (ag (bC HB)))
         replace cO := cn cO hb
         replace HB := eM HB hb
         (try clear hb)
         (try clear b0)
         refine hK.out _ _ ⟨(aH cO.out 0).trans rfl, ((HB.out.cell (World.block_lt_of_cell? w _ fD)).trans fD)⟩ (fun hHeld => ?_)
         clear hK K
         refine ep (a' := ?_) ?_ ?_
         rotate_left
         · show Act.put _ (some 37) _ = _
           simp only [Act.put, jK, jA, jB, b6, dw]
           rfl
         refine b5 HT_ 7 30 (B_ 255 13) ?_
         refine b5 HT_ 8 38 (B_ 511 13) ?_
         refine b5 HT_ 9 39 (B_ 1023 13) ?_
         refine o2 HT_ 10 7 (B_ 2047 13) (fun K hK => ?_)
         refine uj ?hg (N := 7) ?hd (cs := #[.slice none 0 0]) (t := 26) ?hr ?_; (case hd => rfl); (case hg => rfl); (case hr => first | (go_simp; done) | (go_simp; rfl))
         intro e8 hg XO hbox hb
         replace bJ := aa.mk (Kd.nT (Kd.pU (te bJ.out) e8 (Nat.le_of_eq hg.symm)) hb)
         replace kv := aa.mk (Kd.aY (b9 kv.out) hb)
         have iM := aa.mk (hbox)
         have nr := kW hg (bC HB)
         have uR := kW hg (bC HB)
         replace HB := eM HB hb
         have iF := mw hg cO
         have jq := my hg cO
         replace cO := cn cO hb
         clear hb hbox hg
         refine hK.out _ _ ⟨(aH cO.out 0).trans rfl, ((HB.out.cell (World.block_lt_of_cell? w _ fD)).trans fD)⟩ (fun hHeld => ?_)
         clear hK K
         refine ep (a' := ?_) ?_ ?_
         rotate_left
         · show Act.put _ (some 7) _ = _
           simp only [Act.put, jK, jA, jB, b6, dw]
           rfl
         exact ep (by simp only [qC, Act.put, jK, jA, jB]) (hCont (wj, e8) _ ⟨hHeld, (b9 kv.out), (te (Kd.iH bJ.out (fun _ hk => ⟨hk.1.2, ⟨hk.1.1, hk.2⟩⟩))), (cC cO.out), (cC iM.out), nr.out, uR.out, iF.out, jq.out, (bC HB)⟩)
       · skip
         refine uj ?hg (N := 7) ?hd (cs := #[.slice none 0 0]) (t := 26) ?hr ?_; (case hd => rfl); (case hg => rfl); (case hr => first | (go_simp; done) | (go_simp; rfl))
         intro e8 hg w32 hbox hb
         replace bJ := aa.mk (Kd.nT (Kd.pU (te bJ.out) e8 (Nat.le_of_eq hg.symm)) hb)
         have iM := aa.mk (hbox)
         have nr := kW hg (bC HB)
         have uR := kW hg (bC HB)
         replace HB := eM HB hb
         have iF := mw hg cO
         have jq := my hg cO
         replace cO := cn cO hb
         clear hb hbox hg
         refine hK.out _ _ ⟨(aH cO.out 0).trans rfl, ((HB.out.cell (World.block_lt_of_cell? w _ fD)).trans fD)⟩ (fun hHeld => ?_)
         clear hK K
         refine ep (a' := ?_) ?_ ?_
         rotate_left
         · show Act.put _ (some 7) _ = _
           simp only [Act.put, jK, jA, jB, b6, dw]
           rfl
         refine o2 HT_ 6 37 (B_ 1151 13) (fun K hK => ?_)
         refine gu Tryz.func46 (by kernel_rfl) rfl #[.agg #[.slice (some jH) an.length bl], .int .i64 (rd an bY)] (by rfl) rfl rfl (by (try simp only [List.map_toArray, List.map_cons, List.map_nil]); first | done | rfl | (simp only [List.length_drop, List.length_take]; rfl)) ?_
         with_reducible refine (bL.calls k1 _ _ an (rd an bY) lr false _ ?ah ?aj ZE.out).mono ?_
         (case ah => exact iZ bV HB)
         (case aj => exact cH.out)
         rintro e XO ⟨wj, rfl, b0, hb⟩
         refine ⟨_, rfl, ?_⟩
         replace bJ := aa.mk (Kd.oq (te bJ.out) (Kd.cV b0) hb)
         have kv := aa.mk (Kd.aW b0 (ag (bC HB)))
         replace cO := cn cO hb
         replace iM := cn iM hb
         replace HB := eM HB hb
         (try clear hb)
         (try clear b0)
         refine hK.out _ _ ⟨(aH cO.out 0).trans rfl, ((HB.out.cell (World.block_lt_of_cell? w _ fD)).trans fD)⟩ (fun hHeld => ?_)
         clear hK K
         refine ep (a' := ?_) ?_ ?_
         rotate_left
         · show Act.put _ (some 37) _ = _
           simp only [Act.put, jK, jA, jB, b6, dw]
           rfl
         refine b5 HT_ 7 30 (B_ 1279 13) ?_
         refine b5 HT_ 8 38 (B_ 1535 13) ?_
         refine b5 HT_ 9 39 (B_ 2047 13) ?_
         exact ep (by simp only [qC, Act.put, jK, jA, jB]) (hCont (wj, e8) _ ⟨hHeld, (b9 kv.out), (te (Kd.iH bJ.out (fun _ hk => ⟨hk.2, ⟨hk.1.1, hk.1.2⟩⟩))), (cC cO.out), (cC iM.out), nr.out, uR.out, iF.out, jq.out, (bC HB)⟩)
     rintro ⟨wj, e8⟩ PX ⟨hS_, oc, h1_, h2_, h3_, h4_, h5_, h6_, h7_, h8_⟩
     have n5 : aa (Kd.R (Kd.int .i64) 3 PX w.heap.size (fun _ => True) wj lr) := ⟨oc⟩
     have n9 : aa (Kd.S ix 26 PX w.heap.size (fun k_ => some k_ ≠ (wj : Value).ownBlock ∧ k_ ≠ iy ∧ k_ ≠ e8) u4 bx) := ⟨h1_⟩
     have rp : aa (PX.heap[iy]? = some (.cells #[.slice (some jH) an.length bl] 26 (0, 0))) := ⟨h2_⟩
     have rq : aa (PX.heap[e8]? = some (.cells #[.slice none 0 0] 26 (0, 0))) := ⟨h3_⟩
     have ti : aa (w.heap.size ≤ e8) := ⟨h4_⟩
     have zH : aa (w.heap.size ≤ e8) := ⟨h5_⟩
     have BH : aa (iy ≠ e8) := ⟨h6_⟩
     have Ko : aa (e8 ≠ iy) := ⟨h7_⟩
     have Kp : aa (Below w.heap.size w PX) := ⟨h8_⟩
     clear bJ
     clear cO
     clear HB
     clear oc h1_ h2_ h3_ h4_ h5_ h6_ h7_ h8_
     have kv := n5
     have bJ := n9
     have cO := rp
     have iM := rq
     have nr := ti
     have uR := zH
     have iF := BH
     have jq := Ko
     have HB := Kp
     clear n5 n9 rp rq ti zH BH Ko Kp
     have hHeld : PX.cell? ⟨iy, 0, none⟩ = some (.slice (some jH) an.length bl) ∧ PX.cell? (jH.add (bY).toNat) = some (.int .i64 (rd an bY)) := hS_
     obtain ⟨fp, fg, V1⟩ := Kd.aN kv.out
     (first | subst V1 | (injection V1 with ox tM oy; have tN := ox.symm; have tO := oy.symm; clear ox tM oy; subst tN; subst tO))
     refine ep (a' := ?_) ?_ ?_
     rotate_left
     · simp only [qC, Act.put, jK, jA, jB]
       rfl
     refine AO (i := 11) (N := none) (B_ 4095 13) rfl rfl (vM HT_.out (by kernel_rfl)) (by decide) (fun K hK => ?_)
     have aBj : PX.cell? ⟨e8, 0, none⟩ = some (.slice none 0 0) := (aH iM.out 0).trans rfl
     have axj := af iM.out 0
     have aoW := iF.out
     have aoX := jq.out
     refine Ns (w1 := ?_) (by rfl) rfl ?_ ?_
     rotate_left
     · go_simp
       rfl
     refine hK.out _ _ ⟨((cell_far (p := ⟨e8, _, none⟩) iF.out _).trans (hHeld.1)), ((cell_far (p := ⟨e8, _, none⟩) (by first | exact Nat.ne_of_lt (Nat.lt_of_lt_of_le (by have := World.block_lt_of_cell? _ _ fD; first | rwa [eW] at this | exact this) nr.out) | (rw [eW]; exact Nat.ne_of_lt (Nat.lt_of_lt_of_le (by have := World.block_lt_of_cell? _ _ fD; first | rwa [eW] at this | exact this) nr.out)) | (show (Addr.add _ _).block ≠ _; rw [eW]; exact Nat.ne_of_lt (Nat.lt_of_lt_of_le (by have := World.block_lt_of_cell? _ _ fD; first | rwa [eW] at this | exact this) nr.out)) | (dsimp only; exact Nat.ne_of_lt (Nat.lt_of_lt_of_le (by have := World.block_lt_of_cell? _ _ fD; first | rwa [eW] at this | exact this) nr.out))) _).trans (hHeld.2))⟩ (fun hHeld => ?_)
     clear hK K
     refine b5 HT_ 12 8 (B_ 8191 13) ?_
     refine ik (eS HT_.out (by kernel_rfl)) ?_
     try go_wp2_with (first | ((with_reducible refine gate_dst (N := 42) rfl ?_); refine Kd.Jj ix _ 26 ?hg (N := 42) ?hd (xs := ([] : List (cT))) (inner := []) (ok := fun _ => True) (okp := fun _ => True) ?hr ?hp (fun _ hk => hk) trivial (Below.refl _ _) (Nat.le_refl _) (by simp) ?_; (case hd => rfl); (case hg => rfl); (case hr => first | (go_simp; done) | (go_simp; rfl)); (case hp => exact (bE.none _ _)); intro aBk w37 My hb hg_ hnew_; clear hg_ hnew_; (first | rw [← ZF.out] at My | (simp only [Int.reduceToNat] at My; rw [← ZF.out] at My)); have ali := aa.mk (Kd.xP (Kd.yJ (Kd.yJ (Kd.Ny (Kd.Ny My (Kd.apl (te ((Kd.iH (Kd.Ji (p := ⟨e8, 0, none⟩) (Kd.iH bJ.out (fun k_ hk => (⟨hk, hk.2.2⟩ : _ ∧ k_ ≠ e8))) (fun _ hk => hk.2) (.slice fp lr.length fg)) (fun _ h_ => h_.1)))))) (Kd.gy (nh kv iM))) (g := iy) (o := .cells #[.slice (some jH) an.length bl] 26 (0, 0)) (pB cO)) (g := e8) (o := .cells #[.slice fp lr.length fg] 26 (0, 0)) (mz iM)) (ag (bC HB))); replace bJ := aa.mk (Kd.oq (te ((Kd.iH (Kd.Ji (p := ⟨e8, 0, none⟩) (Kd.iH bJ.out (fun k_ hk => (⟨hk, hk.2.2⟩ : _ ∧ k_ ≠ e8))) (fun _ hk => hk.2) (.slice fp lr.length fg)) (fun _ h_ => h_.1)))) (Kd.aaI My) hb); replace kv := aa.mk (Kd.aY (nh kv iM) hb); replace cO := aa.mk (bW (g := iy) (o := .cells #[.slice (some jH) an.length bl] 26 (0, 0)) (pB cO) hb); replace iM := aa.mk (bW (g := e8) (o := .cells #[.slice fp lr.length fg] 26 (0, 0)) (mz iM) hb); replace HB := eM HB hb; clear hb My))
     go_ret2
     exact ⟨_, ig, te (Kd.iH ali.out (fun _ hk => trivial)), bC HB⟩
   subst oN
   rw [if_pos rfl] at H
   obtain ⟨vN, H⟩ := kG H
   have Ot := aa.mk vN
   clear vN
   obtain ⟨alj, Rb⟩ : ∃ y_ : List (cT), y_ = (bx ++ [(⟨lr⟩ : cT)]) := ⟨_, rfl⟩
   replace H : (br.l0 k1 alj Bd (wrap64 (bY + 1)) an) = some (r1, r2) := by subst Rb; exact H
   have alk := aa.mk Rb
   clear Rb
   have H' := aa.mk H
   clear H
   have V2 := fG cO
   have V3 := af cO.out 0
   have zP : 0 ≤ (bY : Int) := bO
   have zQ : bY < (an.length : Int) := bO
   obtain ⟨jH, Q9, l9⟩ := Kd.aZ bV.out bY zP zQ
   cases Q9
   (try replace l9 := (HB.out.cell (World.block_lt_of_cell? w _ l9)).trans l9)
   replace zP := eq_true zP
   replace zQ := eq_true zQ
   try go_wp2
   replace bJ := aa.mk (Kd.Nx bJ.out)
   replace cO := aa.mk (bg cO.out)
   replace HB := aa.mk (bD HB.out)
   have Im : 0 ≤ (bY : Int) := bO
   have Io : bY < (an.length : Int) := bO
   obtain ⟨Ra, aeb, l_⟩ := Kd.aZ bV.out bY Im Io
   have fD := l_
   obtain rfl : jH = Ra := (by injection aeb)
   (try replace l_ := (HB.out.cell (World.block_lt_of_cell? w _ l_)).trans l_)
   replace Im := eq_true Im
   replace Io := eq_true Io
   refine fy (n := 13) (S := fun w' => w'.cell? ⟨iy, 0, none⟩ = some (.slice (some jH) an.length bl) ∧ w'.cell? (jH.add (bY).toNat) = some (.int .i64 (rd an bY))) (ds := []) (B_ 0 13) (by kernel_rfl) rfl rfl ⟨(aH cO.out 0).trans rfl, ((HB.out.cell (World.block_lt_of_cell? w _ fD)).trans fD)⟩ (fun hHeld => ?_); refine dv br.ak6 br.ZB (fun HT_ HW_ => ?_)
   generalize wr.drew = UB at bJ cO HB l_ hHeld ⊢
   refine b5 HT_ 1 32 (B_ 2 13) ?_
   refine b5 HT_ 3 34 (B_ 10 13) ?_
   refine ni HT_ HW_ hHeld 0 31 (B_ 11 13) ?_
   refine ni HT_ HW_ hHeld 2 33 (B_ 15 13) ?_
   refine b5 HT_ 4 35 (B_ 31 13) ?_
   refine ni HT_ HW_ hHeld 5 36 (B_ 63 13) ?_
   refine XE (σ := Value × Nat) 2 (B_ 2047 13) (fun s_ => [(37, .tuple #[.agg #[s_.1], .bool true]), (7, .pointer (some ⟨s_.2, 0, none⟩)), (30, .tuple #[.agg #[s_.1], .bool true]), (38, .agg #[s_.1]), (39, .bool true)]) (fun s_ w' => (w'.cell? ⟨iy, 0, none⟩ = some (.slice (some jH) an.length bl) ∧ w'.cell? (jH.add (bY).toNat) = some (.int .i64 (rd an bY))) ∧ (Kd.R (Kd.int .i64) 3 w' w.heap.size (fun _ => True) s_.1 lr) ∧ (Kd.S ix 26 w' w.heap.size (fun k_ => some k_ ≠ (s_.1 : Value).ownBlock ∧ k_ ≠ iy ∧ k_ ≠ s_.2) u4 bx) ∧ (w'.heap[iy]? = some (.cells #[.slice (some jH) an.length bl] 26 (0, 0))) ∧ (w'.heap[s_.2]? = some (.cells #[.slice none 0 0] 26 (0, 0))) ∧ (w.heap.size ≤ s_.2) ∧ (w.heap.size ≤ s_.2) ∧ (iy ≠ s_.2) ∧ (s_.2 ≠ iy) ∧ (Below w.heap.size w w')) ?_ ?_
   rotate_left
   · intro hCont
     refine aga (i := 6) (j := 10) (Ni := some 37) (Nj := some 7) (B_ 127 13) (B_ 1087 13) rfl rfl rfl rfl (Nv HT_.out (by kernel_rfl)) (by decide) (by decide) (fun K hK => ?_) (fun K hK => ?_)
     · skip
       refine gu Tryz.func46 (by kernel_rfl) rfl #[.agg #[.slice (some jH) an.length bl], .int .i64 (rd an bY)] (by rfl) rfl rfl (by (try simp only [List.map_toArray, List.map_cons, List.map_nil]); first | done | rfl | (simp only [List.length_drop, List.length_take]; rfl)) ?_
       with_reducible refine (bL.calls k1 _ _ an (rd an bY) lr true _ ?ah ?aj ZE.out).mono ?_
       (case ah => exact iZ bV HB)
       (case aj => exact cH.out)
       rintro e TK ⟨wj, rfl, b0, hb⟩
       refine ⟨_, rfl, ?_⟩
       replace bJ := aa.mk (Kd.oq (te bJ.out) (Kd.cV b0) hb)
       have kv := aa.mk (Kd.aW b0 (ag (bC HB)))
       replace cO := cn cO hb
       replace HB := eM HB hb
       (try clear hb)
       (try clear b0)
       refine hK.out _ _ ⟨(aH cO.out 0).trans rfl, ((HB.out.cell (World.block_lt_of_cell? w _ fD)).trans fD)⟩ (fun hHeld => ?_)
       clear hK K
       refine ep (a' := ?_) ?_ ?_
       rotate_left
       · show Act.put _ (some 37) _ = _
         simp only [Act.put, jK, jA, jB, b6, dw]
         rfl
       refine b5 HT_ 7 30 (B_ 255 13) ?_
       refine b5 HT_ 8 38 (B_ 511 13) ?_
       refine b5 HT_ 9 39 (B_ 1023 13) ?_
       refine o2 HT_ 10 7 (B_ 2047 13) (fun K hK => ?_)
       refine uj ?hg (N := 7) ?hd (cs := #[.slice none 0 0]) (t := 26) ?hr ?_; (case hd => rfl); (case hg => rfl); (case hr => first | (go_simp; done) | (go_simp; rfl))
       intro e8 hg DT hbox hb
       replace bJ := aa.mk (Kd.nT (Kd.pU (te bJ.out) e8 (Nat.le_of_eq hg.symm)) hb)
       replace kv := aa.mk (Kd.aY (b9 kv.out) hb)
       have iM := aa.mk (hbox)
       have nr := kW hg (bC HB)
       have uR := kW hg (bC HB)
       replace HB := eM HB hb
       have iF := mw hg cO
       have jq := my hg cO
       replace cO := cn cO hb
       clear hb hbox hg
       refine hK.out _ _ ⟨(aH cO.out 0).trans rfl, ((HB.out.cell (World.block_lt_of_cell? w _ fD)).trans fD)⟩ (fun hHeld => ?_)
       clear hK K
       refine ep (a' := ?_) ?_ ?_
       rotate_left
       · show Act.put _ (some 7) _ = _
         simp only [Act.put, jK, jA, jB, b6, dw]
         rfl
       exact ep (by simp only [qC, Act.put, jK, jA, jB]) (hCont (wj, e8) _ ⟨hHeld, (b9 kv.out), (te (Kd.iH bJ.out (fun _ hk => ⟨hk.1.2, ⟨hk.1.1, hk.2⟩⟩))), (cC cO.out), (cC iM.out), nr.out, uR.out, iF.out, jq.out, (bC HB)⟩)
     · skip
       refine uj ?hg (N := 7) ?hd (cs := #[.slice none 0 0]) (t := 26) ?hr ?_; (case hd => rfl); (case hg => rfl); (case hr => first | (go_simp; done) | (go_simp; rfl))
       intro e8 hg TK hbox hb
       replace bJ := aa.mk (Kd.nT (Kd.pU (te bJ.out) e8 (Nat.le_of_eq hg.symm)) hb)
       have iM := aa.mk (hbox)
       have nr := kW hg (bC HB)
       have uR := kW hg (bC HB)
       replace HB := eM HB hb
       have iF := mw hg cO
       have jq := my hg cO
       replace cO := cn cO hb
       clear hb hbox hg
       refine hK.out _ _ ⟨(aH cO.out 0).trans rfl, ((HB.out.cell (World.block_lt_of_cell? w _ fD)).trans fD)⟩ (fun hHeld => ?_)
       clear hK K
       refine ep (a' := ?_) ?_ ?_
       rotate_left
       · show Act.put _ (some 7) _ = _
         simp only [Act.put, jK, jA, jB, b6, dw]
         rfl
       refine o2 HT_ 6 37 (B_ 1151 13) (fun K hK => ?_)
       refine gu Tryz.func46 (by kernel_rfl) rfl #[.agg #[.slice (some jH) an.length bl], .int .i64 (rd an bY)] (by rfl) rfl rfl (by (try simp only [List.map_toArray, List.map_cons, List.map_nil]); first | done | rfl | (simp only [List.length_drop, List.length_take]; rfl)) ?_
       with_reducible refine (bL.calls k1 _ _ an (rd an bY) lr true _ ?ah ?aj ZE.out).mono ?_
       (case ah => exact iZ bV HB)
       (case aj => exact cH.out)
       rintro e DT ⟨wj, rfl, b0, hb⟩
       refine ⟨_, rfl, ?_⟩
       replace bJ := aa.mk (Kd.oq (te bJ.out) (Kd.cV b0) hb)
       have kv := aa.mk (Kd.aW b0 (ag (bC HB)))
       replace cO := cn cO hb
       replace iM := cn iM hb
       replace HB := eM HB hb
       (try clear hb)
       (try clear b0)
       refine hK.out _ _ ⟨(aH cO.out 0).trans rfl, ((HB.out.cell (World.block_lt_of_cell? w _ fD)).trans fD)⟩ (fun hHeld => ?_)
       clear hK K
       refine ep (a' := ?_) ?_ ?_
       rotate_left
       · show Act.put _ (some 37) _ = _
         simp only [Act.put, jK, jA, jB, b6, dw]
         rfl
       refine b5 HT_ 7 30 (B_ 1279 13) ?_
       refine b5 HT_ 8 38 (B_ 1535 13) ?_
       refine b5 HT_ 9 39 (B_ 2047 13) ?_
       exact ep (by simp only [qC, Act.put, jK, jA, jB]) (hCont (wj, e8) _ ⟨hHeld, (b9 kv.out), (te (Kd.iH bJ.out (fun _ hk => ⟨hk.2, ⟨hk.1.1, hk.1.2⟩⟩))), (cC cO.out), (cC iM.out), nr.out, uR.out, iF.out, jq.out, (bC HB)⟩)
   rintro ⟨wj, e8⟩ xV ⟨hS_, oc, h1_, h2_, h3_, h4_, h5_, h6_, h7_, h8_⟩
   have n5 : aa (Kd.R (Kd.int .i64) 3 xV w.heap.size (fun _ => True) wj lr) := ⟨oc⟩
   have n9 : aa (Kd.S ix 26 xV w.heap.size (fun k_ => some k_ ≠ (wj : Value).ownBlock ∧ k_ ≠ iy ∧ k_ ≠ e8) u4 bx) := ⟨h1_⟩
   have rp : aa (xV.heap[iy]? = some (.cells #[.slice (some jH) an.length bl] 26 (0, 0))) := ⟨h2_⟩
   have rq : aa (xV.heap[e8]? = some (.cells #[.slice none 0 0] 26 (0, 0))) := ⟨h3_⟩
   have ti : aa (w.heap.size ≤ e8) := ⟨h4_⟩
   have zH : aa (w.heap.size ≤ e8) := ⟨h5_⟩
   have BH : aa (iy ≠ e8) := ⟨h6_⟩
   have Ko : aa (e8 ≠ iy) := ⟨h7_⟩
   have Kp : aa (Below w.heap.size w xV) := ⟨h8_⟩
   clear bJ
   clear cO
   clear HB
   clear oc h1_ h2_ h3_ h4_ h5_ h6_ h7_ h8_
   have kv := n5
   have bJ := n9
   have cO := rp
   have iM := rq
   have nr := ti
   have uR := zH
   have iF := BH
   have jq := Ko
   have HB := Kp
   clear n5 n9 rp rq ti zH BH Ko Kp
   have hHeld : xV.cell? ⟨iy, 0, none⟩ = some (.slice (some jH) an.length bl) ∧ xV.cell? (jH.add (bY).toNat) = some (.int .i64 (rd an bY)) := hS_
   obtain ⟨kL, kM, zb⟩ := Kd.aN kv.out
   (first | subst zb | (injection zb with ox tM oy; have tN := ox.symm; have tO := oy.symm; clear ox tM oy; subst tN; subst tO))
   refine ep (a' := ?_) ?_ ?_
   rotate_left
   · simp only [qC, Act.put, jK, jA, jB]
     rfl
   refine AO (i := 11) (N := none) (B_ 4095 13) rfl rfl (vM HT_.out (by kernel_rfl)) (by decide) (fun K hK => ?_)
   have aBl : xV.cell? ⟨e8, 0, none⟩ = some (.slice none 0 0) := (aH iM.out 0).trans rfl
   have axk := af iM.out 0
   have aoY := iF.out
   have aoZ := jq.out
   refine Ns (w1 := ?_) (by rfl) rfl ?_ ?_
   rotate_left
   · go_simp
     rfl
   refine hK.out _ _ ⟨((cell_far (p := ⟨e8, _, none⟩) iF.out _).trans (hHeld.1)), ((cell_far (p := ⟨e8, _, none⟩) (by first | exact Nat.ne_of_lt (Nat.lt_of_lt_of_le (by have := World.block_lt_of_cell? _ _ fD; first | rwa [eW] at this | exact this) nr.out) | (rw [eW]; exact Nat.ne_of_lt (Nat.lt_of_lt_of_le (by have := World.block_lt_of_cell? _ _ fD; first | rwa [eW] at this | exact this) nr.out)) | (show (Addr.add _ _).block ≠ _; rw [eW]; exact Nat.ne_of_lt (Nat.lt_of_lt_of_le (by have := World.block_lt_of_cell? _ _ fD; first | rwa [eW] at this | exact this) nr.out)) | (dsimp only; exact Nat.ne_of_lt (Nat.lt_of_lt_of_le (by have := World.block_lt_of_cell? _ _ fD; first | rwa [eW] at this | exact this) nr.out))) _).trans (hHeld.2))⟩ (fun hHeld => ?_)
   clear hK K
   refine b5 HT_ 12 8 (B_ 8191 13) ?_
   refine ik (eS HT_.out (by kernel_rfl)) ?_
   have n5 : aa (Kd.S ix 26 (xV.setCell ⟨e8, 0, none⟩ (.slice kL lr.length kM)) w.heap.size (fun k_ => some k_ ≠ (.slice kL lr.length kM : Value).ownBlock ∧ k_ ≠ iy ∧ k_ ≠ e8) u4 bx) := ⟨te (Kd.iH (Kd.Ji (p := ⟨e8, 0, none⟩) (Kd.iH bJ.out (fun k_ hk => (⟨hk, hk.2.2⟩ : _ ∧ k_ ≠ e8))) (fun _ hk => hk.2) (.slice kL lr.length kM)) (fun _ hk => ⟨hk.1.1, ⟨hk.1.2.1, hk.1.2.2⟩⟩))⟩
   have n9 : aa (Kd.R (Kd.int .i64) 3 (xV.setCell ⟨e8, 0, none⟩ (.slice kL lr.length kM)) w.heap.size (fun _ => True) (.slice kL lr.length kM) lr) := ⟨by (with_reducible repeat (first | apply Kd.bQ | apply Kd.bT | apply Kd.bR)); exact Kd.bB (Kd.iJ (p := ⟨e8, 0, none⟩) (Kd.cI kv.out iM.out (by decide)) (fun _ hk => hk.2) (.slice kL lr.length kM)) (fun _ hk => trivial)⟩
   have rp : aa ((xV.setCell ⟨e8, 0, none⟩ (.slice kL lr.length kM)).heap[iy]? = some (.cells #[.slice (some jH) an.length bl] 26 (0, 0))) := ⟨pB cO⟩
   have rq : aa ((xV.setCell ⟨e8, 0, none⟩ (.slice kL lr.length kM)).heap[e8]? = some (.cells #[.slice kL lr.length kM] 26 (0, 0))) := ⟨mz iM⟩
   have ti : aa (Below w.heap.size w (xV.setCell ⟨e8, 0, none⟩ (.slice kL lr.length kM))) := ⟨bC HB⟩
   (try clear bJ)
   (try clear kv)
   (try clear cO)
   (try clear iM)
   (try clear HB)
   generalize (xV.setCell ⟨e8, 0, none⟩ (.slice kL lr.length kM)) = Eo at n5 n9 rp rq ti ⊢
   have bJ := n5
   have kv := n9
   have cO := rp
   have iM := rq
   have HB := ti
   clear n5 n9 rp rq ti
   have Zd := jq.out
   have Ze := iF.out
   have yb : Eo.cell? ⟨e8, 0, none⟩ = some (.slice kL lr.length kM) := (aH iM.out 0).trans rfl
   have yc := af iM.out 0
   try go_wp2_with (first | ((with_reducible refine gate_builtin (b := .append) (xs := #[.tmp 43, .tmp 45]) rfl ?_); at_builtin; refine Kd.D5 ix (w0 := w) w.heap.size rfl (.tmp 43) (.tmp 45) 30 26 (.agg #[(.slice none 0 0)]) 24 rfl Tryz.underlying30 pG rfl (by decide) (by omega) u4 bx (⟨lr⟩ : cT) [.slice kL lr.length kM] (fun k_ => k_ ≠ iy ∧ k_ ≠ e8) (fun k_ => some k_ = (.slice kL lr.length kM : Value).ownBlock) rfl rfl ?aP (fun k_ hk_ => ((Kd.bB (ok' := fun k_ => ((fun k_ => k_ ≠ iy ∧ k_ ≠ e8)) k_ ∧ some k_ ≠ (u4 : Value).ownBlock) (Kd.cI (Kd.cI (Kd.lJ (kv.out) (Kd.xQ bJ.out) (by decide)) cO.out (by decide)) iM.out (by decide)) (fun k_ hk => ⟨⟨hk.1.2, hk.2⟩, hk.1.1.2⟩))).1 k_ hk_.symm) ?aF ?aO ?aB ?aS ?aL ?_; (case aP => exact Jm _ _ _ (⟨lr⟩ : cT) (Kd.bB (Kd.Cn rfl (Kd.bB (ok' := fun k_ => ((fun k_ => k_ ≠ iy ∧ k_ ≠ e8)) k_ ∧ some k_ ≠ (u4 : Value).ownBlock) (Kd.cI (Kd.cI (Kd.lJ (kv.out) (Kd.xQ bJ.out) (by decide)) cO.out (by decide)) iM.out (by decide)) (fun k_ hk => ⟨⟨hk.1.2, hk.2⟩, hk.1.1.2⟩))) (fun _ h_ => h_))); (case aB => exact (bC HB)); (case aF => exact (fun k_ hk => ⟨Kd.dX (g := iy) (o := .cells #[.slice (some jH) an.length bl] 26 (0, 0)) (cC cO.out) k_ hk, Kd.dX (g := e8) (o := .cells #[.slice kL lr.length kM] 26 (0, 0)) (cC iM.out) k_ hk⟩)); (case aO => exact (te (Kd.iH bJ.out (fun k_ hk => ⟨⟨hk.2.1, hk.2.2⟩, fun e_ => hk.1 e_⟩)))); (case aS => exact (ag (bC HB))); (case aL => have := Ot.out; omega); intro aBm w29 ho hb hg hat; rw [← alk.out] at ho; replace cO := aa.mk (cS (cC cO.out) hg (Kd.Co bJ.out (fun _ hk => hk.2.1))); replace iM := aa.mk (cS (cC iM.out) hg (Kd.Co bJ.out (fun _ hk => hk.2.2))); replace HB := aa.mk (hb); have alm := aa.mk (ho); clear bJ kv; clear ho hb hg hat))
   go_roundg k1
   case measure => have := fu.out; omega
   case rel => exact ⟨(alj), (wrap64 (bY + 1)), eF, H', ⟨by have := fu.out; omega⟩, ⟨te (Kd.iH alm.out (fun _ hk => hk.1))⟩, ⟨cC cO.out⟩, ⟨bC HB⟩⟩
def gQ.f (k : Nat) (l0 : List Int) : Option (Int) := (eh.f k l0).bind fun Rc => ((dQ.f Rc.1 Rc.2.1 Rc.2.2 (([0, 1, 2, 3, 4, 5, 3, 4, (-1), 9] : List Int))).bind fun Re => (some Re.1))
theorem gQ.calls (k : Nat) (A0 : Option Addr) (c0 : Nat) (l0 : List Int) (r : Int) (w : World) (fH : Kd.C (Kd.int .u8) w A0 l0.length l0) (gL : l0.length ≤ c0) (h : gQ.f k l0 = some r) :
 Calls Tryz.prog 12 #[.slice A0 l0.length c0] w fun e w' => e = .returned (.int .i64 r) ∧ Below w.heap.size w w' := by
 have eZ := aa.mk fH
 have jN := aa.mk gL
 clear fH gL
 have HB := aa.mk (Below.refl w.heap.size w)
 have H := h
 clear h
 unfold gQ.f at H
 obtain ⟨⟨V4, V5, V6⟩, A2, H⟩ := eA H
 (try dsimp only at H)
 obtain ⟨aec, Rf⟩ : ∃ y_ : List Int, y_ = (([0, 1, 2, 3, 4, 5, 3, 4, (-1), 9] : List Int)) := ⟨_, rfl⟩
 replace H : ((dQ.f V4 V5 V6 aec).bind fun Re => (some Re.1)) = some r := by subst Rf; exact H
 have ZG := aa.mk Rf
 clear Rf
 obtain ⟨⟨asX, asY, asZ⟩, A3, H⟩ := eA H
 (try dsimp only at H)
 obtain rfl := Option.some.inj H
 go_enter Tryz.func12, Tryz.ntmps12
 go_wp2_with (first | ((with_reducible refine gate_callee (f := 35) rfl ?_); refine dU (some 4) Tryz.func35 #[.slice A0 l0.length c0] ?_; (with_reducible refine (eh.calls k _ _ l0 V4 V5 V6 w _ ?ah ?aj ?fB A2.out).mono ?_); (case ah => exact bC HB); (case aj => exact eZ.out); (case fB => exact jN.out); rintro e w4 ⟨aed, rfl, hi, hb, vA⟩; refine ⟨_, rfl, ?_⟩; replace HB := aa.mk (hb); have tx := aa.mk (hi); (try clear hb); (try clear vA); (try clear hi)) | ((with_reducible refine gate_dst (N := 5) rfl ?_); refine Kd.iK (Kd.int .i64) _ 3 ?hg (N := 5) ?hd (xs := ([0, 1, 2, 3, 4, 5, 3, 4, (-1), 9] : List Int)) (inner := [.int .i64 0, .int .i64 1, .int .i64 2, .int .i64 3, .int .i64 4, .int .i64 5, .int .i64 3, .int .i64 4, .int .i64 (-1), .int .i64 9]) (ok := fun _ => True) (okp := fun _ => True) ?hr ?hp (fun _ hk => hk) trivial (Below.refl _ _) (Nat.le_refl _) (by simp) ?_; (case hd => rfl); (case hg => rfl); (case hr => first | (go_simp; done) | (go_simp; rfl)); (case hp => exact (bE.one (show Kd.M (Kd.int .i64) _ _ _ 0 [.int .i64 0] from rfl) (bE.one (show Kd.M (Kd.int .i64) _ _ _ 1 [.int .i64 1] from rfl) (bE.one (show Kd.M (Kd.int .i64) _ _ _ 2 [.int .i64 2] from rfl) (bE.one (show Kd.M (Kd.int .i64) _ _ _ 3 [.int .i64 3] from rfl) (bE.one (show Kd.M (Kd.int .i64) _ _ _ 4 [.int .i64 4] from rfl) (bE.one (show Kd.M (Kd.int .i64) _ _ _ 5 [.int .i64 5] from rfl) (bE.one (show Kd.M (Kd.int .i64) _ _ _ 3 [.int .i64 3] from rfl) (bE.one (show Kd.M (Kd.int .i64) _ _ _ 4 [.int .i64 4] from rfl) (bE.one (show Kd.M (Kd.int .i64) _ _ _ (-1) [.int .i64 (-1)] from rfl) (bE.one (show Kd.M (Kd.int .i64) _ _ _ 9 [.int .i64 9] from rfl) (bE.none _ _)))))))))))); intro aBn w5 pX hb hg_ hnew_; clear hg_ hnew_; (first | rw [← ZG.out] at pX | (simp only [Int.reduceToNat] at pX; rw [← ZG.out] at pX)); have BL := aa.mk (Kd.aW pX (ag (gF HB (ae.ge tx.out)))); replace HB := aa.mk (b7 (gF HB (ae.ge tx.out)) hb); replace tx := aa.mk (ae.below (ae.q_ tx) hb); clear hb pX; obtain ⟨AH, sP, Bo⟩ := Kd.aN BL.out; subst Bo) | ((with_reducible refine gate_callee (f := 47) rfl ?_); refine dU (some 6) Tryz.func47 #[.pointer (some ⟨aed, 0, none⟩), .slice AH aec.length sP] ?_; (with_reducible refine (dQ.calls aed V4 V5 V6 _ _ aec asX asY asZ w _ ?ah ?aj ?fB ?hD ?zC A3.out).mono ?_); (case ah => exact ae.q_ tx); (case aj => exact gF HB (ae.ge tx.out)); (case fB => exact kx ((Kd.ao BL.out).2.2)); (case hD => exact (Kd.ao BL.out).2.1); (case zC => exact sI (ae.mK tx.out BL.out (by decide))); rintro e w8 ⟨rfl, hi, hb, hk⟩; refine ⟨_, rfl, ?_⟩; replace BL := aa.mk (Kd.bB (Kd.lI (ae.apart (show ae w _ aed V4 V5 V6 from ae.q_ tx) (b9 BL.out) (by decide)) hk (fun _ h => h.2)) (fun _ h => h.1)); replace HB := aa.mk (hb); replace tx := aa.mk (hi); (try clear hb); (try clear hk); (try clear hi)))
 go_ret
 exact ⟨ig, gF HB (ae.ge tx.out)⟩
end Go.Proofs.YtjodlkbhaofkkaaGreat.PA
end
section
namespace Go.Proofs.YtjodlkbhaofkkaaGreat.E
open Go.RowKit Go.Proofs.YtjodlkbhaofkkaaGreatW.PrintWords Go.Proofs.YtjodlkbhaofkkaaGreatW.PrintLast Go.Proofs.YtjodlkbhaofkkaaGreatW.PrintMore
set_option linter.unusedVariables false
set_option linter.unusedSimpArgs false
theorem iw {x : Int} (h1 : -9223372036854775808 ≤ x) (h2 : x ≤ 9223372036854775807) : wrap64 x = x := by
 unfold wrap64; omega
theorem aln {p : Prop} [Decidable p] (h : ¬ p) : (!decide p) = true := by simp [h]
theorem as0 {p : Prop} [Decidable p] (h : p) : ¬ (!decide p) = true := by simp [h]
theorem Di {n x : Int} (h : 0 ≤ n) (hx : 0 < x) : n % x ≤ n := by
 have h1 := Int.mul_ediv_add_emod n x
 have h2 : 0 ≤ x * (n / x) := Int.mul_nonneg (by omega) (Int.ediv_nonneg h (by omega))
 omega
theorem ab {α : Type} {c : Prop} [Decidable c] {a b : Nat → Option α} {r : α} (h : c) (k : Ev a r) : Ev (fun n => if c then a n else b n) r :=
 Ev.congr (fun _ => if_pos h) k
theorem ax {α : Type} {c : Prop} [Decidable c] {a b : Nat → Option α} {r : α} (h : ¬ c) (k : Ev b r) : Ev (fun n => if c then a n else b n) r :=
 Ev.congr (fun _ => if_neg h) k
theorem au {α β : Type} {g : Nat → Option α} {f : Nat → α → Option β} (a : α) {r : β} (h : Ev g a) (k : Ev (fun n => f n a) r) : Ev (fun n => (g n).bind (f n)) r := Ev.bind h k
theorem Dj {α : Type} {g : Nat → Option α} {a b : α} (h : Ev g a) (k : Ev g b) : a = b := by
 obtain ⟨K, h⟩ := h
 obtain ⟨L, k⟩ := k
 have h1 := h (max K L) (by omega)
 have h2 := k (max K L) (by omega)
 rw [h1] at h2
 exact Option.some.inj h2
theorem en {α : Type} {g : Nat → Option α} {a b : α} (h : Ev g a) (e : a = b) : Ev g b := e ▸ h
theorem nL {l : List Int} {i : Int} (h0 : 0 ≤ i) (h : i < l.length) : rd l i = l[i.toNat]'(by omega) := by
 unfold rd; rw [List.getD_eq_getElem?_getD, List.getElem?_eq_getElem (by omega)]; rfl
theorem jh {l : List Int} {i : Int} (h0 : 0 ≤ i) (h : i < l.length) : rd l i ∈ l := by
 rw [nL h0 h]; exact List.getElem_mem _
theorem jj {l : List Int} {i : Int} (h0 : 0 ≤ i) (h : i < l.length) : l.drop i.toNat = rd l i :: l.drop (i + 1).toNat := by
 rw [nL h0 h, List.drop_eq_getElem_cons (by omega)]
 congr 2; omega
theorem yg {l : List Int} {i : Int} (h0 : 0 ≤ i) (h : i < l.length) : l.take (i + 1).toNat = l.take i.toNat ++ [rd l i] := by
 rw [nL h0 h, show (i + 1).toNat = i.toNat + 1 from by omega, List.take_succ_eq_append_getElem (by omega)]
theorem Rg {l m : List Int} (hl : l.length = m.length) (h : ∀ i : Int, 0 ≤ i → i < l.length → rd l i = rd m i) : l = m := by
 refine List.ext_getElem hl fun n h1 h2 => ?_
 have := h n (by omega) (by omega)
 rw [nL (by omega) (by omega), nL (by omega) (by omega)] at this
 simpa using this
theorem tV {l : List Int} {i j : Int} (x : Int) (hi : 0 ≤ i) (hi' : i < l.length) (hj : 0 ≤ j) : rd (l.set i.toNat x) j = if j = i then x else rd l j := by
 unfold rd
 rw [List.getD_eq_getElem?_getD, List.getD_eq_getElem?_getD, List.getElem?_set]
 by_cases h : j = i
 · subst h; rw [if_pos rfl, if_pos rfl, if_pos (by omega)]; rfl
 · rw [if_neg h, if_neg (by omega)]
theorem Mz {l m : List Int} {i : Int} (hi : 0 ≤ i) : rd (l ++ m) i = if i < l.length then rd l i else rd m (i - l.length) := by
 unfold rd
 rw [List.getD_eq_getElem?_getD, List.getD_eq_getElem?_getD, List.getD_eq_getElem?_getD, List.getElem?_append]
 by_cases h : i < l.length
 · rw [if_pos h, if_pos (by omega)]
 · rw [if_neg h, if_neg (by omega), show i.toNat - l.length = (i - l.length).toNat from by omega]
theorem Rh {n : Nat} {x : Int} {i : Int} (hi : 0 ≤ i) (h : i < n) : rd (List.replicate n x) i = x := by
 rw [nL hi (by simpa using h)]; simp
theorem pO {l : List Int} {x : Int} (h : x ∈ l) : ∃ i : Int, 0 ≤ i ∧ i < l.length ∧ rd l i = x := by
 obtain ⟨n, hn, rfl⟩ := List.mem_iff_getElem.1 h
 exact ⟨n, by omega, by omega, by rw [nL (by omega) (by omega)]; simp⟩
def E4 {α : Type} : Result α → World
 | .ok _ w => w
 | .halt _ w => w
theorem Ip {α : Type} : ∀ (k : Ask α) (w : World), w.drawn ≤ (w.ask k).2.drawn
 | .done a, w => Nat.le_refl _
 | .ask what range k, w => by
  unfold World.ask
  simp only
  split
  · exact Ip (k 0) w
  · exact Nat.le_trans (Nat.le_succ _) (Ip (k _) { w with drawn := w.drawn + 1 })
theorem Ri (w : World) (c : Sys) : w.drawn ≤ (w.sys c).2.drawn := by
 have h := Ip (Kernel.perform c w.os) w
 unfold World.sys
 split
 · exact Nat.le_refl _
 · rename_i r os w1 _ e; rw [e] at h; exact h
theorem Rj {p : Program} {w w' : World} {a : Addr} {v : Value} {b : Bool} {t : List Addr} (h : w.farStore p a v b = .ok (w', t)) : w'.drawn = w.drawn := by
 unfold World.farStore at h
 split at h
 · split at h
   · rename_i r e
     injection h with h; subst h
     unfold World.viewStore at e
     simp only [bind, Except.bind, pure, Except.pure, throw, throwThe, MonadExceptOf.throw] at e
     repeat' split at e
     all_goals first | (injection e with e; injection e with e _; rw [← e]) | cases e
   · cases h
 · cases h
theorem BM (w : World) (a : Addr) (n : Nat) : (w.freeze a n).drawn = w.drawn := by unfold World.freeze; split <;> rfl
theorem qV {α : Type} (p : Program) (s : Sem α) : ∀ (w : World) (es : Array Event), w.drawn ≤ (E4 (s.runT p w es).1).drawn := by
 induction s with
 | pure a => intro w es; exact Nat.le_refl _
 | halt h => intro w es; exact Nat.le_refl _
 | load m a k ih =>
  intro w es; unfold Sem.runT
  split
  · exact ih _ w _
  · split
    · exact ih _ w _
    · exact Nat.le_refl _
 | store m a v k ih =>
  intro w es
  have c : w.drawn ≤ (E4 (match w.cell? a with
   | some _ => if w.frozen? a then (.halt (.unsupported (.unsafePointer "a write to bytes that a string shares")) w, es) else k.runT p (w.setCell a v) (es.push ⟨.cell a, true, m == .atomic⟩)
   | none => match w.farStore p a v (m == .atomic) with
    | .ok (w, touched) => k.runT p w (es ++ touched.toArray.map (⟨.cell ·, true, m == .atomic⟩))
    | .error h => (.halt h w, es) : Result α × Array Event).1).drawn := by
   split
   · split
     · exact Nat.le_refl _
     · exact ih (w.setCell a v) _
   · split
     · rename_i e; rw [← Rj e]; exact ih _ _
     · exact Nat.le_refl _
  cases v <;> first | exact c | exact Nat.le_refl _
 | new o k ih => intro w es; exact ih _ { w with heap := w.heap.push o } es
 | shape r k ih => intro w es; exact ih _ w es
 | freeze a n k ih => intro w es; have := ih (w.freeze a n) es; rw [BM] at this; exact this
 | frozen a k ih => intro w es; exact ih _ w es
 | getObj r k ih => intro w es; unfold Sem.runT; split <;> first | exact Nat.le_refl _ | exact ih _ w _
 | setObj r o k ih => intro w es; unfold Sem.runT; split <;> first | exact Nat.le_refl _ | exact ih { w with heap := w.heap.setIfInBounds r o } _
 | choose q k ih =>
  intro w es; unfold Sem.runT; split
  · exact ih _ w _
  · exact Nat.le_trans (Nat.le_succ _) (ih _ { w with drawn := w.drawn + 1 } _)
 | sys c k ih => intro w es; exact Nat.le_trans (Ri w c) (ih _ (w.sys c).2 _)
 | program k ih => intro w es; exact ih p w es
 | mark m k ih => intro w es; exact ih w _
theorem Rk {α : Type} (p : Program) (s : Sem α) : ∀ (w : World), w.drawn ≤ (E4 (s.run p w)).drawn := by
 induction s with
 | pure a => intro w; exact Nat.le_refl _
 | halt h => intro w; exact Nat.le_refl _
 | load m a k ih =>
  intro w; unfold Sem.run
  split
  · exact ih _ w
  · split
    · exact ih _ w
    · exact Nat.le_refl _
 | store m a v k ih =>
  intro w
  have c : w.drawn ≤ (E4 (match w.cell? a with
   | some _ => if w.frozen? a then .halt (.unsupported (.unsafePointer "a write to bytes that a string shares")) w else k.run p (w.setCell a v)
   | none => match w.farStore p a v (m == .atomic) with
    | .ok (w, _) => k.run p w
    | .error h => .halt h w : Result α)).drawn := by
   split
   · split
     · exact Nat.le_refl _
     · exact ih (w.setCell a v)
   · split
     · rename_i e; rw [← Rj e]; exact ih _
     · exact Nat.le_refl _
  cases v <;> first | exact c | exact Nat.le_refl _
 | new o k ih => intro w; exact ih _ { w with heap := w.heap.push o }
 | shape r k ih => intro w; exact ih _ w
 | freeze a n k ih => intro w; have := ih (w.freeze a n); rw [BM] at this; exact this
 | frozen a k ih => intro w; exact ih _ w
 | getObj r k ih => intro w; unfold Sem.run; split <;> first | exact Nat.le_refl _ | exact ih _ w
 | setObj r o k ih => intro w; unfold Sem.run; split <;> first | exact Nat.le_refl _ | exact ih { w with heap := w.heap.setIfInBounds r o }
 | choose q k ih =>
  intro w; unfold Sem.run; split
  · exact ih _ w
  · exact Nat.le_trans (Nat.le_succ _) (ih _ { w with drawn := w.drawn + 1 })
 | sys c k ih => intro w; exact Nat.le_trans (Ri w c) (ih _ (w.sys c).2)
 | program k ih => intro w; exact ih p w
 | mark m k ih => intro w; exact ih w
theorem DV {α : Type} {p : Program} {s : Sem α} {w : World} {r : Result α} (h : s.run p w = r) : w.drawn ≤ (E4 r).drawn := h ▸ Rk p s w
theorem as1 {α : Type} {p : Program} {s : Sem α} {w : World} {es es' : Array Event} {r : Result α} (h : s.runT p w es = (r, es')) : w.drawn ≤ (E4 r).drawn := by
 have := qV p s w es; rw [h] at this; exact this
def qp (d : Nat) : GStep → Prop
 | .ended .. => True
 | .go _ w _ | .comm _ _ _ _ w _ | .spawn _ _ w _ | .count _ w _ | .timer _ _ w _ | .alone _ _ w _ | .newcoro _ _ _ w _ | .coroswitch _ _ _ w _ | .collect _ w _ | .watch _ w _ => d ≤ w.drawn
theorem qp.after {d : Nat} {es : Array Event} {s : GStep} (h : qp d s) : qp d (GStep.after es s) := by cases s <;> exact h
theorem qp.up {d d' : Nat} {s : GStep} (h : qp d s) (k : d' ≤ d) : qp d' s := by cases s <;> first | trivial | exact Nat.le_trans k h
theorem r4 (p : Program) (main : Bool) (fr : Frame) (cs : List Frame) (dy : Option Dying) (v : Value) (w : World) : qp w.drawn (doReturn p main fr cs dy v w) := by
 unfold doReturn
 repeat' split
 all_goals first | trivial | exact Nat.le_refl _
theorem Iq (w : World) (fd : Nat) (t : ByteArray) (o : Outcome) (d : Nat) : qp d (endWith w fd t o) := by
 unfold endWith; simp only
 repeat' split
 all_goals trivial
theorem pd (fr : Frame) (m : String) (w : World) : qp w.drawn (endThrow fr m w) := Nat.le_refl _
theorem r5 (p : Program) (fr : Frame) (v : Value) (w : World) : qp w.drawn (endPrinting p fr v w) := by
 unfold endPrinting; simp only
 split
 · exact pd _ _ _
 · trivial
theorem xb (p : Program) (fr : Frame) (cs : List Frame) (dy : Option Dying) (m : String) (w : World) : qp w.drawn (endFatal p fr cs dy m w) := by
 unfold endFatal; simp only
 split
 · rename_i h; exact DV h
 · trivial
 · trivial
theorem qp.ite {c : Prop} [Decidable c] {d : Nat} {a b : GStep} (h : qp d a) (k : qp d b) : qp d (if c then a else b) := by split <;> assumption
theorem xJ (p : Program) (fr : Frame) (cs : List Frame) (dy : Option Dying) (df : Deferred) (w : World) : qp w.drawn (callDeferred p fr cs dy df w) := by
 unfold callDeferred
 refine qp.ite trivial ?_
 have h := qV p (invoke df.target df.args) w #[]
 generalize (invoke df.target df.args).runT p w #[] = y at h ⊢
 obtain ⟨r, es⟩ := y
 simp only
 refine qp.after ?_
 split
 all_goals first | trivial | exact h | (split <;> exact h) | exact (xb _ _ _ _ _ _).up h | exact (pd _ _ _).up h
theorem MA (p : Program) (main : Bool) (fr : Frame) (cs : List Frame) (dy : Option Dying) (w : World) : qp w.drawn (unwind p main fr cs dy w) := by
 unfold unwind
 split
 · rename_i b _ ds _
   have h := qV p (Instr.takeDeferred b) w #[]
   generalize (Instr.takeDeferred b).runT p w #[] = y at h ⊢
   obtain ⟨r, es⟩ := y
   simp only
   refine qp.after ?_
   split
   · exact h
   · trivial
 · exact xJ _ _ _ _ _ _
 · split
   · trivial
   · split
     · trivial
     · split
       · exact Nat.le_refl _
       · split
         · split
           · exact Nat.le_refl _
           · split
             · rename_i h; exact DV h
             · trivial
             · trivial
         · split
           · exact r5 _ _ _ _
           · trivial
   · split
     · exact r4 _ _ _ _ _ _ _
     · rename_i fn _
       have h := qV p (results fn fr.tmps) w #[]
       generalize (results fn fr.tmps).runT p w #[] = y at h ⊢
       obtain ⟨r, es⟩ := y
       simp only
       refine qp.after ?_
       split
       · exact (r4 _ _ _ _ _ _ _).up h
       · trivial
       · trivial
theorem Ir (p : Program) (fr : Frame) (dy : Dying) (f : Fatal) (w : World) : qp w.drawn (writeOn p fr dy f w) := by
 unfold writeOn; simp only
 split
 · trivial
 · split <;> first | trivial | (rename_i h; exact as1 h)
theorem aee (p : Program) (fr : Frame) (dy : Dying) (w : World) : qp w.drawn (die p fr dy w) := by
 unfold die
 split
 · exact Ir _ _ _ _ _
 · split
   · split
     · exact Nat.le_refl _
     · exact Iq _ _ _ _ _
   · split
     · exact Nat.le_refl _
     · split
       · rename_i h; exact DV h
       · trivial
     · rename_i t recv name _
       have h := qV p (invoke (.fn (.method name) #[]) #[.iface t recv]) w #[]
       generalize (invoke (.fn (.method name) #[]) #[.iface t recv]).runT p w #[] = y at h ⊢
       obtain ⟨r, es⟩ := y
       simp only
       refine qp.after ?_
       split
       · exact h
       · exact h
       · trivial
       · exact (r5 _ _ _ _).up h
       · trivial
     · trivial
theorem Rl (p : Program) (fr : Frame) (cs : List Frame) (dy : Option Dying) (g : Nat) (w : World) : qp w.drawn (early p fr cs dy g w) := by
 have N : ∀ W : World, qp W.drawn (match W.heap[g]? with
  | some (.pending c elem) => GStep.go { frame := fr, callers := cs, status := .running, dying := dy } { W with heap := W.heap.setIfInBounds g (.cells c elem) }
  | _ => .ended (.stuck "early: the variable does not wait" (fr.pos p)) W) := fun W => by
  split
  · exact Nat.le_refl _
  · trivial
 unfold early; simp only
 split
 · exact N w
 split
 · trivial
 split
 · exact N w
 split
 · exact N w
 split
 · trivial
 · exact Nat.le_refl _
 · trivial
 · exact N w
 · split
   · exact Nat.le_refl _
   split
   · exact N w
   split
   · rename_i h; exact (N _).up (DV h)
   · rename_i h; exact DV h
   · trivial
theorem uS (p : Program) (listen : Bool) (fr : Frame) (cs : List Frame) (dy : Option Dying) (s : Sem Next) (w : World) : qp w.drawn (stepG.apply p listen fr cs dy s w) := by
 unfold stepG.apply
 have h : w.drawn ≤ (E4 (if listen then s.runT p w #[] else (s.run p w, #[])).1).drawn := by
  split
  · exact qV p s w #[]
  · exact Rk p s w
 generalize (if listen then s.runT p w #[] else (s.run p w, #[])) = y at h ⊢
 obtain ⟨r, es⟩ := y
 simp only
 refine qp.after ?_
 split
 all_goals first | trivial | exact h | (refine qp.ite ?_ ?_ <;> first | exact (pd _ _ _).up h | exact h) | exact (xb _ _ _ _ _ _).up h | exact (pd _ _ _).up h | exact (Rl _ _ _ _ _ _).up h | (split <;> first | exact h | trivial)
theorem V7 (p : Program) (listen : Bool) (fr : Frame) (cs : List Frame) (dy : Option Dying) (w : World) : qp w.drawn (stepG.oper p listen fr cs dy w) := by
 unfold stepG.oper
 split
 · trivial
 · split <;> exact uS _ _ _ _ _ _ _
theorem aef {α : Type} {p : Program} {s : Sem α} {w : World} {es : Array Event} {r : Result α} (h : (s.runT p w es).1 = r) : w.drawn ≤ (E4 r).drawn := h ▸ qV p s w es
theorem V8 (p : Program) (main listen : Bool) (fr : Frame) (cs : List Frame) (dy : Option Dying) (w : World) : qp w.drawn (stepG.exec p main listen fr cs dy w) := by
 have L : ∀ (g : GStep) (j : Option Code), qp w.drawn g → qp w.drawn (match fr.roundOf with
  | none => g
  | some l =>
   GStep.after (seen p fr.fn (Sem.runT p (Instr.endRound l j) w #[]).snd)
    (match (Sem.runT p (Instr.endRound l j) w #[]).fst with
    | .ok v w => doReturn p main fr cs dy v w
    | .halt h w => .ended (.stuck "range over a function: no such loop" (fr.pos p)) w)) := fun g j hg => by
  split
  · exact hg
  · refine qp.after ?_
    split
    · rename_i h; exact (r4 _ _ _ _ _ _ _).up (aef h)
    · trivial
 have G : ∀ {α : Type} (o : Option α) (g : GStep) (f : α → GStep), qp w.drawn g → (∀ a, qp w.drawn (f a)) → qp w.drawn (o.elim g f) := fun o g f h k => by cases o <;> first | exact h | exact k _
 unfold stepG.exec
 simp only
 split
 all_goals first | exact L _ _ (qp.ite (Nat.le_refl _) trivial) | exact Nat.le_refl _ | trivial | exact uS _ _ _ _ _ _ _ | skip
 all_goals try (refine G _ _ _ ?_ (fun _ => ?_) <;> first | exact L _ _ (qp.ite (Nat.le_refl _) trivial) | exact L _ _ trivial | trivial | exact Nat.le_refl _ | exact uS _ _ _ _ _ _ _)
 all_goals try refine qp.after ?_
 all_goals repeat' split
 all_goals first | trivial | exact Nat.le_refl _ | exact V7 _ _ _ _ _ _ | (rename_i h; exact (uS _ _ _ _ _ _ _).up (aef h)) | (rename_i h; exact aef h) | (rename_i h; exact DV h) | skip
theorem Rm (p : Program) (main : Bool) (g : Goroutine) (w : World) (listen : Bool) : qp w.drawn (stepG p main g w listen) := by
 unfold stepG
 simp only
 split
 · exact aee _ _ _ _
 · exact V8 _ _ _ _ _ _ _
 · exact MA _ _ _ _ _ _
def Rn (d : Nat) : Stepped → Prop
 | .next m => d ≤ m.world.drawn
 | .ended .. => True
theorem Dk (p : Program) (gs : Array Goroutine) (rest : Rest) (w : World) : Rn w.drawn (look p gs rest w) := by
 unfold look
 simp only
 split
 · split
   · trivial
   · split
     · trivial
     · split
       · rename_i h; exact DV h
       · trivial
       · trivial
 · trivial
theorem Is {rest : Rest} {cases : Array CommCase} {w w' : World} (h : waitingAt rest cases w = some w') : w'.drawn = w.drawn := by
 unfold waitingAt at h
 split at h
 · split at h
   · injection h with h; rw [← h]
   · cases h
 · injection h with h; rw [h]
theorem V9 (p : Program) (rest : Rest) (gs : Array Goroutine) (i : Nat) (g : Goroutine) (cases : Array CommCase) (b : Bool) (sh : CommShape) (w : World) : Rn w.drawn (communicate p rest gs i g cases b sh w).1 := by
 unfold communicate
 simp only
 split
 · trivial
 · split
   · split
     · split
       · rename_i h; exact Nat.le_of_eq (Is h).symm
       · trivial
     · exact Nat.le_refl _
   · split
     · trivial
     · rename_i h
       have h := DV h
       split
       · split
         · rename_i h2; exact Nat.le_trans h (DV h2)
         · trivial
       · exact h
       · exact h
       · split
         · exact h
         · split
           · rename_i h2; exact Nat.le_trans h (DV h2)
           · trivial
       · exact h
       · exact h
       · trivial
theorem Rn.up {d d' : Nat} {s : Stepped} (h : Rn d s) (k : d' ≤ d) : Rn d' s := by cases s <;> first | trivial | exact Nat.le_trans k h
theorem Ro (p : Program) (m : Machine) (k : Nat) : Rn m.world.drawn (serve p m k) := by
 unfold serve
 split
 · trivial
 · exact Nat.le_refl _
 · simp only
   split
   · trivial
   · exact Nat.le_refl _
theorem Rp (w : World) (c : Nat) : (drain w c).2.drawn = w.drawn := by unfold drain; split <;> rfl
theorem BN (m : Machine) (k : Nat) (t : Timer) (a b : Nat) : (retime m k t a b).2.world.drawn = m.world.drawn := by
 unfold retime
 cases t.chan with
 | none => rfl
 | some c => exact Rp _ _
theorem E5 {m : Machine} {var : Addr} {f : Nat → Timer → Value × Machine} {d : Nat} (hf : ∀ k t, (f k t).2.world.drawn = d) {v : Value} {m' : Machine} (h : timerOp.named m var f = .ok (v, m')) : m'.world.drawn = d := by
 unfold timerOp.named at h
 split at h
 · injection h with h; rw [← hf _ _, h]
 · cases h
theorem Rq {m m' : Machine} {op : TimerOp} {v : Value} (h : timerOp m op = .ok (v, m')) : m'.world.drawn = m.world.drawn := by
 unfold timerOp at h
 split at h
 · split at h
   · injection h with h; injection h with _ h; rw [← h]; rfl
   · split at h
     · split at h
       · cases h
       · injection h with h; injection h with _ h; rw [← h]
     · cases h
 · exact E5 (fun _ _ => BN _ _ _ _ _) h
 · split at h
   · rename_i m1 e
     have : m1.world.drawn = m.world.drawn := by
      unfold timerOp.opened at e
      split at e
      · split at e
        · injection e with e; rw [← e]
        · cases e
      · injection e with e; rw [e]
     rw [← this]
     exact E5 (fun _ _ => BN _ _ _ _ _) h
   · cases h
 · simp only at h; injection h with h; injection h with _ h; rw [← h]; rfl
theorem V_ (p : Program) (m : Machine) (i : Nat) (listen : Bool) : Rn m.world.drawn (runT p m i listen).1 := by
 unfold runT
 simp only
 generalize hg : (m.gs.swapAt! i { (default : Goroutine) with status := .finished }) = y
 obtain ⟨g, gs⟩ := y
 simp only
 have h := Rm p (i == 0) g m.world listen
 generalize stepG p (i == 0) g m.world listen = s at h ⊢
 cases s with
 | ended o w es => trivial
 | comm g c b sh w es =>
  exact (V9 p m.rest gs i g c b sh w).up h
 | go g w es => exact h
 | spawn g c w es => exact h
 | count g w es =>
  simp only
  split
  · trivial
  · exact h
 | alone g on w es => exact h
 | collect g w es =>
  exact (Dk p (gs.setIfInBounds i g) m.rest w).up h
 | watch g w es => exact h
 | newcoro g c d w es => exact h
 | coroswitch g c e w es =>
  simp only
  split
  · exact h
  · exact h
  · trivial
 | timer g op w es =>
  simp only
  split
  · rename_i e; exact Nat.le_trans h (Nat.le_of_eq (Rq e).symm)
  · exact h
  · trivial
  · trivial
def MOk (d : Nat) : Move → Prop
 | .goroutine m _ => d ≤ m.world.drawn
 | .machine s _ => Rn d s
theorem MOk.up {d d' : Nat} {s : Move} (h : MOk d s) (k : d' ≤ d) : MOk d' s := by
 cases s
 · exact Nat.le_trans k h
 · exact Rn.up h k
theorem zR (p : Program) (m : Machine) : MOk m.world.drawn (askOn p m) := by
 have P : ∀ (m1 : Machine) (rs : List Nat), m.world.drawn ≤ m1.world.drawn → MOk m.world.drawn (match (choose (.sched rs.length)).run p m1.world with
  | .halt _ w => .machine (.ended (.stuck "sched" "") w)
  | .ok k world =>
   if rs.length ≤ 1 then .goroutine { m1 with world } (rs.getD k 0) else
   match (choose (.extern "sched.slice" 65536)).run p world with
   | .halt _ w => .machine (.ended (.stuck "sched.slice" "") w)
   | .ok n world => .goroutine { m1 with world, rest := { m1.rest with slice := if n = 0 then none else some (rs.getD k 0, n) } } (rs.getD k 0)) := fun m1 rs h => by
  split
  · trivial
  · rename_i h1
    have h1 := Nat.le_trans h (DV h1)
    split
    · exact h1
    · split
      · trivial
      · rename_i h2; exact Nat.le_trans h1 (DV h2)
 unfold askOn
 simp only
 split
 · trivial
 · rename_i h
   have h := DV h
   split
   · exact (Ro p _ _).up h
   · split
     · split
       · exact h
       · split
         · exact h
         · split <;> trivial
     · split
       · exact P ⟨_, m.gs, m.rest⟩ _ h
       · split
         · trivial
         · rename_i h2; exact P ⟨_, m.gs, m.rest⟩ _ (Nat.le_trans h (DV h2))
         · rename_i h2; exact Nat.le_trans h (DV h2)
         · rename_i h2; exact P (Machine.advanceTo ⟨_, m.gs, m.rest⟩ _) _ (Nat.le_trans h (DV h2))
theorem Kq (p : Program) (m : Machine) : MOk m.world.drawn (ask p m) := by
 unfold ask
 split
 · split
   · trivial
   · rename_i w h
     have h := DV h
     split
     · rename_i e
       have l := Dk p m.gs m.rest w
       rw [e] at l
       exact (zR p _).up (Nat.le_trans h l)
     · rename_i e _
       exact (Dk p m.gs m.rest w).up h
   · rename_i h
     exact (zR p _).up (DV h)
 · exact zR p m
theorem Wa (p : Program) (m : Machine) : MOk m.world.drawn (move p m) := by
 unfold move
 split
 · split
   · exact Nat.le_refl _
   · trivial
 · split
   · split
     · exact Nat.le_refl _
     · exact Kq p _
   · exact Kq p m
theorem Wb (p : Program) (m : Machine) : Rn m.world.drawn (step p m) := by
 unfold step stepT
 have h := Wa p m
 generalize move p m = y at h ⊢
 cases y with
 | goroutine m1 i => exact (V_ p m1 i true).up h
 | machine s ops => exact h
theorem Kr (p : Program) : ∀ (n : Nat) (m : Machine), Rn m.world.drawn (runN p n m)
 | 0, m => Nat.le_refl _
 | n + 1, m => by
  have h := Wb p m
  unfold runN
  generalize step p m = y at h ⊢
  cases y with
  | next m1 => exact (Kr p n m1).up h
  | ended o w => trivial
theorem Rs {p : Program} {m m' : Machine} (h : Steps p m m') : m.world.drawn ≤ m'.world.drawn := by
 obtain ⟨n, hn⟩ := h
 have := Kr p n m
 rw [hn] at this
 exact this
theorem E6 {P : Program} {f : FuncId} {args : Array Value} {w : World} {R : Ending → World → Prop} (h : Calls P f args w R) : Calls P f args w fun e w' => R e w' ∧ ((∃ v, e = .returned v) → w.drawn ≤ w'.drawn) := fun cs => by
 obtain ⟨e, w', fr, hR, hc, hf, hl⟩ := h cs
 refine ⟨e, w', fr, ⟨hR, ?_⟩, hc, hf, hl⟩
 rintro ⟨v, rfl⟩
 exact Rs hc
theorem Be {w w' : World} (h : Below w.heap.size w w') (d : w.drawn ≤ w'.drawn) : ∃ q os', w' = Go.Sort.grow (w.drewN q) os' := by
 refine ⟨w'.drawn - w.drawn, w'.heap.extract w.heap.size w'.heap.size, ?_⟩
 obtain ⟨h1, h2, h3, h4, h5⟩ := h
 cases w with
 | mk H T D O U =>
  cases w' with
  | mk H' T' D' O' U' =>
   simp only at h1 h2 h3 h4 h5 d
   subst h1 h2 h3
   unfold Go.Sort.grow World.drewN
   simp only [World.mk.injEq, true_and, and_true]
   refine ⟨?_, by omega⟩
   refine Array.ext_getElem? fun i => ?_
   rw [Array.getElem?_append]
   split
   · rename_i hi; exact h5 i hi
   · rename_i hi
     rw [Array.getElem?_extract]
     split
     · congr 1; omega
     · rw [Array.getElem?_eq_none]; omega
end Go.Proofs.YtjodlkbhaofkkaaGreat.E
end
section
namespace Go.Proofs
open Go.Shelf
def Tryz.MB : Go.Shelf.Ren := ⟨fun | 6 => 97 | 15 => 116 | 14 => 115 | 28 => 130 | 29 => 131 | 20 => 122 | 21 => 123 | 22 => 124 | 23 => 125 | 24 => 126 | 25 => 127 | 26 => 128 | 27 => 129 | 46 => 142 | 47 => 143 | 48 => 144 | 49 => 145 | 50 => 146 | 57 => 150 | n => n, fun | 22 => 30 | 24 => 26 | 25 => 79 | 3 => 3 | 39 => 87 | 0 => 0 | 53 => 100 | 55 => 102 | 4 => 4 | 46 => 93 | 45 => 92 | 50 => 97 | 5 => 5 | 9 => 9 | 66 => 108 | 70 => 112 | 76 => 116 | 77 => 117 | n => n, fun | n => n⟩
theorem Tryz.ZH : Go.Proofs.SlLaysF0.n6 Tryz.prog Tryz.MB := {
 mixed := by kernel_rfl
 f6 := ⟨Tryz.f97.name, by decide, Tryz.func97.trans (congrArg some (by kernel_rfl))⟩
 f14 := ⟨Tryz.f115.name, by decide, Tryz.func115.trans (congrArg some (by kernel_rfl))⟩
 f15 := Tryz.func116.trans (congrArg some (by kernel_rfl))
 f20 := ⟨Tryz.f122.name, by decide, Tryz.func122.trans (congrArg some (by kernel_rfl))⟩
 f21 := ⟨Tryz.f123.name, by decide, Tryz.func123.trans (congrArg some (by kernel_rfl))⟩
 f22 := ⟨Tryz.f124.name, by decide, Tryz.func124.trans (congrArg some (by kernel_rfl))⟩
 f23 := ⟨Tryz.f125.name, by decide, Tryz.func125.trans (congrArg some (by kernel_rfl))⟩
 f24 := ⟨Tryz.f126.name, by decide, Tryz.func126.trans (congrArg some (by kernel_rfl))⟩
 f25 := ⟨Tryz.f127.name, by decide, Tryz.func127.trans (congrArg some (by kernel_rfl))⟩
 f26 := ⟨Tryz.f128.name, by decide, Tryz.func128.trans (congrArg some (by kernel_rfl))⟩
 f27 := ⟨Tryz.f129.name, by decide, Tryz.func129.trans (congrArg some (by kernel_rfl))⟩
 f28 := Tryz.func130.trans (congrArg some (by kernel_rfl))
 f29 := Tryz.func131.trans (congrArg some (by kernel_rfl))
 f46 := ⟨Tryz.f142.name, by decide, Tryz.func142.trans (congrArg some (by kernel_rfl))⟩
 f47 := Tryz.func143.trans (congrArg some (by kernel_rfl))
 f48 := Tryz.func144.trans (congrArg some (by kernel_rfl))
 f49 := ⟨Tryz.f145.name, by decide, Tryz.func145.trans (congrArg some (by kernel_rfl))⟩
 f50 := ⟨Tryz.f146.name, by decide, Tryz.func146.trans (congrArg some (by kernel_rfl))⟩
 f57 := ⟨Tryz.f150.name, by decide, Tryz.func150.trans (congrArg some (by kernel_rfl))⟩
 t0 := Tryz.underlying0
 a0 := Tryz.isAgg0
 z0 := Tryz.sizeOf0
 v0 := Tryz.zeroValue0
 t3 := Tryz.underlying3
 a3 := Tryz.isAgg3
 z3 := Tryz.sizeOf3
 v3 := Tryz.zeroValue3
 t4 := Tryz.underlying4
 a4 := Tryz.isAgg4
 z4 := Tryz.sizeOf4
 v4 := Tryz.zeroValue4
 t5 := Tryz.underlying5
 a5 := Tryz.isAgg5
 z5 := Tryz.sizeOf5
 v5 := Tryz.zeroValue5
 t9 := Tryz.underlying9
 a9 := Tryz.isAgg9
 z9 := Tryz.sizeOf9
 v9 := Tryz.zeroValue9
 t22 := Tryz.underlying30
 a22 := Tryz.isAgg30
 z22 := Tryz.sizeOf30
 v22 := Tryz.zeroValue30
 t25 := Tryz.underlying79
 a25 := Tryz.isAgg79
 z25 := Tryz.sizeOf79
 v25 := Tryz.zeroValue79
 t39 := Tryz.underlying87
 a39 := Tryz.isAgg87
 z39 := Tryz.sizeOf87
 v39 := Tryz.zeroValue87
 t45 := Tryz.underlying92
 a45 := Tryz.isAgg92
 z45 := Tryz.sizeOf92
 v45 := Tryz.zeroValue92
 t46 := Tryz.underlying93
 a46 := Tryz.isAgg93
 z46 := Tryz.sizeOf93
 v46 := Tryz.zeroValue93
 t50 := Tryz.underlying97
 a50 := Tryz.isAgg97
 z50 := Tryz.sizeOf97
 v50 := Tryz.zeroValue97
 t53 := Tryz.underlying100
 a53 := Tryz.isAgg100
 z53 := Tryz.sizeOf100
 v53 := Tryz.zeroValue100
 t55 := Tryz.underlying102
 a55 := Tryz.isAgg102
 z55 := Tryz.sizeOf102
 v55 := Tryz.zeroValue102
 t66 := Tryz.underlying108
 a66 := Tryz.isAgg108
 z66 := Tryz.sizeOf108
 v66 := Tryz.zeroValue108
 t70 := Tryz.underlying112
 a70 := Tryz.isAgg112
 z70 := Tryz.sizeOf112
 v70 := Tryz.zeroValue112
 t76 := Tryz.underlying116
 a76 := Tryz.isAgg116
 z76 := Tryz.sizeOf116
 v76 := Tryz.zeroValue116
 t77 := Tryz.underlying117
 a77 := Tryz.isAgg117
 z77 := Tryz.sizeOf117
 v77 := Tryz.zeroValue117 }
end Go.Proofs
end
section
namespace Go.Proofs.YtjodlkbhaofkkaaGreat.PA
open Go.RowKit Go.Proofs.YtjodlkbhaofkkaaGreatW.PrintWords Go.Proofs.YtjodlkbhaofkkaaGreatW.PrintLast Go.Proofs.YtjodlkbhaofkkaaGreatW.PrintMore
attribute [local go_sem] ja jb j5 j6 hY hZ jc jd
set_option linter.unusedVariables false
set_option linter.unusedSimpArgs false
set_option maxHeartbeats 8000000
set_option maxRecDepth 100000
def E7 (l0 : List cT) : Prop := l0.length < 4611686018427387904 ∧ ∃ cf : List Int → List Int → Int, Go.Sort.SWO (Go.Proofs.ltOf cf) ∧ (∀ a ∈ ([] : List Int) :: l0.map (·.f0), ∀ b ∈ ([] : List Int) :: l0.map (·.f0), ∃ k, iI.f k a b = some (cf a b)) ∧ l0.Pairwise (fun a b => cf a.f0 b.f0 < 0)
noncomputable def iQ.f (l0 : List cT) : Option Unit := @ite _ (E7 l0) (Classical.propDecidable _) (some ()) none
theorem iQ.yes {l0 : List cT} (h : E7 l0) : iQ.f l0 = some () := by unfold iQ.f; exact if_pos h
theorem It {n : Nat} {lt : Nat → Nat → Bool} (hlt : ∀ i j, i < j → j < n → lt i j = true) {d' : Array Nat} (hp : Go.Sort.PermIn 0 n (Array.range n) d') (hs : Go.Sort.SortedIn lt 0 n d') : d' = Array.range n := by
 obtain ⟨h1, _, h2⟩ := hp
 rw [Array.size_range] at h1
 have e1 : d'.extract 0 n = d' := by rw [← h1]; exact Array.extract_size
 have e2 : (Array.range n).extract 0 n = Array.range n := by
  have := Array.extract_size (xs := Array.range n); rwa [Array.size_range] at this
 rw [e1, e2] at h2
 apply Array.toList_inj.1
 refine List.Perm.eq_of_pairwise (le := fun a b => a ≤ b) (fun a b _ _ h k => Nat.le_antisymm h k) ?_ ?_ h2
 · rw [List.pairwise_iff_getElem]
   intro i j hi hj hij
   have hi' : i < d'.size := hi
   have hj' : j < d'.size := hj
   have mi : d'.toList[i] < n := by
    have : d'.toList[i] ∈ (Array.range n).toList := h2.mem_iff.1 (List.getElem_mem hi)
    simpa using this
   have hf := hs i j (Nat.zero_le _) hij (by omega)
   rw [getElem!_pos d' j hj', getElem!_pos d' i hi'] at hf
   show d'.toList[i] ≤ d'.toList[j]
   refine Nat.le_of_not_lt fun hl => ?_
   have := hlt _ _ hl mi
   rw [Array.getElem_toList, Array.getElem_toList] at this
   rw [this] at hf
   cases hf
 · rw [Array.toList_range]
   exact List.pairwise_le_range
theorem MC {enc : Nat → List Value} {w : World} {g m : Nat} {dk : Array Nat} {os : Array Obj} {k : Nat} (hk : k ≠ g) (hlt : k < w.heap.size) : (Go.Proofs.sortWorldK enc 1 w g 0 m dk os).heap[k]? = w.heap[k]? := by
 unfold Go.Proofs.sortWorldK Go.Sort.grow Go.Sort.putRowK Go.Sort.putRow Go.Sort.mapBlock Go.Sort.ahead
 simp only
 rw [Array.getElem?_append, if_pos (by simpa using hlt), Array.getElem?_modify, if_neg (fun e => hk e.symm)]
theorem aeh (A0 : Option Addr) (c0 : Nat) (l0 : List cT) (w : World) (hN : ∃ base ok, Kd.N ix 26 w base ok (.slice A0 l0.length c0) l0) (hI : E7 l0) :
 Calls Tryz.prog 97 #[.slice A0 l0.length c0, .func (.func 98) #[] #[]] w fun e w' => e = .returned (.tuple #[]) ∧ Below w.heap.size w w' := by
 obtain ⟨base, ok, hN⟩ := hN
 obtain ⟨hsz, cf, hO, hcall, hord⟩ := hI
 rcases Nat.eq_zero_or_pos l0.length with h0 | hp
 · have hc := Go.Proofs.AnyF.slices_SortFunc_none Tryz.ZH A0 c0 (.func (.func 98) #[] #[]) w
   change Calls Tryz.prog 97 _ _ _ at hc
   rw [h0]
   exact hc.mono fun e w' ⟨he, hw⟩ => ⟨he, by rw [hw]; exact Below.refl _ _⟩
 · obtain ⟨g, cap, hv, hbase, hg, cells, hblk⟩ := Kd.NH hN hp
   injection hv with e1 e2 e3
   subst e1 e3
   obtain ⟨n, hn⟩ : ∃ n, n = l0.length := ⟨_, rfl⟩
   obtain ⟨lst, hlst⟩ : ∃ lst : Nat → List Int, lst = fun i => (l0.getD i ⟨[]⟩).f0 := ⟨_, rfl⟩
   have hx : ∀ i : Nat, ∃ h : Option Addr × Nat, (lst i).length ≤ h.2 ∧ Kd.F (Kd.int .i64) w (fun k => ok k ∧ k ≠ g) h.1 (lst i).length (lst i) ∧ (i < n → w.cell? ⟨g, i, none⟩ = some (.slice h.1 (lst i).length h.2) ∧ w.frozen? ⟨g, i, none⟩ = false) := fun i => by
    by_cases hi : i < n
    · obtain ⟨c, hcl, hF, hcc, hfr⟩ := Kd.GB hN (⟨[]⟩ : cT) (i : Int) (by omega) (by omega)
      obtain ⟨A, c', rfl, hle, hR⟩ := jP hF
      have k1 : ix.sz = 1 := rfl
      rw [Int.toNat_natCast] at hle hR hcc hfr
      refine ⟨(A, c'), by rw [hlst]; exact hle, by rw [hlst]; exact hR, fun _ => ⟨?_, ?_⟩⟩
      · have := hcc 0 _ rfl
        rw [k1, Nat.mul_one, Nat.add_zero] at this
        rw [hlst]; exact this
      · have := hfr 0
        rw [k1, Nat.mul_one, Nat.add_zero] at this
        exact this
    · have hl : lst i = [] := by
       rw [hlst]
       show (l0.getD i ⟨[]⟩).f0 = []
       rw [List.getD_eq_getElem?_getD, List.getElem?_eq_none (by omega)]; rfl
      rw [hl]
      exact ⟨(none, 0), Nat.le_refl _, Kd.XG _ _ _, fun h => absurd h hi⟩
   obtain ⟨hd, hH⟩ := Classical.axiomOfChoice hx
   have hmem : ∀ i, lst i ∈ ([] : List Int) :: l0.map (·.f0) := fun i => by
    rw [hlst]
    show (l0.getD i ⟨[]⟩).f0 ∈ _
    rw [List.getD_eq_getElem?_getD]
    cases e : l0[i]? with
    | none => exact List.mem_cons_self
    | some x => exact List.mem_cons_of_mem _ (List.mem_map.2 ⟨x, List.mem_of_getElem? e, rfl⟩)
   obtain ⟨enc, henc⟩ : ∃ enc : Nat → List Value, enc = fun i => [.slice (hd i).1 (lst i).length (hd i).2] := ⟨_, rfl⟩
   have hk1 : ∀ x, (enc x).length = 1 := fun x => by rw [henc]; rfl
   have h1 : ∀ x, ∀ v ∈ enc x, v.oneCell' = true := fun x v hv => by
    rw [henc] at hv
    rw [List.mem_singleton.1 hv]; rfl
   have hO' : Go.Sort.SWO (Go.Proofs.ltOf fun i j : Nat => cf (lst i) (lst j)) := ⟨fun x => hO.irrefl (lst x), fun x y z => hO.trans (lst x) (lst y) (lst z), fun x y z => hO.ntrans (lst x) (lst y) (lst z)⟩
   have eg : ∀ args w, (callFunc 98 args).run Tryz.prog w = .ok (.enter 98 args) w := enters_of Tryz.func98 (by kernel_rfl) rfl
   have hcmp : Go.Proofs.CmpLays Tryz.prog 98 #[] enc 1 (fun i j : Nat => cf (lst i) (lst j)) g 0 (Array.range n).size w := by
    unfold Go.Proofs.CmpLays
    intro m os dk hs x y
    obtain ⟨k, hk⟩ := hcall (lst x) (hmem x) (lst y) (hmem y)
    have rd_ : ∀ i, Kd.C (Kd.int .i64) (Go.Proofs.sortWorldK enc 1 w g 0 m dk os) (hd i).1 (lst i).length (lst i) := fun i => Kd.Jk (Kd.Gz (hH i).2.1 (fun k hk hlt => MC hk.2 hlt))
    have hc := E.E6 (iI.calls k _ _ (lst x) _ _ (lst y) _ _ (rd_ x) (hH x).1 (rd_ y) (hH y).1 hk)
    have e1 : ∀ z, (enc z).toArray = #[.slice (hd z).1 (lst z).length (hd z).2] := fun z => by rw [henc]
    rw [e1, e1, Array.append_empty]
    dsimp only
    refine hc.mono ?_
    intro e w' h
    exact ⟨h.1.1, E.Be h.1.2 (h.2 ⟨_, h.1.1⟩)⟩
   have hHold : Go.Sort.HoldsK enc 1 w g 0 (Array.range n) := fun j hj => by
    rw [Go.Sort.size_flatK, Array.size_range, Nat.mul_one] at hj
    rw [Go.Sort.get_flatK enc 1 _ j (by rw [Array.size_range]; omega), Nat.div_one, Nat.mod_one, getElem!_pos (Array.range n) j (by simpa using hj), Nat.zero_add, Array.getElem_range, henc]
    exact (hH j).2.2 hj
   have hs := Go.Proofs.AnyQ.slices_SortFunc (P := Tryz.prog) Tryz.ZH 1 Tryz.isAgg26 Tryz.sizeOf26 enc hk1 h1 (fun i j : Nat => cf (lst i) (lst j)) hO' 98 #[] g 0 c0 (Array.range n) w eg hcmp hHold hg (by rw [Array.size_range]; omega)
   change Calls Tryz.prog 97 _ _ _ at hs
   rw [Array.size_range, hn] at hs
   refine hs.mono ?_
   rintro e w' ⟨he, d', q, os, hpm, hst, rfl⟩
   refine ⟨he, ?_⟩
   have hd' : d' = Array.range n := by
    rw [← hn] at hpm hst
    refine It (fun i j hij hj => ?_) hpm hst
    have := (List.pairwise_iff_getElem.1 hord) i j (by omega) (by omega) hij
    unfold Go.Proofs.ltOf
    rw [decide_eq_true_iff, hlst]
    show cf (l0.getD i ⟨[]⟩).f0 (l0.getD j ⟨[]⟩).f0 < 0
    rw [List.getD_eq_getElem?_getD, List.getElem?_eq_getElem (show i < l0.length by omega), List.getD_eq_getElem?_getD, List.getElem?_eq_getElem (show j < l0.length by omega)]
    exact this
   rw [hd']
   unfold Go.Proofs.sortWorldK
   rw [Go.Sort.putRowK_self enc 1 _ g 0 _ (Go.Sort.holdsK_ahead enc 1 w q g 0 _ hHold)]
   refine ⟨rfl, rfl, rfl, by rw [Go.Sort.size_grow]; exact Nat.le_add_right _ _, fun k hk => ?_⟩
   show (w.heap ++ os)[k]? = _
   rw [Array.getElem?_append, if_pos hk]
theorem iQ.calls (A0 : Option Addr) (c0 : Nat) (l0 : List cT) (w : World) (hN : ∃ base ok, Kd.N ix 26 w base ok (.slice A0 l0.length c0) l0) (gL : l0.length ≤ c0) (h : iQ.f l0 = some ()) :
 Calls Tryz.prog 49 #[.slice A0 l0.length c0] w fun e w' => e = .returned (.tuple #[]) ∧ Below w.heap.size w w' := by
 have hI : E7 l0 := by
  unfold iQ.f at h
  refine Classical.byContradiction fun c => ?_
  rw [if_neg c] at h
  cases h
 have hcon := aeh A0 c0 l0 w hN hI
 clear hN hI h
 go_enter Tryz.func49, Tryz.ntmps49
 go_wp2_with (go_at_call 97; refine hcon.mono ?_; rintro e w' ⟨rfl, hb⟩)
 go_end0
 exact ⟨rfl, hb⟩
mutual
noncomputable def bk.l0 : Nat → List (cT) → Int → Int → Option ((List (cT)))
 | 0, _, _, _ => none
 | k + 1, x3, DU, Jp => if Jp < DU then (bk.l1 k (([] : List (cT))) DU Jp x3 (x3.length : Int) 0) else ((iQ.f x3).bind fun _ => (some x3))
noncomputable def bk.l1 : Nat → List (cT) → Int → Int → List (cT) → Int → Int → Option ((List (cT)))
 | 0, _, _, _, _, _, _ => none
 | k + 1, x4, DU, Jp, Jt, Br, Mh => if Mh < Br then (if 0 ≤ Mh then (if Mh < (Jt.length : Int) then ((cL.f k ((cG Jt Mh).f0)).bind fun ZI => (if x4.length + ZI.1.length < 5864062014805 then (bk.l1 k (x4 ++ ZI.1) DU Jp Jt Br (wrap64 (Mh + 1))) else (none))) else (none)) else (none)) else (bk.l0 k x4 DU (wrap64 (Jp + 1)))
end
noncomputable def bk.f (k : Nat) (a0 : Int) : Option ((List (cT))) := (dG.f a0 0 8).bind fun aei => (if aei = true then (bk.l0 k (([(⟨(([1] : List Int))⟩ : cT)] : List (cT))) a0 0) else (some ([] : List (cT))))
theorem bk.calls (k : Nat) (a0 : Int) (r : List (cT)) (w : World) (h : bk.f k a0 = some r) :
 Calls Tryz.prog 13 #[.int .i64 a0] w fun e w' => ∃ jf : Value, e = .returned (jf) ∧ Kd.N ix 26 w' w.heap.size (fun k_ => (w.heap.size ≤ k_)) jf r ∧ Below w.heap.size w w' := by
 have kJ := Tryz.underlying26
 have HB := aa.mk (Below.refl w.heap.size w)
 have H := h
 clear h
 unfold bk.f at H
 obtain ⟨aei, A2, H⟩ := eA H
 by_cases c3 : aei = true
 rotate_left
 · replace c3 := Bool.eq_false_iff.mpr c3
   subst c3
   rw [if_neg (show ¬ (false = true) by decide)] at H
   obtain rfl := Option.some.inj H
   go_enter Tryz.func13, Tryz.ntmps13
   go_wp2_with (first | ((with_reducible refine gate_callee (f := 48) rfl ?_); refine dU (some 10) Tryz.func48 #[.int .i64 a0, .int .i64 0, .int .i64 8] ?_; (with_reducible refine (dG.calls a0 0 8 false _ A2.out).mono ?_); rintro e w' ⟨rfl, ⟨nd, rfl⟩⟩; refine ⟨_, rfl, ?_⟩))
   go_ret
   exact ⟨_, ig, by first | exact Kd.mD _ _ _ _ _ | exact Kd.mE _ _ _ _ _ | exact Kd.mF _ _ _ _ _ | exact Kd.mC _ _ _ _ _ | exact Kd.kQ _ _ _ _ _, gA HB.out⟩
 subst c3
 rw [if_pos rfl] at H
 obtain ⟨Iu, Rt⟩ : ∃ y_ : List Int, y_ = (([1] : List Int)) := ⟨_, rfl⟩
 replace H : (bk.l0 k (([(⟨Iu⟩ : cT)] : List (cT))) a0 0) = some r := by subst Rt; exact H
 have ZJ := aa.mk Rt
 clear Rt
 obtain ⟨alo, Ru⟩ : ∃ y_ : List (cT), y_ = (([(⟨Iu⟩ : cT)] : List (cT))) := ⟨_, rfl⟩
 replace H : (bk.l0 k alo a0 0) = some r := by subst Ru; exact H
 have ZK := aa.mk Ru
 clear Ru
 have H' := aa.mk H
 clear H
 go_enter Tryz.func13, Tryz.ntmps13
 go_wp2_with (first | ((with_reducible refine gate_callee (f := 48) rfl ?_); refine dU (some 10) Tryz.func48 #[.int .i64 a0, .int .i64 0, .int .i64 8] ?_; (with_reducible refine (dG.calls a0 0 8 true _ A2.out).mono ?_); rintro e w' ⟨rfl, ⟨nd, rfl⟩⟩; refine ⟨_, rfl, ?_⟩) | ((with_reducible refine gate_dst (N := 12) rfl ?_); refine Kd.iK (Kd.int .i64) _ 3 ?hg (N := 12) ?hd (xs := ([1] : List Int)) (inner := [.int .i64 1]) (ok := fun _ => True) (okp := fun _ => True) ?hr ?hp (fun _ hk => hk) trivial (Below.refl _ _) (Nat.le_refl _) (by simp) ?_; (case hd => rfl); (case hg => rfl); (case hr => first | (go_simp; done) | (go_simp; rfl)); (case hp => exact (bE.one (show Kd.M (Kd.int .i64) _ _ _ 1 [.int .i64 1] from rfl) (bE.none _ _))); intro aBo w4 Qw hb hg_ hnew_; clear hg_ hnew_; (first | rw [← ZJ.out] at Qw | (simp only [Int.reduceToNat] at Qw; rw [← ZJ.out] at Qw)); have Ks := aa.mk (Kd.aW (Kd.pE (M := fun k_ => (w.heap.size ≤ k_)) Qw (ag (gA HB.out)) (fun k_ h_ => h_)) (ag (gA HB.out))); replace HB := jL HB hb; clear hb Qw; obtain ⟨Ao6, co6, eo6⟩ := Kd.aN Ks.out; subst eo6) | ((with_reducible refine gate_dst (N := 14) rfl ?_); refine Kd.rA ix _ 26 ?hg (N' := 14) ?hd (xs := ([(⟨Iu⟩ : cT)] : List (cT))) (inner := [.slice Ao6 Iu.length co6]) (ok := (fun k_ => (w.heap.size ≤ k_))) (okp := (fun k_ => (w.heap.size ≤ k_))) ?hr ?hp (fun _ hk => hk) ((show ∀ k_, w4.heap.size ≤ k_ → (fun k_ => (w.heap.size ≤ k_)) k_ from fun k_ hk => (Nat.le_trans (ag (gA HB.out)) hk)) _ (Nat.le_refl _)) (Below.refl _ _) (Nat.le_refl _) (by simp) ?_; (case hd => rfl); (case hg => rfl); (case hr => first | (go_simp; done) | (go_simp; rfl)); (case hp => exact (bE.one (show Kd.FK ix _ _ (⟨Iu⟩ : cT) [.slice Ao6 Iu.length co6] from (qI _ _ (⟨Iu⟩ : cT) (Kd.ao (Kd.bB (ok' := (fun k_ => (w.heap.size ≤ k_))) (Ks.out) (fun k_ hk => hk.1))).2.1 (Kd.XH (Kd.bB (ok' := (fun k_ => (w.heap.size ≤ k_))) (Ks.out) (fun k_ hk => hk.1))))) (bE.none _ _))); intro aBp w7 NQ hb hg_ hnew_; clear hg_ hnew_; (first | rw [← ZK.out] at NQ | (simp only [Int.reduceToNat] at NQ; rw [← ZK.out] at NQ)); have alq := aa.mk (Kd.im NQ (ag (gA HB.out))); replace HB := jL HB hb; clear Ks; clear hb NQ))
 go_loopg [3, 16] k (fun kq v3 v16 w' => ∃ (bd : List (cT)) (oE : Int), v16 = .int .i64 oE ∧ aa (bk.l0 kq bd a0 oE = some r) ∧ aa (kq ≤ k) ∧ aa (Kd.N ix 26 w' w.heap.size (fun k_ => (w.heap.size ≤ k_)) v3 bd) ∧ aa (Below w.heap.size w w'))
 case atStart => exact ⟨(alo), (0), eF, H', ⟨Nat.le_refl _⟩, ⟨d_ alq.out⟩, ⟨gA HB.out⟩⟩
 case round =>
  clear H'
  obtain ⟨bd, oE, rfl, HA, fu, dC, HB⟩ := hrel
  cases gk with
  | zero => exact absurd HA.out (by simp [bk.l0])
  | succ k1 =>
   have H := HA.out
   clear HA
   simp only [bk.l0] at H
   by_cases c9 : oE < a0
   rotate_left
   · rw [if_neg c9] at H
     have uo : decide (oE < a0) = false := decide_eq_false c9
     clear c9
     obtain ⟨_, A23, H⟩ := eA H
     obtain rfl := Option.some.inj H
     obtain ⟨kL, kM, zb⟩ := Kd.gw dC.out
     subst zb
     go_wp2_with (first | ((with_reducible refine gate_callee (f := 49) rfl ?_); refine dU (some 37) Tryz.func49 #[.slice kL bd.length kM] ?_; (with_reducible refine (iQ.calls _ _ bd _ ?ah ?aj A23.out).mono ?_); (case ah => exact ⟨_, _, dC.out⟩); (case aj => exact (Kd.ei dC.out).2.1); rintro e TN ⟨rfl, hb⟩; refine ⟨_, rfl, ?_⟩; replace dC := aa.mk (Kd.bM (d_ dC.out) hb); replace HB := jL HB hb; (try clear hb)))
     go_ret
     exact ⟨_, ig, d_ dC.out, gA HB.out⟩
   rw [if_pos c9] at H
   have uo : decide (oE < a0) = true := decide_eq_true c9
   clear c9
   obtain ⟨alr, Rv⟩ : ∃ y_ : List (cT), y_ = (([] : List (cT))) := ⟨_, rfl⟩
   replace H : (bk.l1 k1 alr a0 oE bd (bd.length : Int) 0) = some r := by subst Rv; exact H
   have ZL := aa.mk Rv
   clear Rv
   have H' := aa.mk H
   clear H
   go_wp2_with (first | ((with_reducible refine gate_dst (N := 18) rfl ?_); refine Kd.rA ix _ 26 ?hg (N' := 18) ?hd (xs := ([] : List (cT))) (inner := []) (ok := (fun k_ => (w.heap.size ≤ k_) ∧ some k_ ≠ (u3 : Value).ownBlock)) (okp := (fun k_ => (w.heap.size ≤ k_) ∧ some k_ ≠ (u3 : Value).ownBlock)) ?hr ?hp (fun _ hk => hk) ((show ∀ k_, wr.heap.size ≤ k_ → (fun k_ => (w.heap.size ≤ k_) ∧ some k_ ≠ (u3 : Value).ownBlock) k_ from fun k_ hk => ⟨(Nat.le_trans (ag (gA HB.out)) hk), Kd.cM (Kd.lM (d_ dC.out)) k_ hk⟩) _ (Nat.le_refl _)) (Below.refl _ _) (Nat.le_refl _) (by simp) ?_; (case hd => rfl); (case hg => rfl); (case hr => first | (go_simp; done) | (go_simp; rfl)); (case hp => exact (bE.none _ _)); intro aBr Ju xI hb hg_ hnew_; clear hg_ hnew_; (first | rw [← ZL.out] at xI | (simp only [Int.reduceToNat] at xI; rw [← ZL.out] at xI)); replace dC := aa.mk (Kd.dP (d_ dC.out) (Kd.hU xI) hb); have als := aa.mk (Kd.im xI (ag (gA HB.out))); replace HB := jL HB hb; clear hb xI; obtain ⟨Er, uv, Oo⟩ := Kd.gw dC.out; subst Oo))
   go_loopg [4, 21] k1 (fun kq v4 v21 w' => ∃ (eN : List (cT)) (ki : Int), v21 = .int .i64 ki ∧ aa (bk.l1 kq eN a0 oE bd (bd.length : Int) ki = some r) ∧ aa (kq ≤ k1) ∧ aa (Kd.N ix 26 w' w.heap.size (fun k_ => (w.heap.size ≤ k_) ∧ some k_ ≠ ((.slice Er bd.length uv) : Value).ownBlock) v4 eN) ∧ aa (Kd.N ix 26 w' w.heap.size (fun k_ => (w.heap.size ≤ k_) ∧ some k_ ≠ (v4 : Value).ownBlock) (.slice Er bd.length uv) bd) ∧ aa (Below w.heap.size w w'))
   case atStart => exact ⟨(alr), (0), eF, H', ⟨Nat.le_refl _⟩, ⟨d_ als.out⟩, ⟨d_ dC.out⟩, ⟨gA HB.out⟩⟩
   case round =>
    clear H'
    try clear uo
    obtain ⟨eN, ki, rfl, HA, jo, bJ, re, HB⟩ := hrel
    cases gk with
    | zero => exact absurd HA.out (by simp [bk.l1])
    | succ k2 =>
     have H := HA.out
     clear HA
     simp only [bk.l1] at H
     by_cases mY : ki < (bd.length : Int)
     rotate_left
     · rw [if_neg mY] at H
       have lS : decide (ki < (bd.length : Int)) = false := decide_eq_false mY
       clear mY
       have H' := aa.mk H
       clear H
       go_wp2
       go_roundg k2
       case measure => have := fu.out; have := jo.out; omega
       case rel => exact ⟨(eN), (wrap64 (oE + 1)), eF, H', ⟨by have := fu.out; have := jo.out; omega⟩, ⟨d_ (Kd.bU bJ.out (fun _ hk => hk.1))⟩, ⟨gA HB.out⟩⟩
     rw [if_pos mY] at H
     have lS : decide (ki < (bd.length : Int)) = true := decide_eq_true mY
     clear mY
     obtain ⟨jQ, H⟩ := dB H
     obtain ⟨rH, H⟩ := dB H
     obtain ⟨⟨Rw, as3⟩, ZE, H⟩ := eA H
     (try dsimp only at H)
     obtain ⟨oN, H⟩ := kG H
     have Rx := aa.mk oN
     clear oN
     obtain ⟨alu, Ry⟩ : ∃ y_ : List (cT), y_ = (eN ++ Rw) := ⟨_, rfl⟩
     replace H : (bk.l1 k2 alu a0 oE bd (bd.length : Int) (wrap64 (ki + 1))) = some r := by subst Ry; exact H
     have alv := aa.mk Ry
     clear Ry
     have H' := aa.mk H
     clear H
     have Wc : 0 ≤ (ki : Int) := bO
     have Wd : ki < (bd.length : Int) := bO
     obtain ⟨BO, oG, oH, as4, We, Kt, Ku⟩ := mP (Kd.ei re.out).2.2 ki Wc Wd
     cases as4
     obtain ⟨axl, aej, aek, Rz⟩ := Kd.wG re.out z26 ki Wc (by first | exact Wd | exact bO | (have e_ := (Kd.ei re.out).1; omega))
     obtain ⟨ao2, ao3, rfl, Dl, Dm⟩ := jP aek
     have yh := Rz 0 _ rfl
     rw [Nat.add_zero, show (ix).sz = 1 from rfl, Nat.mul_one] at yh
     replace yh := Option.some.inj (yh.symm.trans We)
     injection yh with hva_ hvn_ hvc_
     rw [hva_] at Dm
     rw [hvc_] at Dl
     have pe := aa.mk (show Kd.V (Kd.int .i64) 3 _ w.heap.size _ _ ((cG bd ki).f0) from Kd.yM Dl Dm)
     clear hva_ hvn_ hvc_ Dm Dl
     clear Rz aej
     have yi := aa.mk Ku
     have Wf := aa.mk Kt
     clear Ku Kt
     replace Wc := eq_true Wc
     replace Wd := eq_true Wd
     go_wp2_with (first | ((with_reducible refine gate_dst (N := 6) rfl ?_); refine iP 6 #[.slice none 0 0] 26 ?_; intro jT hg Ut hbox hb; replace bJ := aa.mk (Kd.bM (Kd.ky (d_ bJ.out) jT (Nat.le_of_eq hg.symm)) hb); replace re := aa.mk (Kd.bM (Kd.ky (d_ re.out) jT (Nat.le_of_eq hg.symm)) hb); replace pe := aa.mk (Kd.iB (Kd.nk (pF pe.out) jT (Nat.le_of_eq hg.symm)) hb); replace yi := aa.mk (Kd.dx (by repeat (first | (with_reducible exact yi.out) | (with_reducible refine Kd.cz ?_ _) | (with_reducible refine Kd.cA ?_ _) | (with_reducible refine Kd.di ?_) | exact yi.out)) hb); have xc := aa.mk (hbox); have axm := ij hg HB; have axn := ij hg HB; replace HB := jL HB hb; clear hb hbox hg; have V2 := fG xc; have V3 := af xc.out 0) | ((with_reducible refine gate_callee (f := 10) rfl ?_); refine dU (some 27) Tryz.func10 #[.agg #[.slice oG ((cG bd ki).f0).length oH]] ?_; (with_reducible refine (cL.calls k2 _ _ ((cG bd ki).f0) Rw as3 _ ?ah ?aj ZE.out).mono ?_); (case ah => repeat (first | exact ((Kd.fZ (pF ((Kd.je (Kd.yN (p := ⟨jT, 0, none⟩) (Kd.je pe.out (fun k_ hk => (⟨hk, hk.2⟩ : _ ∧ k_ ≠ jT))) (fun _ hk => hk.2) (.slice oG ((cG bd ki).f0).length oH)) (fun _ h_ => h_.1))))).2.2) | (with_reducible refine Kd.cz ?_ _) | (with_reducible refine Kd.cA ?_ _) | (with_reducible refine Kd.di ?_))); (case aj => exact Wf.out); rintro e UB ⟨aBs, rfl, b0, hb⟩; refine ⟨_, rfl, ?_⟩; have Kv := aa.mk (Kd.im (Kd.bU (ok' := fun k_ => (w.heap.size ≤ k_) ∧ some k_ ≠ (u4 : Value).ownBlock ∧ some k_ ≠ (.slice (some BO) bd.length uv : Value).ownBlock ∧ k_ ≠ jT) (Kd.NG (Kd.qG b0)) (fun k_ hk_ => ⟨(Nat.le_trans (ag (bC HB)) hk_.2.1), (Kd.cM (Kd.lM (d_ ((Kd.bU (Kd.q8 (p := ⟨jT, 0, none⟩) (Kd.bU bJ.out (fun k_ hk => (⟨hk, hk.2⟩ : _ ∧ k_ ≠ jT))) (fun _ hk => hk.2) (.slice oG ((cG bd ki).f0).length oH)) (fun _ h_ => h_.1))))) k_ hk_.2.1), (Kd.cM (Kd.lM (d_ ((Kd.bU (Kd.q8 (p := ⟨jT, 0, none⟩) (Kd.bU re.out (fun k_ hk => (⟨hk, hk.2⟩ : _ ∧ k_ ≠ jT))) (fun _ hk => hk.2) (.slice oG ((cG bd ki).f0).length oH)) (fun _ h_ => h_.1))))) k_ hk_.2.1), (Kd.dX (g := jT) (o := .cells #[.slice oG ((cG bd ki).f0).length oH] 26 (0, 0)) (mz xc) k_ hk_.2.1)⟩)) (ag (bC HB))); replace bJ := aa.mk (Kd.dP (d_ ((Kd.bU (Kd.q8 (p := ⟨jT, 0, none⟩) (Kd.bU bJ.out (fun k_ hk => (⟨hk, hk.2⟩ : _ ∧ k_ ≠ jT))) (fun _ hk => hk.2) (.slice oG ((cG bd ki).f0).length oH)) (fun _ h_ => h_.1)))) (Kd.hU (Kd.NG b0)) hb); replace re := aa.mk (Kd.dP (d_ ((Kd.bU (Kd.q8 (p := ⟨jT, 0, none⟩) (Kd.bU re.out (fun k_ hk => (⟨hk, hk.2⟩ : _ ∧ k_ ≠ jT))) (fun _ hk => hk.2) (.slice oG ((cG bd ki).f0).length oH)) (fun _ h_ => h_.1)))) (Kd.hU (Kd.NG b0)) hb); replace yi := aa.mk (Kd.dx ((Kd.fZ (pF ((Kd.je (Kd.yN (p := ⟨jT, 0, none⟩) (Kd.je pe.out (fun k_ hk => (⟨hk, hk.2⟩ : _ ∧ k_ ≠ jT))) (fun _ hk => hk.2) (.slice oG ((cG bd ki).f0).length oH)) (fun _ h_ => h_.1))))).2.2) hb); replace pe := aa.mk (Kd.kf (pF ((Kd.je (Kd.yN (p := ⟨jT, 0, none⟩) (Kd.je pe.out (fun k_ hk => (⟨hk, hk.2⟩ : _ ∧ k_ ≠ jT))) (fun _ hk => hk.2) (.slice oG ((cG bd ki).f0).length oH)) (fun _ h_ => h_.1)))) (Kd.hU (Kd.NG b0)) hb); replace xc := aa.mk (bW (g := jT) (o := .cells #[.slice oG ((cG bd ki).f0).length oH] 26 (0, 0)) (mz xc) hb); replace HB := eM HB hb; (try clear hb); (try clear b0); obtain ⟨VN, G6, CC⟩ := Kd.gw Kv.out; subst CC) | ((with_reducible refine gate_builtin (b := .append) (xs := #[.tmp 30, .tmp 31]) rfl ?_); at_builtin; refine Kd.pD ix (w0 := w) w.heap.size rfl (.tmp 30) (.tmp 31) 30 26 (.agg #[(.slice none 0 0)]) 24 rfl Tryz.underlying30 pG rfl (by decide) (by omega) u4 eN Rw _ _ _ (fun k_ => (w.heap.size ≤ k_) ∧ some k_ ≠ (.slice (some BO) bd.length uv : Value).ownBlock ∧ k_ ≠ jT) (fun k_ => ((fun k_ => (w.heap.size ≤ k_) ∧ some k_ ≠ (.slice (some BO) bd.length uv : Value).ownBlock ∧ k_ ≠ jT)) k_ ∧ some k_ ≠ (u4 : Value).ownBlock) rfl rfl ?aO ?aR (fun _ hk => hk) ?aF ?aB ?aS ?aL ?_; (case aR => exact (by skip; exact Kd.N_F (Kd.bU (ok' := (fun k_ => ((fun k_ => (w.heap.size ≤ k_) ∧ some k_ ≠ (.slice (some BO) bd.length uv : Value).ownBlock ∧ k_ ≠ jT)) k_ ∧ some k_ ≠ (u4 : Value).ownBlock)) (Kv.out) (fun k_ hk => ⟨⟨hk.1, ⟨hk.2.2.1, hk.2.2.2⟩⟩, hk.2.1⟩)))); (case aB => exact (bC HB)); (case aF => exact (fun k_ hk => ⟨(Nat.le_trans (ag (bC HB)) hk), Kd.cM (Kd.lM (d_ re.out)) k_ hk, Kd.dX (g := jT) (o := .cells #[.slice oG ((cG bd ki).f0).length oH] 26 (0, 0)) (cC xc.out) k_ hk⟩)); (case aO => exact (d_ (Kd.bU bJ.out (fun _ hk => ⟨hk.1.1.1, ⟨hk.1.1.2, hk.1.2⟩⟩)))); (case aS => exact (ag (bC HB))); (case aL => have := Rx.out; omega); intro aBt TK ho hb hg hat; rw [← alv.out] at ho; replace re := aa.mk (Kd.rB (ok := (fun k_ => (w.heap.size ≤ k_) ∧ some k_ ≠ (.slice VN Rw.length G6 : Value).ownBlock ∧ k_ ≠ jT)) (d_ (Kd.bU re.out (fun _ hk => ⟨⟨hk.1.1.1, ⟨hk.2, hk.1.2⟩⟩, hk.1.1.2⟩))) hg hat); replace pe := aa.mk (Kd.pV (ok := (fun k_ => (w.heap.size ≤ k_) ∧ some k_ ≠ (.slice (some BO) bd.length uv : Value).ownBlock ∧ some k_ ≠ (.slice VN Rw.length G6 : Value).ownBlock ∧ k_ ≠ jT)) (pF (Kd.je pe.out (fun _ hk => ⟨⟨hk.1.1.1.1, ⟨hk.1.1.2, ⟨hk.2, hk.1.2⟩⟩⟩, hk.1.1.1.2⟩))) hg hat); replace xc := aa.mk (cS (cC xc.out) hg (Kd.tH bJ.out (fun _ hk => hk.1.2))); replace Kv := aa.mk (Kd.rB (ok := (fun k_ => (w.heap.size ≤ k_) ∧ some k_ ≠ (.slice (some BO) bd.length uv : Value).ownBlock ∧ k_ ≠ jT)) (d_ (Kd.bU Kv.out (fun _ hk => ⟨⟨hk.1, ⟨hk.2.2.1, hk.2.2.2⟩⟩, hk.2.1⟩))) hg hat); replace HB := aa.mk (hb); have alw := aa.mk (ho); clear bJ; clear ho hb hg hat))
     go_roundg k2
     case measure => have := fu.out; have := jo.out; omega
     case rel => exact ⟨(alu), (wrap64 (ki + 1)), eF, H', ⟨by have := fu.out; have := jo.out; omega⟩, ⟨d_ (Kd.bU alw.out (fun _ hk => ⟨hk.1, hk.2.1⟩))⟩, ⟨d_ (Kd.bU re.out (fun _ hk => ⟨hk.1.1, hk.2⟩))⟩, ⟨bC HB⟩⟩
def gR.f (k : Nat) (l0 : List Int) : Option (Int) := (eh.f k l0).bind fun RA => ((dQ.f RA.1 RA.2.1 RA.2.2 (([0, 1, 2, 3, 4, 5, 4, 6, (-1), 9] : List Int))).bind fun RB => (some RB.1))
theorem gR.calls (k : Nat) (A0 : Option Addr) (c0 : Nat) (l0 : List Int) (r : Int) (w : World) (fH : Kd.C (Kd.int .u8) w A0 l0.length l0) (gL : l0.length ≤ c0) (h : gR.f k l0 = some r) :
 Calls Tryz.prog 14 #[.slice A0 l0.length c0] w fun e w' => e = .returned (.int .i64 r) ∧ Below w.heap.size w w' := by
 have eZ := aa.mk fH
 have jN := aa.mk gL
 clear fH gL
 have HB := aa.mk (Below.refl w.heap.size w)
 have H := h
 clear h
 unfold gR.f at H
 obtain ⟨⟨Wg, Wh, Wi⟩, A2, H⟩ := eA H
 (try dsimp only at H)
 obtain ⟨ael, RC⟩ : ∃ y_ : List Int, y_ = (([0, 1, 2, 3, 4, 5, 4, 6, (-1), 9] : List Int)) := ⟨_, rfl⟩
 replace H : ((dQ.f Wg Wh Wi ael).bind fun RB => (some RB.1)) = some r := by subst RC; exact H
 have ZM := aa.mk RC
 clear RC
 obtain ⟨⟨as5, as6, as7⟩, A3, H⟩ := eA H
 (try dsimp only at H)
 obtain rfl := Option.some.inj H
 go_enter Tryz.func14, Tryz.ntmps14
 go_wp2_with (first | ((with_reducible refine gate_callee (f := 35) rfl ?_); refine dU (some 4) Tryz.func35 #[.slice A0 l0.length c0] ?_; (with_reducible refine (eh.calls k _ _ l0 Wg Wh Wi w _ ?ah ?aj ?fB A2.out).mono ?_); (case ah => exact bC HB); (case aj => exact eZ.out); (case fB => exact jN.out); rintro e w4 ⟨aem, rfl, hi, hb, vA⟩; refine ⟨_, rfl, ?_⟩; replace HB := aa.mk (hb); have tz := aa.mk (hi); (try clear hb); (try clear vA); (try clear hi)) | ((with_reducible refine gate_dst (N := 5) rfl ?_); refine Kd.iK (Kd.int .i64) _ 3 ?hg (N := 5) ?hd (xs := ([0, 1, 2, 3, 4, 5, 4, 6, (-1), 9] : List Int)) (inner := [.int .i64 0, .int .i64 1, .int .i64 2, .int .i64 3, .int .i64 4, .int .i64 5, .int .i64 4, .int .i64 6, .int .i64 (-1), .int .i64 9]) (ok := fun _ => True) (okp := fun _ => True) ?hr ?hp (fun _ hk => hk) trivial (Below.refl _ _) (Nat.le_refl _) (by simp) ?_; (case hd => rfl); (case hg => rfl); (case hr => first | (go_simp; done) | (go_simp; rfl)); (case hp => exact (bE.one (show Kd.M (Kd.int .i64) _ _ _ 0 [.int .i64 0] from rfl) (bE.one (show Kd.M (Kd.int .i64) _ _ _ 1 [.int .i64 1] from rfl) (bE.one (show Kd.M (Kd.int .i64) _ _ _ 2 [.int .i64 2] from rfl) (bE.one (show Kd.M (Kd.int .i64) _ _ _ 3 [.int .i64 3] from rfl) (bE.one (show Kd.M (Kd.int .i64) _ _ _ 4 [.int .i64 4] from rfl) (bE.one (show Kd.M (Kd.int .i64) _ _ _ 5 [.int .i64 5] from rfl) (bE.one (show Kd.M (Kd.int .i64) _ _ _ 4 [.int .i64 4] from rfl) (bE.one (show Kd.M (Kd.int .i64) _ _ _ 6 [.int .i64 6] from rfl) (bE.one (show Kd.M (Kd.int .i64) _ _ _ (-1) [.int .i64 (-1)] from rfl) (bE.one (show Kd.M (Kd.int .i64) _ _ _ 9 [.int .i64 9] from rfl) (bE.none _ _)))))))))))); intro aBu w5 pX hb hg_ hnew_; clear hg_ hnew_; (first | rw [← ZM.out] at pX | (simp only [Int.reduceToNat] at pX; rw [← ZM.out] at pX)); have BP := aa.mk (Kd.aW pX (ag (gF HB (ae.ge tz.out)))); replace HB := aa.mk (b7 (gF HB (ae.ge tz.out)) hb); replace tz := aa.mk (ae.below (ae.q_ tz) hb); clear hb pX; obtain ⟨AH, sP, Bo⟩ := Kd.aN BP.out; subst Bo) | ((with_reducible refine gate_callee (f := 47) rfl ?_); refine dU (some 6) Tryz.func47 #[.pointer (some ⟨aem, 0, none⟩), .slice AH ael.length sP] ?_; (with_reducible refine (dQ.calls aem Wg Wh Wi _ _ ael as5 as6 as7 w _ ?ah ?aj ?fB ?hD ?zC A3.out).mono ?_); (case ah => exact ae.q_ tz); (case aj => exact gF HB (ae.ge tz.out)); (case fB => exact kx ((Kd.ao BP.out).2.2)); (case hD => exact (Kd.ao BP.out).2.1); (case zC => exact sI (ae.mK tz.out BP.out (by decide))); rintro e w8 ⟨rfl, hi, hb, hk⟩; refine ⟨_, rfl, ?_⟩; replace BP := aa.mk (Kd.bB (Kd.lI (ae.apart (show ae w _ aem Wg Wh Wi from ae.q_ tz) (b9 BP.out) (by decide)) hk (fun _ h => h.2)) (fun _ h => h.1)); replace HB := aa.mk (hb); replace tz := aa.mk (hi); (try clear hb); (try clear hk); (try clear hi)))
 go_ret
 exact ⟨ig, gF HB (ae.ge tz.out)⟩
end Go.Proofs.YtjodlkbhaofkkaaGreat.PA
end
