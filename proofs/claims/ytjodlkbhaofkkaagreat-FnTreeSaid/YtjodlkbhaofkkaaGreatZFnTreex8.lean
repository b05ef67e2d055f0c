-- Bundled by shake.py from this session's printed and written texts; Lean checks it.
import Derived.Ground.Names2Prog
import Derived.Ground.NamesProg
import Derived.Shelf.Abstract
import Derived.Shelf.Slices.CompactI
import Derived.Shelf.Slices.In.SortNone
import Derived.Shelf.Sort.Plain
import Derived.Sort.OwnSortedInts
import Derived.Test.YtjodlkbhaofkkaaGreatZFnTreex7
section
namespace Go.Proofs.YtjodlkbhaofkkaaGreat.PA
open Go.RowKit Go.Proofs.YtjodlkbhaofkkaaGreatW.PrintWords Go.Proofs.YtjodlkbhaofkkaaGreatW.PrintLast Go.Proofs.YtjodlkbhaofkkaaGreatW.PrintMore
attribute [local go_sem] ja jb j5 j6 hY hZ jc jd
set_option linter.unusedVariables false
set_option linter.unusedSimpArgs false
set_option maxHeartbeats 8000000
set_option maxRecDepth 100000
mutual
def bc.j0 : Nat → List Int → Bool → Option (List Int × Bool)
 | 0, _, _ => none
 | k + 1, x0, Br => if Br = true then (some (([] : List Int), false)) else ((some (([] : List Int) : List Int)).bind fun C8 => (if (x0.length : Int) > 0 then (if 0 ≤ (wrap64 ((x0.length : Int) - 1)) then (if (wrap64 ((x0.length : Int) - 1)) < (x0.length : Int) then (bc.j1 k x0 C8 (rd x0 (wrap64 ((x0.length : Int) - 1)))) else (none)) else (none)) else (bc.j1 k x0 C8 0)))
def bc.j1 : Nat → List Int → List Int → Int → Option (List Int × Bool)
 | 0, _, _, _ => none
 | k + 1, x0, x6, x7 => bc.l0 k x0 x6 x7 1
def bc.l0 : Nat → List Int → List Int → Int → Int → Option (List Int × Bool)
 | 0, _, _, _, _ => none
 | k + 1, x0, x6, x7, x8 => if x8 ≤ (wrap64 ((wrap64 (2 * x7)) + 2)) then ((cW.f k x0 x8).bind fun adL => (if adL = true then (bc.l0 k x0 x6 x7 (wrap64 (x8 + 1))) else (if (x6.length : Int) > 0 then ((aD.f k x6 x8).bind fun EU => (if 0 ≤ x8 then (if x8 < (EU.length : Int) then (if e6 false EU x8 = true then (bc.l0 k x0 x6 x7 (wrap64 (x8 + 1))) else (if x6.length < 17592186044416 then (bc.l0 k x0 (x6 ++ [x8]) x7 (wrap64 (x8 + 1))) else (none))) else (none)) else (none))) else (if x6.length < 17592186044416 then (bc.l0 k x0 (x6 ++ [x8]) x7 (wrap64 (x8 + 1))) else (none))))) else ((aA.f k x6).bind fun adM => (if adM = true then (some (x6, true)) else (some (([] : List Int), false))))
end
def bc.f (k : Nat) (l0 : List Int) : Option (List Int × Bool) := (ay.f k l0).bind fun ake => ((eE.f k l0).bind fun adN => (if adN = true then (bc.j0 k l0 ake.2.2) else (bc.j0 k l0 true)))
theorem bc.calls (k : Nat) (A0 : Option Addr) (c0 : Nat) (l0 : List Int) (r1 : List Int) (r2 : Bool) (w : World) (fH : Kd.C (Kd.int .i64) w A0 l0.length l0) (gL : l0.length ≤ c0) (h : bc.f k l0 = some (r1, r2)) :
 Calls Tryz.prog 39 #[.slice A0 l0.length c0] w fun e w' => ∃ jf : Value, e = .returned (.tuple #[.agg #[jf], .bool r2]) ∧ Kd.R (Kd.int .i64) 3 w' w.heap.size (fun _ => True) jf r1 ∧ Below w.heap.size w w' := by
 have kJ := Tryz.underlying26
 have acU := Tryz.underlying69
 have eZ := aa.mk fH
 have jN := aa.mk gL
 clear fH gL
 have HB := aa.mk (Below.refl w.heap.size w)
 have H := h
 clear h
 unfold bc.f at H
 obtain ⟨⟨EV, Ml, akf⟩, A2, H⟩ := eA H
 (try dsimp only at H)
 have CI := aa.mk H
 clear H
 go_enter Tryz.func39, Tryz.ntmps39
 go_upto_region 2 with (first | ((with_reducible refine gate_dst (N := 2) rfl ?_); (try (refine gate_guard (by rfl) ?_; dsimp only)); refine iP 2 #[.slice none 0 0] 26 ?_; intro uO hg w4 hbox hb; have fj := aa.mk (hbox); have awP := ij hg HB; have awQ := ij hg HB; replace HB := jL HB hb; clear hb hbox hg) | ((with_reducible refine gate_callee (f := 80) rfl ?_); refine dU (some 12) Tryz.func80 #[.slice A0 l0.length c0] ?_; (with_reducible refine (ay.calls k _ _ l0 EV Ml akf _ ?ah ?aj A2.out).mono ?_); (case ah => exact iZ eZ HB); (case aj => exact jN.out); rintro e w5 ⟨rfl, hb⟩; refine ⟨_, rfl, ?_⟩; replace fj := cn fj hb; replace HB := eM HB hb; (try clear hb)) | ((with_reducible refine gate_dst (N := 4) rfl ?_); (try (refine gate_guard (by rfl) ?_; dsimp only)); refine iP 4 #[.int .i64 0, .int .i64 0] 69 ?_; intro zL hg w6 hbox hb; have gI := aa.mk (hbox); have awR := kW hg (bC HB); have awS := kW hg (bC HB); replace HB := eM HB hb; have sV := mw hg fj; have sW := my hg fj; replace fj := cn fj hb; clear hb hbox hg; have ajf := sW.out; have ajg := sV.out; have lX : w6.cell? ⟨zL, 0, none⟩ = some (.int .i64 0) := (aH gI.out 0).trans rfl; have HU : w6.cell? ⟨zL, 1, none⟩ = some (.int .i64 0) := (aH gI.out 1).trans rfl; have lY := af gI.out 0; have HV := af gI.out 1))
 (try simp only [Act.put, jK, jA, jB])
 go_cut [20] (fun v20 wc => ∃ (kq : Nat) (J8 : Bool), v20 = .bool J8 ∧ aa (bc.j0 kq l0 J8 = some (r1, r2)) ∧ aa (kq ≤ k) ∧ aa (wc.heap[uO]? = some (.cells #[(.slice none 0 0)] 26 (0, 0))) ∧ aa (wc.heap[zL]? = some (.cells #[.int .i64 EV, .int .i64 Ml] 69 (0, 0))) ∧ aa (Below w.heap.size w wc))
 case first =>
  have H := CI.out
  clear CI
  obtain ⟨adN, A9, H⟩ := eA H
  by_cases rh : adN = true
  · subst rh
    rw [if_pos rfl] at H
    have H' := aa.mk H
    clear H
    go_wp2_with (first | ((with_reducible refine gate_callee (f := 81) rfl ?_); refine dU (some 16) Tryz.func81 #[.slice A0 l0.length c0] ?_; (with_reducible refine (eE.calls k _ _ l0 true _ ?ah ?aj A9.out).mono ?_); (case ah => exact Kd.dx eZ.out (bC HB)); (case aj => exact jN.out); rintro e w' ⟨rfl, ⟨nd, rfl⟩⟩; refine ⟨_, rfl, ?_⟩))
    go_meet
    case rel => exact ⟨_, (akf), eF, H', ⟨by first | omega | exact Nat.le_refl _⟩, ⟨pB fj⟩, ⟨by (with_reducible repeat (first | refine dI ?_ _ | refine bg ?_ | refine du ?_ _)); refine gj (cs := #[.int .i64 EV, .int .i64 0]) ?_ 1 _ rfl; (with_reducible repeat (first | refine dI ?_ _ | refine bg ?_ | refine du ?_ _)); refine gj (cs := #[.int .i64 0, .int .i64 0]) ?_ 0 _ rfl; (with_reducible repeat (first | refine dI ?_ _ | refine bg ?_ | refine du ?_ _)); exact gI.out⟩, ⟨bC HB⟩⟩
  replace rh := Bool.eq_false_iff.mpr rh
  subst rh
  rw [if_neg (show ¬ (false = true) by decide)] at H
  have H' := aa.mk H
  clear H
  go_wp2_with (first | ((with_reducible refine gate_callee (f := 81) rfl ?_); refine dU (some 16) Tryz.func81 #[.slice A0 l0.length c0] ?_; (with_reducible refine (eE.calls k _ _ l0 false _ ?ah ?aj A9.out).mono ?_); (case ah => exact Kd.dx eZ.out (bC HB)); (case aj => exact jN.out); rintro e w' ⟨rfl, ⟨nd, rfl⟩⟩; refine ⟨_, rfl, ?_⟩))
  go_meet
  case rel => exact ⟨_, (true), eF, H', ⟨by first | omega | exact Nat.le_refl _⟩, ⟨pB fj⟩, ⟨by (with_reducible repeat (first | refine dI ?_ _ | refine bg ?_ | refine du ?_ _)); refine gj (cs := #[.int .i64 EV, .int .i64 0]) ?_ 1 _ rfl; (with_reducible repeat (first | refine dI ?_ _ | refine bg ?_ | refine du ?_ _)); refine gj (cs := #[.int .i64 0, .int .i64 0]) ?_ 0 _ rfl; (with_reducible repeat (first | refine dI ?_ _ | refine bg ?_ | refine du ?_ _)); exact gI.out⟩, ⟨bC HB⟩⟩
 case rest =>
  clear CI
  try clear lX
  try clear HU
  try clear lY
  try clear HV
  obtain ⟨kq, J8, rfl, HA, vB, fj, gI, HB⟩ := hcut
  cases kq with
  | zero => exact absurd HA.out (by simp [bc.j0])
  | succ zg =>
   have H := HA.out
   clear HA
   simp only [bc.j0] at H
   by_cases rL : J8 = true
   · subst rL
     rw [if_pos rfl] at H
     simp only [Option.some.injEq, Prod.mk.injEq] at H
     obtain ⟨rfl, rfl⟩ := H
     have Y6 := sV.out
     have Y7 := sW.out
     have JU := fG fj
     have JV := af fj.out 0
     go_wp2
     refine bodyPost_ret (ee rfl _ _ uO 26 #[.slice none 0 0] (0, 0) _ rfl (mz fj) Tryz.underlying26 rfl (by kernel_rfl)) rfl ?_
     exact ⟨_, ig, by first | exact Kd.kQ _ _ _ _ _ | exact Kd.mE _ _ _ _ _ | exact Kd.mF _ _ _ _ _ | exact Kd.mC _ _ _ _ _ | exact Kd.mD _ _ _ _ _, bC HB⟩
   replace rL := Bool.eq_false_iff.mpr rL
   subst rL
   rw [if_neg (show ¬ (false = true) by decide)] at H
   obtain ⟨C8, QJ⟩ : ∃ y_ : List Int, y_ = (([] : List Int)) := ⟨_, rfl⟩
   replace H : (if (l0.length : Int) > 0 then (if 0 ≤ (wrap64 ((l0.length : Int) - 1)) then (if (wrap64 ((l0.length : Int) - 1)) < (l0.length : Int) then (bc.j1 zg l0 C8 (rd l0 (wrap64 ((l0.length : Int) - 1)))) else (none)) else (none)) else (bc.j1 zg l0 C8 0)) = some (r1, r2) := by subst QJ; exact H
   have Zq := aa.mk QJ
   clear QJ
   have adO := aa.mk H
   clear H
   go_upto_if 25 with (first | ((with_reducible refine gate_dst (N := 22) rfl ?_); (try (refine gate_guard (by rfl) ?_; dsimp only)); refine Kd.iK (Kd.int .i64) _ 3 ?hg (N := 22) ?hd (xs := ([] : List Int)) (inner := []) (ok := fun _ => True) (okp := fun _ => True) ?hr ?hp (fun _ hk => hk) trivial (Below.refl _ _) (Nat.le_refl _) (by simp) ?_; (case hd => rfl); (case hg => rfl); (case hr => first | (go_simp; done) | (go_simp; rfl)); (case hp => exact (bE.none _ _)); intro asz LS rk hb hg_ hnew_; clear hg_ hnew_; (first | rw [← Zq.out] at rk | (simp only [Int.reduceToNat] at rk; rw [← Zq.out] at rk)); have Zr := aa.mk (Kd.aW rk (ag (bC HB))); replace fj := cn fj hb; replace gI := cn gI hb; replace HB := eM HB hb; clear hb rk))
   (try simp only [Act.put, jK, jA, jB])
   go_cut [7] (fun v7 wc => ∃ (kq : Nat) (rX : Int), v7 = .int .i64 rX ∧ aa (bc.j1 kq l0 C8 rX = some (r1, r2)) ∧ aa (kq ≤ zg) ∧ aa (Kd.R (Kd.int .i64) 3 wc w.heap.size (fun _ => True) asz C8) ∧ aa (wc.heap[uO]? = some (.cells #[(.slice none 0 0)] 26 (0, 0))) ∧ aa (wc.heap[zL]? = some (.cells #[.int .i64 EV, .int .i64 Ml] 69 (0, 0))) ∧ aa (Below w.heap.size w wc))
   case first =>
    have H := adO.out
    clear adO
    by_cases oN : (l0.length : Int) > 0
    rotate_left
    · rw [if_neg oN] at H
      have oA : decide (0 < (l0.length : Int)) = false := decide_eq_false oN
      have JF : decide (0 < l0.length) = false := decide_eq_false (by omega)
      clear oN
      (first | rw [oA] | (simp only [b6, dw]; rw [oA]) | rw [JF] | skip)
      have H' := aa.mk H
      clear H
      go_wp2
      go_meet
      case rel => exact ⟨_, (0), eF, H', ⟨by have := vB.out; first | omega | exact Nat.le_refl _⟩, ⟨b9 Zr.out⟩, ⟨cC fj.out⟩, ⟨cC gI.out⟩, ⟨bC HB⟩⟩
    rw [if_pos oN] at H
    have oA : decide (0 < (l0.length : Int)) = true := decide_eq_true oN
    have JF : decide (0 < l0.length) = true := decide_eq_true (by omega)
    clear oN
    (first | rw [oA] | (simp only [b6, dw]; rw [oA]) | rw [JF] | skip)
    obtain ⟨EW, J9⟩ : ∃ j_ : Int, (wrap64 ((l0.length : Int) - 1)) = j_ := ⟨_, rfl⟩
    replace H : (if 0 ≤ (EW) then (if (EW) < (l0.length : Int) then (bc.j1 zg l0 C8 (rd l0 (EW))) else (none)) else (none)) = some (r1, r2) := by first | (rw [J9] at H; exact H) | (simp only [J9] at H ⊢; exact H)
    have asA : (IntKind.i64.wrap ((l0.length : Int) - 1)) = EW := (b6 _).trans J9
    obtain ⟨pY, H⟩ := dB H
    obtain ⟨tr, H⟩ := dB H
    have H' := aa.mk H
    clear H
    have adP : 0 ≤ ((EW) : Int) := bO
    have adQ : (EW) < (l0.length : Int) := bO
    obtain ⟨awT, asB, C9⟩ := Kd.aZ eZ.out (EW) adP adQ
    cases asB
    (try replace C9 := (HB.out.cell (World.block_lt_of_cell? w _ C9)).trans C9)
    replace adP := eq_true adP
    replace adQ := eq_true adQ
    go_wp2
    go_meet
    case rel => exact ⟨_, (rd l0 (EW)), (by first | rfl | (simp; done) | (simp only [← J9] <;> (first | rfl | simp)) | (simp [*]; done)), H', ⟨by have := vB.out; first | omega | exact Nat.le_refl _⟩, ⟨b9 Zr.out⟩, ⟨cC fj.out⟩, ⟨cC gI.out⟩, ⟨bC HB⟩⟩
   case rest =>
    clear adO
    obtain ⟨kq, rX, rfl, HA, EX, dh, fj, gI, HB⟩ := hcut
    cases kq with
    | zero => exact absurd HA.out (by simp [bc.j1])
    | succ akg =>
     have H := HA.out
     clear HA
     simp only [bc.j1] at H
     have H' := aa.mk H
     clear H
     go_wp2
     go_loopg [6, 8] akg (fun kq v6 v8 w' => ∃ (lq : List Int) (eO : Int), v8 = .int .i64 eO ∧ aa (bc.l0 kq l0 lq rX eO = some (r1, r2)) ∧ aa (kq ≤ akg) ∧ aa (Kd.R (Kd.int .i64) 3 w' w.heap.size (fun _ => True) v6 lq) ∧ aa (w'.heap[uO]? = some (.cells #[(.slice none 0 0)] 26 (0, 0))) ∧ aa (w'.heap[zL]? = some (.cells #[.int .i64 EV, .int .i64 Ml] 69 (0, 0))) ∧ aa (Below w.heap.size w w'))
     case atStart => exact ⟨(C8), (1), eF, H', ⟨Nat.le_refl _⟩, ⟨b9 dh.out⟩, ⟨cC fj.out⟩, ⟨cC gI.out⟩, ⟨bC HB⟩⟩
     case round =>
      clear H'
      obtain ⟨lq, eO, rfl, HA, lp, dh, fj, gI, HB⟩ := hrel
      cases gk with
      | zero => exact absurd HA.out (by simp [bc.l0])
      | succ k3 =>
       have H := HA.out
       clear HA
       simp only [bc.l0] at H
       by_cases GP : eO ≤ (wrap64 ((wrap64 (2 * rX)) + 2))
       rotate_left
       · rw [if_neg GP] at H
         have tt : decide (eO ≤ (wrap64 ((wrap64 (2 * rX)) + 2))) = false := decide_eq_false GP
         clear GP
         obtain ⟨adM, A41, H⟩ := eA H
         by_cases c42 : adM = true
         · subst c42
           rw [if_pos rfl] at H
           simp only [Option.some.injEq, Prod.mk.injEq] at H
           obtain ⟨rfl, rfl⟩ := H
           obtain ⟨Mm, H9, adR⟩ := Kd.aN dh.out
           subst adR
           go_wp2_with (first | ((with_reducible refine gate_dst (N := 9) rfl ?_); (try (refine gate_guard (by rfl) ?_; dsimp only)); refine iP 9 #[.slice none 0 0] 26 ?_; intro QK hg w44 hbox hb; replace dh := aa.mk (Kd.aY (b9 dh.out) hb); have oF := aa.mk (hbox); have akh := kW hg (bC HB); have aki := kW hg (bC HB); replace HB := eM HB hb; have vX := mw hg fj; have vY := my hg fj; replace fj := cn fj hb; have vZ := mw hg gI; have wa := my hg gI; replace gI := cn gI hb; clear hb hbox hg; have awU := vY.out; have awV := vX.out; have aiM := wa.out; have aiN := vZ.out; have VJ := fG oF; have VK := af oF.out 0) | ((with_reducible refine gate_callee (f := 45) rfl ?_); refine dU (some 62) Tryz.func45 #[.agg #[.slice Mm lq.length H9]] ?_; (with_reducible refine (aA.calls k3 _ _ lq true _ ?ah ?aj A41.out).mono ?_); (case ah => refine (Kd.ao (e := 3) (base := w.heap.size) (ok := fun k_ => True) (n := lq.length) (c := H9) ?_).2.2; exact (nh dh oF)); (case aj => exact (Kd.ao dh.out).2.1); rintro e w48 ⟨rfl, hb⟩; refine ⟨_, rfl, ?_⟩; replace dh := aa.mk (Kd.aY (nh dh oF) hb); replace fj := aa.mk (bW (g := uO) (o := .cells #[.slice none 0 0] 26 (0, 0)) (pB fj) hb); replace gI := aa.mk (bW (g := zL) (o := .cells #[.int .i64 EV, .int .i64 Ml] 69 (0, 0)) (pB gI) hb); replace oF := aa.mk (bW (g := QK) (o := .cells #[.slice Mm lq.length H9] 26 (0, 0)) (mz oF) hb); replace HB := eM HB hb; (try clear hb); have aoL := fG oF; have aoM := af oF.out 0; have YR := sV.out; have YS := sW.out; have aoN := fG fj; have aoO := af fj.out 0))
           refine bodyPost_ret (ee rfl _ _ uO 26 #[.slice Mm lq.length H9] (0, 0) _ rfl (mz fj) Tryz.underlying26 rfl (by kernel_rfl)) rfl ?_
           exact ⟨_, ig, by (with_reducible repeat (first | apply Kd.bQ | apply Kd.bT | apply Kd.bR)); exact Kd.bB (Kd.iJ (p := ⟨uO, 0, none⟩) (Kd.cI dh.out fj.out (by decide)) (fun _ hk => hk.2) (.slice Mm lq.length H9)) (fun _ hk => trivial), bC HB⟩
         replace c42 := Bool.eq_false_iff.mpr c42
         subst c42
         rw [if_neg (show ¬ (false = true) by decide)] at H
         simp only [Option.some.injEq, Prod.mk.injEq] at H
         obtain ⟨rfl, rfl⟩ := H
         obtain ⟨L3, Ho, L4⟩ := Kd.aN dh.out
         subst L4
         go_wp2_with (first | ((with_reducible refine gate_dst (N := 9) rfl ?_); (try (refine gate_guard (by rfl) ?_; dsimp only)); refine iP 9 #[.slice none 0 0] 26 ?_; intro QK hg w53 hbox hb; replace dh := aa.mk (Kd.aY (b9 dh.out) hb); have oF := aa.mk (hbox); have akh := kW hg (bC HB); have aki := kW hg (bC HB); replace HB := eM HB hb; have vX := mw hg fj; have vY := my hg fj; replace fj := cn fj hb; have vZ := mw hg gI; have wa := my hg gI; replace gI := cn gI hb; clear hb hbox hg; have awW := vY.out; have awX := vX.out; have ajo := wa.out; have ajp := vZ.out; have aoP := fG oF; have aoQ := af oF.out 0) | ((with_reducible refine gate_callee (f := 45) rfl ?_); refine dU (some 62) Tryz.func45 #[.agg #[.slice L3 lq.length Ho]] ?_; (with_reducible refine (aA.calls k3 _ _ lq false _ ?ah ?aj A41.out).mono ?_); (case ah => refine (Kd.ao (e := 3) (base := w.heap.size) (ok := fun k_ => True) (n := lq.length) (c := Ho) ?_).2.2; exact (nh dh oF)); (case aj => exact (Kd.ao dh.out).2.1); rintro e w57 ⟨rfl, hb⟩; refine ⟨_, rfl, ?_⟩; replace dh := aa.mk (Kd.aY (nh dh oF) hb); replace fj := aa.mk (bW (g := uO) (o := .cells #[.slice none 0 0] 26 (0, 0)) (pB fj) hb); replace gI := aa.mk (bW (g := zL) (o := .cells #[.int .i64 EV, .int .i64 Ml] 69 (0, 0)) (pB gI) hb); replace oF := aa.mk (bW (g := QK) (o := .cells #[.slice L3 lq.length Ho] 26 (0, 0)) (mz oF) hb); replace HB := eM HB hb; (try clear hb); have Y3 := sV.out; have Y4 := sW.out; have Vg := fG fj; have Vh := af fj.out 0))
         refine bodyPost_ret (ee rfl _ _ uO 26 #[.slice none 0 0] (0, 0) _ rfl (mz fj) Tryz.underlying26 rfl (by kernel_rfl)) rfl ?_
         exact ⟨_, ig, by first | exact Kd.kQ _ _ _ _ _ | exact Kd.mE _ _ _ _ _ | exact Kd.mF _ _ _ _ _ | exact Kd.mC _ _ _ _ _ | exact Kd.mD _ _ _ _ _, bC HB⟩
       rw [if_pos GP] at H
       have tt : decide (eO ≤ (wrap64 ((wrap64 (2 * rX)) + 2))) = true := decide_eq_true GP
       clear GP
       obtain ⟨adL, TQ, H⟩ := eA H
       by_cases q9 : adL = true
       · subst q9
         rw [if_pos rfl] at H
         have H' := aa.mk H
         clear H
         go_wp2_with (first | ((with_reducible refine gate_callee (f := 82) rfl ?_); refine dU (some 41) Tryz.func82 #[.slice A0 l0.length c0, .int .i64 eO] ?_; (with_reducible refine (cW.calls k3 _ _ l0 eO true _ ?ah ?aj TQ.out).mono ?_); (case ah => exact iZ eZ HB); (case aj => exact jN.out); rintro e w' ⟨rfl, ⟨nd, rfl⟩⟩; refine ⟨_, rfl, ?_⟩))
         go_roundg k3
         case measure => have := vB.out; have := EX.out; have := lp.out; omega
         case rel => exact ⟨(lq), (wrap64 (eO + 1)), eF, H', ⟨by have := vB.out; have := EX.out; have := lp.out; omega⟩, ⟨b9 dh.out⟩, ⟨cC fj.out⟩, ⟨cC gI.out⟩, ⟨bC HB⟩⟩
       replace q9 := Bool.eq_false_iff.mpr q9
       subst q9
       rw [if_neg (show ¬ (false = true) by decide)] at H
       by_cases VL : (lq.length : Int) > 0
       rotate_left
       · rw [if_neg VL] at H
         have N1 : decide (0 < (lq.length : Int)) = false := decide_eq_false VL
         have akj : decide (0 < lq.length) = false := decide_eq_false (by omega)
         clear VL
         obtain ⟨c38, H⟩ := kG H
         have akk := aa.mk c38
         clear c38
         obtain ⟨akl, QL⟩ : ∃ y_ : List Int, y_ = (lq ++ [eO]) := ⟨_, rfl⟩
         replace H : (bc.l0 k3 l0 akl rX (wrap64 (eO + 1))) = some (r1, r2) := by subst QL; exact H
         have akm := aa.mk QL
         clear QL
         have H' := aa.mk H
         clear H
         go_wp2_with (first | ((with_reducible refine gate_callee (f := 82) rfl ?_); refine dU (some 41) Tryz.func82 #[.slice A0 l0.length c0, .int .i64 eO] ?_; (with_reducible refine (cW.calls k3 _ _ l0 eO false _ ?ah ?aj TQ.out).mono ?_); (case ah => exact iZ eZ HB); (case aj => exact jN.out); rintro e w' ⟨rfl, ⟨nd, rfl⟩⟩; refine ⟨_, rfl, ?_⟩; obtain ⟨ai9, ai_, ac5⟩ := Kd.aN dh.out; subst ac5) | ((with_reducible refine gate_builtin (b := .append) (xs := #[.tmp 55, .tmp 57]) rfl ?_); (try (refine gate_guard (by rfl) ?_; dsimp only)); at_builtin; refine Kd.ke (Kd.int .i64) (w0 := w) w.heap.size rfl (.tmp 55) (.tmp 57) 24 3 (.int .i64 0) 8 rfl Tryz.underlying24 iS rfl (by decide) (by omega) (.slice ai9 lq.length ai_) lq eO [.int .i64 eO] (fun _ => True) (fun _ => False) rfl rfl ?aP (fun _ hk => hk.elim) ?aF ?aO ?aB ?aS ?aL ?_; (case aP => exact rfl); (case aB => exact (bC HB)); (case aF => exact (fun _ _ => trivial)); (case aO => exact (b9 dh.out)); (case aS => exact (ag (bC HB))); (case aL => have := akk.out; omega); intro aAP w40 ho hb hg hat; rw [← akm.out] at ho; replace fj := aa.mk (cS (cC fj.out) hg (Kd.nR dh.out fj.out (by decide))); replace gI := aa.mk (cS (cC gI.out) hg (Kd.nR dh.out gI.out (by decide))); replace HB := aa.mk (hb); have akn := aa.mk (ho); clear dh; clear ho hb hg hat))
         go_roundg k3
         case measure => have := vB.out; have := EX.out; have := lp.out; omega
         case rel => exact ⟨(akl), (wrap64 (eO + 1)), eF, H', ⟨by have := vB.out; have := EX.out; have := lp.out; omega⟩, ⟨b9 akn.out⟩, ⟨cC fj.out⟩, ⟨cC gI.out⟩, ⟨bC HB⟩⟩
       rw [if_pos VL] at H
       have N1 : decide (0 < (lq.length : Int)) = true := decide_eq_true VL
       have akj : decide (0 < lq.length) = true := decide_eq_true (by omega)
       clear VL
       obtain ⟨EU, A25, H⟩ := eA H
       obtain ⟨Ef, H⟩ := dB H
       obtain ⟨BB, H⟩ := dB H
       obtain ⟨ako, QM⟩ : ∃ b_ : Bool, b_ = (e6 false EU eO) := ⟨_, rfl⟩
       replace H : (if ako = true then (bc.l0 k3 l0 lq rX (wrap64 (eO + 1))) else (if lq.length < 17592186044416 then (bc.l0 k3 l0 (lq ++ [eO]) rX (wrap64 (eO + 1))) else (none))) = some (r1, r2) := by rw [← QM] at H; exact H
       have Zs := aa.mk QM
       clear QM
       by_cases wK : ako = true
       · subst wK
         rw [if_pos rfl] at H
         have H' := aa.mk H
         clear H
         go_wp2_with (first | ((with_reducible refine gate_callee (f := 82) rfl ?_); refine dU (some 41) Tryz.func82 #[.slice A0 l0.length c0, .int .i64 eO] ?_; (with_reducible refine (cW.calls k3 _ _ l0 eO false _ ?ah ?aj TQ.out).mono ?_); (case ah => exact iZ eZ HB); (case aj => exact jN.out); rintro e w' ⟨rfl, ⟨nd, rfl⟩⟩; refine ⟨_, rfl, ?_⟩; obtain ⟨aq2, aq3, UQ⟩ := Kd.aN dh.out; subst UQ) | (go_at_call 83; (with_reducible refine (aD.calls k3 _ _ lq eO EU _ ?ah ?aj A25.out).mono ?_); (case ah => exact kx ((Kd.ao dh.out).2.2)); (case aj => exact (Kd.ao dh.out).2.1); rintro e TP ⟨asC, rfl, b0, hb⟩; replace dh := aa.mk (Kd.aY (b9 dh.out) hb); have zM := aa.mk (Kd.aW b0 (ag (bC HB))); replace fj := cn fj hb; replace gI := cn gI hb; replace HB := eM HB hb; (try clear hb); (try clear b0); obtain ⟨Hu, ED, AY⟩ := Kd.aN zM.out; subst AY; have H_ : 0 ≤ (eO : Int) := bO; have Ia : eO < (EU.length : Int) := bO; obtain ⟨akp, adT, C_⟩ := Kd.fc (Kd.ao zM.out).2.2 eO H_ Ia; (try rw [← Zs.out] at C_); cases adT; replace H_ := eq_true H_; replace Ia := eq_true Ia))
         go_roundg k3
         case measure => have := vB.out; have := EX.out; have := lp.out; omega
         case rel => exact ⟨(lq), (wrap64 (eO + 1)), eF, H', ⟨by have := vB.out; have := EX.out; have := lp.out; omega⟩, ⟨b9 dh.out⟩, ⟨cC fj.out⟩, ⟨cC gI.out⟩, ⟨bC HB⟩⟩
       replace wK := Bool.eq_false_iff.mpr wK
       subst wK
       rw [if_neg (show ¬ (false = true) by decide)] at H
       obtain ⟨CB, H⟩ := kG H
       have akq := aa.mk CB
       clear CB
       obtain ⟨akr, QN⟩ : ∃ y_ : List Int, y_ = (lq ++ [eO]) := ⟨_, rfl⟩
       replace H : (bc.l0 k3 l0 akr rX (wrap64 (eO + 1))) = some (r1, r2) := by subst QN; exact H
       have aks := aa.mk QN
       clear QN
       have H' := aa.mk H
       clear H
       go_wp2_with (first | ((with_reducible refine gate_callee (f := 82) rfl ?_); refine dU (some 41) Tryz.func82 #[.slice A0 l0.length c0, .int .i64 eO] ?_; (with_reducible refine (cW.calls k3 _ _ l0 eO false _ ?ah ?aj TQ.out).mono ?_); (case ah => exact iZ eZ HB); (case aj => exact jN.out); rintro e w' ⟨rfl, ⟨nd, rfl⟩⟩; refine ⟨_, rfl, ?_⟩; obtain ⟨aka, akb, adH⟩ := Kd.aN dh.out; subst adH) | (go_at_call 83; (with_reducible refine (aD.calls k3 _ _ lq eO EU _ ?ah ?aj A25.out).mono ?_); (case ah => exact kx ((Kd.ao dh.out).2.2)); (case aj => exact (Kd.ao dh.out).2.1); rintro e w35 ⟨asC, rfl, b0, hb⟩; replace dh := aa.mk (Kd.aY (b9 dh.out) hb); have zM := aa.mk (Kd.aW b0 (ag (bC HB))); replace fj := cn fj hb; replace gI := cn gI hb; replace HB := eM HB hb; (try clear hb); (try clear b0); obtain ⟨aAQ, aAR, asD⟩ := Kd.aN zM.out; subst asD; have H_ : 0 ≤ (eO : Int) := bO; have Ia : eO < (EU.length : Int) := bO; obtain ⟨akp, adT, C_⟩ := Kd.fc (Kd.ao zM.out).2.2 eO H_ Ia; (try rw [← Zs.out] at C_); cases adT; replace H_ := eq_true H_; replace Ia := eq_true Ia) | ((with_reducible refine gate_builtin (b := .append) (xs := #[.tmp 55, .tmp 57]) rfl ?_); (try (refine gate_guard (by rfl) ?_; dsimp only)); at_builtin; refine Kd.ke (Kd.int .i64) (w0 := w) w.heap.size rfl (.tmp 55) (.tmp 57) 24 3 (.int .i64 0) 8 rfl Tryz.underlying24 iS rfl (by decide) (by omega) (.slice aka lq.length akb) lq eO [.int .i64 eO] (fun _ => True) (fun _ => False) rfl rfl ?aP (fun _ hk => hk.elim) ?aF ?aO ?aB ?aS ?aL ?_; (case aP => exact rfl); (case aB => exact (bC HB)); (case aF => exact (fun _ _ => trivial)); (case aO => exact (b9 dh.out)); (case aS => exact (ag (bC HB))); (case aL => have := akq.out; omega); intro aAS w37 ho hb hg hat; rw [← aks.out] at ho; replace fj := aa.mk (cS (cC fj.out) hg (Kd.nR dh.out fj.out (by decide))); replace gI := aa.mk (cS (cC gI.out) hg (Kd.nR dh.out gI.out (by decide))); replace zM := aa.mk (Kd.o0 (b9 zM.out) (Kd.oZ (b9 dh.out)) (by decide) hg); replace HB := aa.mk (hb); have akt := aa.mk (ho); clear dh; clear ho hb hg hat))
       go_roundg k3
       case measure => have := vB.out; have := EX.out; have := lp.out; omega
       case rel => exact ⟨(akr), (wrap64 (eO + 1)), eF, H', ⟨by have := vB.out; have := EX.out; have := lp.out; omega⟩, ⟨b9 akt.out⟩, ⟨cC fj.out⟩, ⟨cC gI.out⟩, ⟨bC HB⟩⟩
def dq.l0 : Nat → List Int → Int → List Int → Int → Option (List Int)
 | 0, _, _, _, _ => none
 | k + 1, x0, x1, x5, x6 => if x6 < (x0.length : Int) then (if 0 ≤ x6 then (if (rd x0 x6) = x1 then (dq.l0 k x0 x1 x5 (wrap64 (x6 + 1))) else (if x5.length < 17592186044416 then (dq.l0 k x0 x1 (x5 ++ [rd x0 x6]) (wrap64 (x6 + 1))) else (none))) else (none)) else (some x5)
def dq.f (k : Nat) (l0 : List Int) (a1 : Int) : Option (List Int) := dq.l0 k l0 a1 (([] : List Int)) 0
theorem dq.calls (k : Nat) (A0 : Option Addr) (c0 : Nat) (l0 : List Int) (a1 : Int) (r : List Int) (w : World) (fH : Kd.C (Kd.int .i64) w A0 l0.length l0) (gL : l0.length ≤ c0) (h : dq.f k l0 a1 = some r) :
 Calls Tryz.prog 40 #[.slice A0 l0.length c0, .int .i64 a1] w fun e w' => ∃ jf : Value, e = .returned (jf) ∧ Kd.R (Kd.int .i64) 3 w' w.heap.size (fun _ => True) jf r ∧ Below w.heap.size w w' := by
 have eZ := aa.mk fH
 have jN := aa.mk gL
 clear fH gL
 have HB := aa.mk (Below.refl w.heap.size w)
 have H := h
 clear h
 unfold dq.f at H
 obtain ⟨aku, QO⟩ : ∃ y_ : List Int, y_ = (([] : List Int)) := ⟨_, rfl⟩
 replace H : (dq.l0 k l0 a1 aku 0) = some r := by subst QO; exact H
 have Zt := aa.mk QO
 clear QO
 have H' := aa.mk H
 clear H
 go_enter Tryz.func40, Tryz.ntmps40
 go_wp2_with (first | ((with_reducible refine gate_dst (N := 7) rfl ?_); refine Kd.iK (Kd.int .i64) _ 3 ?hg (N := 7) ?hd (xs := ([] : List Int)) (inner := []) (ok := fun _ => True) (okp := fun _ => True) ?hr ?hp (fun _ hk => hk) trivial (Below.refl _ _) (Nat.le_refl _) (by simp) ?_; (case hd => rfl); (case hg => rfl); (case hr => first | (go_simp; done) | (go_simp; rfl)); (case hp => exact (bE.none _ _)); intro aAT w3 EC hb hg_ hnew_; clear hg_ hnew_; (first | rw [← Zt.out] at EC | (simp only [Int.reduceToNat] at EC; rw [← Zt.out] at EC)); have akv := aa.mk (Kd.aW EC (ag (gA HB.out))); replace HB := jL HB hb; clear hb EC))
 go_loopg [5, 6] k (fun kq v5 v6 w' => ∃ (aJ : List Int) (bY : Int), v6 = .int .i64 bY ∧ aa (dq.l0 kq l0 a1 aJ bY = some r) ∧ aa (kq ≤ k) ∧ aa (Kd.R (Kd.int .i64) 3 w' w.heap.size (fun _ => True) v5 aJ) ∧ aa (Below w.heap.size w w'))
 case atStart => exact ⟨(aku), (0), eF, H', ⟨Nat.le_refl _⟩, ⟨b9 akv.out⟩, ⟨gA HB.out⟩⟩
 case round =>
  clear H'
  obtain ⟨aJ, bY, rfl, HA, fu, cr, HB⟩ := hrel
  cases gk with
  | zero => exact absurd HA.out (by simp [dq.l0])
  | succ k1 =>
   have H := HA.out
   clear HA
   simp only [dq.l0] at H
   by_cases c5 : bY < (l0.length : Int)
   rotate_left
   · rw [if_neg c5] at H
     have qJ : decide (bY < (l0.length : Int)) = false := decide_eq_false c5
     clear c5
     obtain rfl := Option.some.inj H
     go_wp2
     go_ret
     exact ⟨_, ig, b9 cr.out, gA HB.out⟩
   rw [if_pos c5] at H
   have qJ : decide (bY < (l0.length : Int)) = true := decide_eq_true c5
   clear c5
   obtain ⟨pH, H⟩ := dB H
   by_cases c7 : (rd l0 bY) = a1
   · rw [if_pos c7] at H
     have oO : ((rd l0 bY) == a1) = true := beq_iff_eq.mpr c7
     have xB : ((rd l0 bY) != a1) = false := bne_eq_false_iff_eq.mpr c7
     clear c7
     have H' := aa.mk H
     clear H
     have Ib : 0 ≤ (bY : Int) := bO
     have Ic : bY < (l0.length : Int) := bO
     obtain ⟨Zu, adU, qU⟩ := Kd.aZ eZ.out bY Ib Ic
     cases adU
     (try replace qU := (HB.out.cell (World.block_lt_of_cell? w _ qU)).trans qU)
     replace Ib := eq_true Ib
     replace Ic := eq_true Ic
     go_wp2
     go_roundg k1
     case measure => have := fu.out; omega
     case rel => exact ⟨(aJ), (wrap64 (bY + 1)), eF, H', ⟨by have := fu.out; omega⟩, ⟨b9 cr.out⟩, ⟨gA HB.out⟩⟩
   rw [if_neg c7] at H
   have oO : ((rd l0 bY) == a1) = false := beq_eq_false_iff_ne.mpr c7
   have xB : ((rd l0 bY) != a1) = true := bne_iff_ne.mpr c7
   obtain ⟨c8, H⟩ := kG H
   have asE := aa.mk c8
   clear c8
   obtain ⟨akw, QP⟩ : ∃ y_ : List Int, y_ = (aJ ++ [rd l0 bY]) := ⟨_, rfl⟩
   replace H : (dq.l0 k1 l0 a1 akw (wrap64 (bY + 1))) = some r := by subst QP; exact H
   have akx := aa.mk QP
   clear QP
   have H' := aa.mk H
   clear H
   have Ib : 0 ≤ (bY : Int) := bO
   have Ic : bY < (l0.length : Int) := bO
   obtain ⟨Zu, adU, qU⟩ := Kd.aZ eZ.out bY Ib Ic
   cases adU
   (try replace qU := (HB.out.cell (World.block_lt_of_cell? w _ qU)).trans qU)
   replace Ib := eq_true Ib
   replace Ic := eq_true Ic
   have adV : 0 ≤ (bY : Int) := bO
   have adW : bY < (l0.length : Int) := bO
   obtain ⟨aky, asF, Da⟩ := Kd.aZ eZ.out bY adV adW
   obtain rfl : Zu = aky := (by injection asF)
   (try replace Da := (HB.out.cell (World.block_lt_of_cell? w _ Da)).trans Da)
   replace adV := eq_true adV
   replace adW := eq_true adW
   go_wp2_with (first | ((with_reducible refine gate_builtin (b := .append) (xs := #[.tmp 20, .tmp 25]) rfl ?_); at_builtin; refine Kd.ke (Kd.int .i64) (w0 := w) w.heap.size rfl (.tmp 20) (.tmp 25) 24 3 (.int .i64 0) 8 rfl Tryz.underlying24 iS rfl (by decide) (by omega) u5 aJ (rd l0 bY) [.int .i64 (rd l0 bY)] (fun _ => True) (fun _ => False) rfl rfl ?aP (fun _ hk => hk.elim) ?aF ?aO ?aB ?aS ?aL ?_; (case aP => exact rfl); (case aB => exact (gA HB.out)); (case aF => exact (fun _ _ => trivial)); (case aO => exact (b9 cr.out)); (case aS => exact (ag (gA HB.out))); (case aL => have := asE.out; omega); intro aAU w9 ho hb hg hat; rw [← akx.out] at ho; replace HB := aa.mk (hb); have akz := aa.mk (ho); clear cr; clear ho hb hg hat))
   go_roundg k1
   case measure => have := fu.out; omega
   case rel => exact ⟨(akw), (wrap64 (bY + 1)), eF, H', ⟨by have := fu.out; omega⟩, ⟨b9 akz.out⟩, ⟨gA HB.out⟩⟩
def iu.f (k : Nat) (an : List Int) : Option (List Int × Bool) := (dj.f k an).bind fun Bc => (if Bc < 1 then (some (([] : List Int), false)) else ((bA.f k an).bind fun QQ => ((dq.f k QQ Bc).bind fun QR => ((bc.f k QR).bind fun Zv => (some (Zv.1, Zv.2))))))
theorem iu.calls (k : Nat) (bF : Option Addr) (bl : Nat) (an : List Int) (r1 : List Int) (r2 : Bool) (w : World) (eB : Kd.C (Kd.int .i64) w bF an.length an) (eC : an.length ≤ bl) (h : iu.f k an = some (r1, r2)) :
 Calls Tryz.prog 8 #[.agg #[.slice bF an.length bl]] w fun e w' => ∃ jf : Value, e = .returned (.tuple #[.agg #[jf], .bool r2]) ∧ Kd.R (Kd.int .i64) 3 w' w.heap.size (fun _ => True) jf r1 ∧ Below w.heap.size w w' := by
 have kJ := Tryz.underlying26
 have bV := aa.mk eB
 have cH := aa.mk eC
 clear eB eC
 have HB := aa.mk (Below.refl w.heap.size w)
 have H := h
 clear h
 unfold iu.f at H
 obtain ⟨Bc, A2, H⟩ := eA H
 by_cases c3 : Bc < 1
 · rw [if_pos c3] at H
   have jD : decide (Bc < 1) = true := decide_eq_true c3
   clear c3
   simp only [Option.some.injEq, Prod.mk.injEq] at H
   obtain ⟨rfl, rfl⟩ := H
   go_enter Tryz.func8, Tryz.ntmps8
   go_wp2_with (first | ((with_reducible refine gate_dst (N := 1) rfl ?_); refine iP 1 #[.slice bF an.length bl] 26 ?_; intro akA hg w4 hbox hb; have jz := aa.mk (hbox); have akB := ij hg HB; have akC := ij hg HB; replace HB := jL HB hb; clear hb hbox hg) | ((with_reducible refine gate_dst (N := 2) rfl ?_); refine iP 2 #[.slice none 0 0] 26 ?_; intro J_ hg w5 hbox hb; have kS := aa.mk (hbox); have akD := kW hg (bC HB); have akE := kW hg (bC HB); replace HB := eM HB hb; have we := mw hg jz; have wg := my hg jz; replace jz := cn jz hb; clear hb hbox hg; have ajD := we.out; have ajE := wg.out; have CX := fG jz; have CY := af jz.out 0) | ((with_reducible refine gate_callee (f := 38) rfl ?_); refine dU (some 8) Tryz.func38 #[.agg #[.slice bF an.length bl]] ?_; (with_reducible refine (dj.calls k _ _ an Bc _ ?ah ?aj A2.out).mono ?_); (case ah => exact iZ bV HB); (case aj => exact cH.out); rintro e w8 ⟨rfl, hb⟩; refine ⟨_, rfl, ?_⟩; replace jz := cn jz hb; replace kS := cn kS hb; replace HB := eM HB hb; (try clear hb); have Qc := fG kS; have Qd := af kS.out 0))
   refine bodyPost_ret (ee rfl _ _ J_ 26 #[.slice none 0 0] (0, 0) _ rfl (mz kS) Tryz.underlying26 rfl (by kernel_rfl)) rfl ?_
   exact ⟨_, ig, by first | exact Kd.kQ _ _ _ _ _ | exact Kd.mE _ _ _ _ _ | exact Kd.mF _ _ _ _ _ | exact Kd.mC _ _ _ _ _ | exact Kd.mD _ _ _ _ _, bC HB⟩
 rw [if_neg c3] at H
 have jD : decide (Bc < 1) = false := decide_eq_false c3
 clear c3
 obtain ⟨QQ, Nc, H⟩ := eA H
 obtain ⟨QR, A11, H⟩ := eA H
 obtain ⟨⟨VM, asG⟩, A12, H⟩ := eA H
 (try dsimp only at H)
 simp only [Option.some.injEq, Prod.mk.injEq] at H
 obtain ⟨rfl, rfl⟩ := H
 go_enter Tryz.func8, Tryz.ntmps8
 go_wp2_with (first | ((with_reducible refine gate_dst (N := 1) rfl ?_); refine iP 1 #[.slice bF an.length bl] 26 ?_; intro akA hg Eb hbox hb; have jz := aa.mk (hbox); have akB := ij hg HB; have akC := ij hg HB; replace HB := jL HB hb; clear hb hbox hg) | ((with_reducible refine gate_dst (N := 2) rfl ?_); refine iP 2 #[.slice none 0 0] 26 ?_; intro J_ hg TI hbox hb; have kS := aa.mk (hbox); have akD := kW hg (bC HB); have akE := kW hg (bC HB); replace HB := eM HB hb; have we := mw hg jz; have wg := my hg jz; replace jz := cn jz hb; clear hb hbox hg; have awZ := we.out; have aw0 := wg.out; have aoR := fG jz; have aoS := af jz.out 0) | ((with_reducible refine gate_callee (f := 38) rfl ?_); refine dU (some 8) Tryz.func38 #[.agg #[.slice bF an.length bl]] ?_; (with_reducible refine (dj.calls k _ _ an Bc _ ?ah ?aj A2.out).mono ?_); (case ah => exact iZ bV HB); (case aj => exact cH.out); rintro e LN ⟨rfl, hb⟩; refine ⟨_, rfl, ?_⟩; replace jz := cn jz hb; replace kS := cn kS hb; replace HB := eM HB hb; (try clear hb); have yd := fG jz; have ye := af jz.out 0) | ((with_reducible refine gate_callee (f := 41) rfl ?_); refine dU (some 14) Tryz.func41 #[.agg #[.slice bF an.length bl]] ?_; (with_reducible refine (bA.calls k _ _ an QQ _ ?ah ?aj Nc.out).mono ?_); (case ah => exact iZ bV HB); (case aj => exact cH.out); rintro e TJ ⟨aAV, rfl, b0, hb⟩; refine ⟨_, rfl, ?_⟩; have rY := aa.mk (Kd.aW b0 (ag (bC HB))); replace jz := cn jz hb; replace kS := cn kS hb; replace HB := eM HB hb; (try clear hb); (try clear b0); obtain ⟨CN, pN, AZ⟩ := Kd.aN rY.out; subst AZ) | ((with_reducible refine gate_callee (f := 40) rfl ?_); refine dU (some 16) Tryz.func40 #[.slice CN QQ.length pN, .int .i64 Bc] ?_; (with_reducible refine (dq.calls k _ _ QQ Bc QR _ ?ah ?aj A11.out).mono ?_); (case ah => exact kx ((Kd.ao rY.out).2.2)); (case aj => exact (Kd.ao rY.out).2.1); rintro e TK ⟨aAW, rfl, b0, hb⟩; refine ⟨_, rfl, ?_⟩; have w_ := aa.mk (Kd.aW (Kd.eV b0 (Kd.gy (b9 rY.out))) (ag (bC HB))); replace rY := aa.mk (Kd.dZ (b9 rY.out) (Kd.cV b0) hb); replace jz := cn jz hb; replace kS := cn kS hb; replace HB := eM HB hb; (try clear hb); (try clear b0); obtain ⟨VN, G6, CC⟩ := Kd.aN w_.out; subst CC) | ((with_reducible refine gate_callee (f := 39) rfl ?_); refine dU (some 17) Tryz.func39 #[.slice VN QR.length G6] ?_; (with_reducible refine (bc.calls k _ _ QR VM asG _ ?ah ?aj A12.out).mono ?_); (case ah => exact kx ((Kd.ao w_.out).2.2)); (case aj => exact (Kd.ao w_.out).2.1); rintro e xV ⟨aAX, rfl, b0, hb⟩; refine ⟨_, rfl, ?_⟩; have Ka := aa.mk (Kd.aW (Kd.eV (Kd.eV b0 (Kd.gy (b9 rY.out))) (Kd.gy (b9 w_.out))) (ag (bC HB))); replace rY := aa.mk (Kd.dZ (b9 rY.out) (Kd.cV b0) hb); replace w_ := aa.mk (Kd.dZ (b9 w_.out) (Kd.cV b0) hb); replace jz := cn jz hb; replace kS := cn kS hb; replace HB := eM HB hb; (try clear hb); (try clear b0)) | ((with_reducible refine gate_dst (N := 5) rfl ?_); refine iP 5 #[.slice none 0 0] 26 ?_; intro akF hg Ek hbox hb; replace rY := aa.mk (Kd.aY (b9 rY.out) hb); replace w_ := aa.mk (Kd.aY (b9 w_.out) hb); replace Ka := aa.mk (Kd.aY (b9 Ka.out) hb); have QS := aa.mk (hbox); have aw1 := kW hg (bC HB); have aw2 := kW hg (bC HB); replace HB := eM HB hb; have Mn := mw hg jz; have Mo := my hg jz; replace jz := cn jz hb; have Mp := mw hg kS; have Mq := my hg kS; replace kS := cn kS hb; clear hb hbox hg; obtain ⟨VO, Ie, adX⟩ := Kd.aN Ka.out; subst adX; have ajl := Mo.out; have ajm := Mn.out; have Zd := Mq.out; have Ze := Mp.out; have yb := fG QS; have yc := af QS.out 0; have Kb := fG kS; have Ke := af kS.out 0))
 refine bodyPost_ret (ee rfl _ _ J_ 26 #[.slice VO VM.length Ie] (0, 0) _ rfl (mz kS) Tryz.underlying26 rfl (by kernel_rfl)) rfl ?_
 exact ⟨_, ig, by (with_reducible repeat (first | apply Kd.bQ | apply Kd.bT | apply Kd.bR)); exact Kd.bB (Kd.iJ (p := ⟨J_, 0, none⟩) (Kd.iJ (p := ⟨akF, 0, none⟩) (Kd.cI (Kd.cI Ka.out QS.out (by decide)) kS.out (by decide)) (fun _ hk => hk.1.2) (.slice VO VM.length Ie)) (fun _ hk => hk.2) (.slice VO VM.length Ie)) (fun _ hk => trivial), bC HB⟩
def gP.f (k : Nat) (l0 : List Int) : Option (List Int) := (eh.f k l0).bind fun QT => ((dH.f k QT.1 QT.2.1 QT.2.2).bind fun akG => (some akG.1))
theorem gP.calls (k : Nat) (A0 : Option Addr) (c0 : Nat) (l0 : List Int) (r : List Int) (w : World) (fH : Kd.C (Kd.int .u8) w A0 l0.length l0) (gL : l0.length ≤ c0) (h : gP.f k l0 = some r) :
 Calls Tryz.prog 9 #[.slice A0 l0.length c0] w fun e w' => ∃ jf : Value, e = .returned (.agg #[jf]) ∧ Kd.Q (Kd.int .i64) 3 w' w.heap.size (fun _ => True) jf r ∧ Below w.heap.size w w' := by
 have kJ := Tryz.underlying26
 have eZ := aa.mk fH
 have jN := aa.mk gL
 clear fH gL
 have HB := aa.mk (Below.refl w.heap.size w)
 have H := h
 clear h
 unfold gP.f at H
 obtain ⟨⟨akH, akI, akJ⟩, A2, H⟩ := eA H
 (try dsimp only at H)
 obtain ⟨⟨adY, asH, asI⟩, A3, H⟩ := eA H
 (try dsimp only at H)
 obtain rfl := Option.some.inj H
 go_enter Tryz.func9, Tryz.ntmps9
 go_wp2_with (first | ((with_reducible refine gate_dst (N := 2) rfl ?_); refine iP 2 #[.slice none 0 0] 26 ?_; intro QU hg w4 hbox hb; have tv := aa.mk (hbox); have aw3 := ij hg HB; have aw4 := ij hg HB; replace HB := jL HB hb; clear hb hbox hg) | ((with_reducible refine gate_callee (f := 35) rfl ?_); refine dU (some 4) Tryz.func35 #[.slice A0 l0.length c0] ?_; (with_reducible refine (eh.calls k _ _ l0 akH akI akJ w _ ?ah ?aj ?fB A2.out).mono ?_); (case ah => exact bC HB); (case aj => exact eZ.out); (case fB => exact jN.out); rintro e w5 ⟨akK, rfl, hi, hb, vA⟩; refine ⟨_, rfl, ?_⟩; replace HB := aa.mk (hb); have EY := aa.mk (hi); have Mr := aa.mk (ae.rK hi (bW (cC tv.out) vA) (by decide)); have BI := aa.mk (Ne.symm (ae.rK hi (bW (cC tv.out) vA) (by decide))); replace tv := aa.mk (bW (cC tv.out) vA); (try clear hb); (try clear vA); (try clear hi)) | ((with_reducible refine gate_callee (f := 34) rfl ?_); refine dU (some 5) Tryz.func34 #[.pointer (some ⟨akK, 0, none⟩)] ?_; (with_reducible refine (dH.calls k akK akH akI akJ adY asH asI w _ ?ah ?aj A3.out).mono ?_); (case ah => exact ae.q_ EY); (case aj => exact gF HB (ae.ge EY.out)); rintro e w6 ⟨aAY, rfl, b0, hi, hb, hk⟩; refine ⟨_, rfl, ?_⟩; replace tv := aa.mk (aq.pS hk (g' := QU) (o := .cells #[.slice none 0 0] 26 (0, 0)) (cC tv.out) BI.out (by simp)); have Zw := aa.mk (Kd.oX b0 (ag (gF HB (ae.ge EY.out)))); replace HB := aa.mk (hb); replace EY := aa.mk (hi); (try clear hb); (try clear hk); (try clear hi); (try clear b0); obtain ⟨AH, sP, Bo, _⟩ := Kd.la Zw.out; subst Bo; have arE := BI.out; have arF := Mr.out; have Qc := fG tv; have Qd := af tv.out 0))
 refine bodyPost_ret (results_cell_row rfl _ _ QU 26 #[.slice AH adY.length sP] (0, 0) _ rfl (mz tv) Tryz.underlying26 rfl (by kernel_rfl)) rfl ?_
 exact ⟨_, ig, by (with_reducible repeat (first | apply Kd.gf | apply Kd.gh | apply Kd.dV)); exact Kd.fe (Kd.oY (p := ⟨QU, 0, none⟩) (Kd.bz Zw.out tv.out (by decide)) (fun _ hk => hk.2) (.slice AH adY.length sP)) (fun _ hk => trivial), gF HB (ae.ge EY.out)⟩
def ic.f (k : Nat) (an : List Int) : Option (Int) := (cU.f k an).bind fun qm => (if (qm.length : Int) = 0 then (some (-1)) else (if 0 ≤ (wrap64 ((qm.length : Int) - 1)) then (if (wrap64 ((qm.length : Int) - 1)) < (qm.length : Int) then (some (rd qm (wrap64 ((qm.length : Int) - 1)))) else (none)) else (none)))
theorem ic.calls (k : Nat) (bF : Option Addr) (bl : Nat) (an : List Int) (r : Int) (w : World) (eB : Kd.C (Kd.int .i64) w bF an.length an) (eC : an.length ≤ bl) (h : ic.f k an = some r) :
 Calls Tryz.prog 43 #[.agg #[.slice bF an.length bl]] w fun e w' => e = .returned (.int .i64 r) ∧ Below w.heap.size w w' := by
 have kJ := Tryz.underlying26
 have bV := aa.mk eB
 have cH := aa.mk eC
 clear eB eC
 have HB := aa.mk (Below.refl w.heap.size w)
 have H := h
 clear h
 unfold ic.f at H
 obtain ⟨qm, A2, H⟩ := eA H
 by_cases c3 : (qm.length : Int) = 0
 · rw [if_pos c3] at H
   have jD : ((qm.length : Int) == 0) = true := beq_iff_eq.mpr c3
   have ow : ((qm.length : Int) != 0) = false := bne_eq_false_iff_eq.mpr c3
   clear c3
   obtain rfl := Option.some.inj H
   go_enter Tryz.func43, Tryz.ntmps43
   go_wp2_with (first | ((with_reducible refine gate_dst (N := 1) rfl ?_); refine iP 1 #[.slice bF an.length bl] 26 ?_; intro akL hg w4 hbox hb; have uP := aa.mk (hbox); have akM := ij hg HB; have akN := ij hg HB; replace HB := jL HB hb; clear hb hbox hg; have CG := fG uP; have H0 := af uP.out 0) | ((with_reducible refine gate_callee (f := 36) rfl ?_); refine dU (some 5) Tryz.func36 #[.agg #[.slice bF an.length bl]] ?_; (with_reducible refine (cU.calls k _ _ an qm _ ?ah ?aj A2.out).mono ?_); (case ah => exact iZ bV HB); (case aj => exact cH.out); rintro e w6 ⟨asJ, rfl, b0, hb⟩; refine ⟨_, rfl, ?_⟩; have Kf := aa.mk (Kd.aW b0 (ag (bC HB))); replace uP := cn uP hb; replace HB := eM HB hb; (try clear hb); (try clear b0); obtain ⟨AH, sP, Bo⟩ := Kd.aN Kf.out; subst Bo))
   go_ret
   exact ⟨ig, bC HB⟩
 rw [if_neg c3] at H
 have jD : ((qm.length : Int) == 0) = false := beq_eq_false_iff_ne.mpr c3
 have ow : ((qm.length : Int) != 0) = true := bne_iff_ne.mpr c3
 have uw : ¬ (qm = []) := fun h_ => c3 (by rw [h_]; rfl)
 obtain ⟨oU, rW⟩ : ∃ j_ : Int, (wrap64 ((qm.length : Int) - 1)) = j_ := ⟨_, rfl⟩
 replace H : (if 0 ≤ (oU) then (if (oU) < (qm.length : Int) then (some (rd qm (oU))) else (none)) else (none)) = some r := by first | (rw [rW] at H; exact H) | (simp only [rW] at H ⊢; exact H)
 (try rw [rW] at A2)
 have Zo : (IntKind.i64.wrap ((qm.length : Int) - 1)) = oU := (b6 _).trans rW
 obtain ⟨uo, H⟩ := dB H
 obtain ⟨pW, H⟩ := dB H
 obtain rfl := Option.some.inj H
 go_enter Tryz.func43, Tryz.ntmps43
 go_wp2_with (first | ((with_reducible refine gate_dst (N := 1) rfl ?_); refine iP 1 #[.slice bF an.length bl] 26 ?_; intro akL hg Bn hbox hb; have uP := aa.mk (hbox); have akM := ij hg HB; have akN := ij hg HB; replace HB := jL HB hb; clear hb hbox hg; have nV := fG uP; have nW := af uP.out 0) | ((with_reducible refine gate_callee (f := 36) rfl ?_); refine dU (some 5) Tryz.func36 #[.agg #[.slice bF an.length bl]] ?_; (with_reducible refine (cU.calls k _ _ an qm _ ?ah ?aj A2.out).mono ?_); (case ah => exact iZ bV HB); (case aj => exact cH.out); rintro e Eb ⟨asJ, rfl, b0, hb⟩; refine ⟨_, rfl, ?_⟩; have Kf := aa.mk (Kd.aW b0 (ag (bC HB))); replace uP := cn uP hb; replace HB := eM HB hb; (try clear hb); (try clear b0); obtain ⟨aj0, aj1, QB⟩ := Kd.aN Kf.out; subst QB; have adZ : 0 ≤ ((oU) : Int) := bO; have ad0 : (oU) < (qm.length : Int) := bO; obtain ⟨aw5, asK, aoT⟩ := Kd.aZ (Kd.ao Kf.out).2.2 (oU) adZ ad0; cases asK; replace adZ := eq_true adZ; replace ad0 := eq_true ad0))
 go_ret
 exact ⟨by first | rfl | (simp [cD, cF] <;> rfl) | (simp only [← rW]; first | rfl | (simp [cD, cF] <;> rfl)) | (simp [*, cD, cF] <;> rfl), bC HB⟩
def cy.l0 : Nat → List Int → Int → Int → Int → Option (Int)
 | 0, _, _, _, _ => none
 | k + 1, x0, x1, x7, x8 => if x8 < x7 then (if 0 ≤ x8 then (if x8 < (x0.length : Int) then (if x1 = (rd x0 x8) then (some x8) else (cy.l0 k x0 x1 x7 (wrap64 (x8 + 1)))) else (none)) else (none)) else (some (-1))
def cy.f (k : Nat) (l0 : List Int) (a1 : Int) : Option (Int) := cy.l0 k l0 a1 (l0.length : Int) 0
theorem cy.calls (k : Nat) (A0 : Option Addr) (c0 : Nat) (l0 : List Int) (a1 : Int) (r : Int) (w : World) (fH : Kd.C (Kd.int .i64) w A0 l0.length l0) (gL : l0.length ≤ c0) (h : cy.f k l0 a1 = some r) :
 Calls Tryz.prog 111 #[.slice A0 l0.length c0, .int .i64 a1] w fun e w' => e = .returned (.int .i64 r) ∧ av w w' := by
 have eZ := aa.mk fH
 have jN := aa.mk gL
 clear fH gL
 have H := h
 clear h
 unfold cy.f at H
 have H' := aa.mk H
 clear H
 go_enter Tryz.func111, Tryz.ntmps111
 go_wp2
 go_loopg [8] k (fun kq v8 w' => ∃ (lh : Int), v8 = .int .i64 lh ∧ aa (cy.l0 kq l0 a1 (l0.length : Int) lh = some r) ∧ aa (kq ≤ k) ∧ av w w')
 case atStart => exact ⟨(0), eF, H', ⟨Nat.le_refl _⟩, by repeat (first | exact av.refl _ | apply av.step)⟩
 case round =>
  clear H'
  obtain ⟨lh, rfl, HA, fu, ⟨m1, rfl⟩⟩ := hrel
  cases gk with
  | zero => exact absurd HA.out (by simp [cy.l0])
  | succ k1 =>
   have H := HA.out
   clear HA
   simp only [cy.l0] at H
   by_cases c3 : lh < (l0.length : Int)
   rotate_left
   · rw [if_neg c3] at H
     have jD : decide (lh < (l0.length : Int)) = false := decide_eq_false c3
     clear c3
     obtain rfl := Option.some.inj H
     go_wp2
     go_ret
     exact ⟨by first | rfl | (simp; done) | (simp [*]; done), by repeat (first | exact av.refl _ | apply av.step)⟩
   rw [if_pos c3] at H
   have jD : decide (lh < (l0.length : Int)) = true := decide_eq_true c3
   clear c3
   obtain ⟨kI, H⟩ := dB H
   obtain ⟨qJ, H⟩ := dB H
   by_cases c6 : a1 = (rd l0 lh)
   · rw [if_pos c6] at H
     have pH : (a1 == (rd l0 lh)) = true := beq_iff_eq.mpr c6
     have LU : (a1 != (rd l0 lh)) = false := bne_eq_false_iff_eq.mpr c6
     clear c6
     obtain rfl := Option.some.inj H
     have Ig : 0 ≤ (lh : Int) := bO
     have Ih : lh < (l0.length : Int) := bO
     obtain ⟨akO, ad1, VP⟩ := Kd.aZ eZ.out lh Ig Ih
     cases ad1
     replace Ig := eq_true Ig
     replace Ih := eq_true Ih
     go_wp2
     go_ret
     exact ⟨by first | rfl | (simp; done) | (simp [*]; done), by repeat (first | exact av.refl _ | apply av.step)⟩
   rw [if_neg c6] at H
   have pH : (a1 == (rd l0 lh)) = false := beq_eq_false_iff_ne.mpr c6
   have LU : (a1 != (rd l0 lh)) = true := bne_iff_ne.mpr c6
   have H' := aa.mk H
   clear H
   have Ig : 0 ≤ (lh : Int) := bO
   have Ih : lh < (l0.length : Int) := bO
   obtain ⟨akO, ad1, VP⟩ := Kd.aZ eZ.out lh Ig Ih
   cases ad1
   replace Ig := eq_true Ig
   replace Ih := eq_true Ih
   go_wp2
   go_roundg k1
   case measure => have := fu.out; omega
   case rel => exact ⟨(wrap64 (lh + 1)), eF, H', ⟨by have := fu.out; omega⟩, by repeat (first | exact av.refl _ | apply av.step)⟩
def eY.f (k : Nat) (l0 : List Int) (a1 : Int) : Option (Bool) := (cy.f k l0 a1).bind fun ad2 => (some (decide (ad2 ≥ 0)))
theorem eY.calls (k : Nat) (A0 : Option Addr) (c0 : Nat) (l0 : List Int) (a1 : Int) (r : Bool) (w : World) (fH : Kd.C (Kd.int .i64) w A0 l0.length l0) (gL : l0.length ≤ c0) (h : eY.f k l0 a1 = some r) :
 Calls Tryz.prog 89 #[.slice A0 l0.length c0, .int .i64 a1] w fun e w' => e = .returned (.bool r) ∧ av w w' := by
 have eZ := aa.mk fH
 have jN := aa.mk gL
 clear fH gL
 have H := h
 clear h
 unfold eY.f at H
 obtain ⟨ad2, A3, H⟩ := eA H
 obtain rfl := Option.some.inj H
 go_enter Tryz.func89, Tryz.ntmps89
 go_wp2_with (first | ((with_reducible refine gate_callee (f := 111) rfl ?_); refine dU (some 7) Tryz.func111 #[.slice A0 l0.length c0, .int .i64 a1] ?_; (with_reducible refine (cy.calls k _ _ l0 a1 ad2 _ ?ah ?aj A3.out).mono ?_); (case ah => exact kx (eZ.out)); (case aj => exact jN.out); rintro e w' ⟨rfl, ⟨nd, rfl⟩⟩; refine ⟨_, rfl, ?_⟩))
 go_ret
 exact ⟨by first | rfl | (simp; done) | (simp [*]; done), by repeat (first | exact av.refl _ | apply av.step)⟩
end Go.Proofs.YtjodlkbhaofkkaaGreat.PA
end
section
namespace Go.Proofs
open Go.Shelf
def Tryz.EZ : Go.Shelf.Ren := ⟨fun | 189 => 112 | 125 => 116 | 257 => 119 | 128 => 130 | 129 => 131 | 294 => 133 | 295 => 134 | 296 => 135 | 297 => 136 | 298 => 137 | 299 => 138 | 216 => 139 | 300 => 140 | 301 => 141 | 328 => 147 | 329 => 143 | 330 => 144 | 331 => 148 | 332 => 149 | 215 => 132 | 343 => 151 | n => n, fun | 28 => 24 | 3 => 3 | 46 => 87 | 0 => 0 | 51 => 100 | 53 => 102 | 4 => 4 | 183 => 93 | 182 => 92 | 131 => 97 | 5 => 5 | 9 => 9 | 218 => 108 | 222 => 112 | 228 => 116 | 229 => 117 | n => n, fun | n => n⟩
theorem Tryz.Kg : Go.Proofs.Lays.n189 Tryz.prog Tryz.EZ := {
 mixed := by kernel_rfl
 f125 := Tryz.func116.trans (congrArg some (by kernel_rfl))
 f128 := Tryz.func130.trans (congrArg some (by kernel_rfl))
 f129 := Tryz.func131.trans (congrArg some (by kernel_rfl))
 f189 := Tryz.func112.trans (congrArg some (by kernel_rfl))
 f215 := Tryz.func132.trans (congrArg some (by kernel_rfl))
 f216 := Tryz.func139.trans (congrArg some (by kernel_rfl))
 f257 := Tryz.func119.trans (congrArg some (by kernel_rfl))
 f294 := Tryz.func133.trans (congrArg some (by kernel_rfl))
 f295 := Tryz.func134.trans (congrArg some (by kernel_rfl))
 f296 := Tryz.func135.trans (congrArg some (by kernel_rfl))
 f297 := Tryz.func136.trans (congrArg some (by kernel_rfl))
 f298 := Tryz.func137.trans (congrArg some (by kernel_rfl))
 f299 := Tryz.func138.trans (congrArg some (by kernel_rfl))
 f300 := Tryz.func140.trans (congrArg some (by kernel_rfl))
 f301 := Tryz.func141.trans (congrArg some (by kernel_rfl))
 f328 := Tryz.func147.trans (congrArg some (by kernel_rfl))
 f329 := Tryz.func143.trans (congrArg some (by kernel_rfl))
 f330 := Tryz.func144.trans (congrArg some (by kernel_rfl))
 f331 := Tryz.func148.trans (congrArg some (by kernel_rfl))
 f332 := Tryz.func149.trans (congrArg some (by kernel_rfl))
 f343 := Tryz.func151.trans (congrArg some (by kernel_rfl))
 t0 := Tryz.underlying0
 a0 := Tryz.isAgg0
 z0 := Tryz.sizeOf0
 v0 := Tryz.zeroValue0
 t3 := Tryz.underlying3
 a3 := Tryz.isAgg3
 z3 := Tryz.sizeOf3
 v3 := Tryz.zeroValue3
 t4 := Tryz.underlying4
 a4 := Tryz.isAgg4
 z4 := Tryz.sizeOf4
 v4 := Tryz.zeroValue4
 t5 := Tryz.underlying5
 a5 := Tryz.isAgg5
 z5 := Tryz.sizeOf5
 v5 := Tryz.zeroValue5
 t9 := Tryz.underlying9
 a9 := Tryz.isAgg9
 z9 := Tryz.sizeOf9
 v9 := Tryz.zeroValue9
 t28 := Tryz.underlying24
 a28 := Tryz.isAgg24
 z28 := Tryz.sizeOf24
 v28 := Tryz.zeroValue24
 t46 := Tryz.underlying87
 a46 := Tryz.isAgg87
 z46 := Tryz.sizeOf87
 v46 := Tryz.zeroValue87
 t51 := Tryz.underlying100
 a51 := Tryz.isAgg100
 z51 := Tryz.sizeOf100
 v51 := Tryz.zeroValue100
 t53 := Tryz.underlying102
 a53 := Tryz.isAgg102
 z53 := Tryz.sizeOf102
 v53 := Tryz.zeroValue102
 t131 := Tryz.underlying97
 a131 := Tryz.isAgg97
 z131 := Tryz.sizeOf97
 v131 := Tryz.zeroValue97
 t182 := Tryz.underlying92
 a182 := Tryz.isAgg92
 z182 := Tryz.sizeOf92
 v182 := Tryz.zeroValue92
 t183 := Tryz.underlying93
 a183 := Tryz.isAgg93
 z183 := Tryz.sizeOf93
 v183 := Tryz.zeroValue93
 t218 := Tryz.underlying108
 a218 := Tryz.isAgg108
 z218 := Tryz.sizeOf108
 v218 := Tryz.zeroValue108
 t222 := Tryz.underlying112
 a222 := Tryz.isAgg112
 z222 := Tryz.sizeOf112
 v222 := Tryz.zeroValue112
 t228 := Tryz.underlying116
 a228 := Tryz.isAgg116
 z228 := Tryz.sizeOf116
 v228 := Tryz.zeroValue116
 t229 := Tryz.underlying117
 a229 := Tryz.isAgg117
 z229 := Tryz.sizeOf117
 v229 := Tryz.zeroValue117 }
def Tryz.Ii : Go.Shelf.Ren := ⟨fun | 20 => 113 | n => n, fun | 22 => 24 | 3 => 3 | 4 => 4 | 0 => 0 | n => n, fun | n => n⟩
theorem Tryz.QV : Go.Proofs.Lays2.n20 Tryz.prog Tryz.Ii := {
 mixed := by kernel_rfl
 f20 := Tryz.func113.trans (congrArg some (by kernel_rfl))
 t0 := Tryz.underlying0
 a0 := Tryz.isAgg0
 z0 := Tryz.sizeOf0
 v0 := Tryz.zeroValue0
 t3 := Tryz.underlying3
 a3 := Tryz.isAgg3
 z3 := Tryz.sizeOf3
 v3 := Tryz.zeroValue3
 t4 := Tryz.underlying4
 a4 := Tryz.isAgg4
 z4 := Tryz.sizeOf4
 v4 := Tryz.zeroValue4
 t22 := Tryz.underlying24
 a22 := Tryz.isAgg24
 z22 := Tryz.sizeOf24
 v22 := Tryz.zeroValue24
 i3 := by kernel_rfl }
end Go.Proofs
end
section
namespace Go.Proofs.YtjodlkbhaofkkaaGreat.PA
open Go.RowKit Go.Proofs.YtjodlkbhaofkkaaGreatW.PrintWords Go.Proofs.YtjodlkbhaofkkaaGreatW.PrintLast Go.Proofs.YtjodlkbhaofkkaaGreatW.PrintMore
attribute [local go_sem] ja jb j5 j6 hY hZ jc jd
set_option linter.unusedVariables false
set_option linter.unusedSimpArgs false
set_option maxHeartbeats 8000000
set_option maxRecDepth 100000
theorem E0 (w : World) : Go.Sort.grow w #[] = w := by unfold Go.Sort.grow; simp
theorem Db.calls (base : Nat) (ok : Nat → Prop) (v : Value) (xs : List Int) (w : World) (h : Kd.R (Kd.int .i64) 3 w base ok v xs) (hs : xs.length < 4611686018427387904) :
 Calls Tryz.prog 112 #[v] w fun e w' => e = .returned (.tuple #[]) ∧ Kd.R (Kd.int .i64) 3 w' base ok v (xs.mergeSort fun x y => decide (x ≤ y)) ∧ ∀ w0 : World, base ≤ w.heap.size → Below base w0 w → Below base w0 w' := by
 have ho : w.ownsRow base 3 1 v xs.length (nQ (Value.int .i64) xs) := Kd.uf h
 have hok := h.1
 rcases ho.2 with ⟨rfl, h0⟩ | ⟨g, cap, cur, rfl, hg, hb, h1, h2, h3, h4⟩
 · obtain rfl := List.eq_nil_of_length_eq_zero h0
   refine (Any.slices_Sort_int_none Tryz.Kg none 0 w).mono ?_
   rintro e w' ⟨rfl, rfl⟩
   exact ⟨rfl, by simpa using h, fun _ _ hb => hb⟩
 · have hH := holds_of_blockI (ss := xs) hb (by simpa [nQ] using h4)
   have hlt : g < w.heap.size := (Array.getElem?_eq_some_iff.1 hb).1
   refine (Any.slices_Sort_int Tryz.Kg g 0 cap xs w hH hlt hs).mono ?_
   rintro e w' ⟨rfl, n, os, rfl⟩
   have hl : (xs.mergeSort fun x y => decide (x ≤ y)).length = xs.length := List.length_mergeSort ..
   refine ⟨rfl, Kd.yy ?_ hok, fun w0 hw ub => ub.grown (grownBy_sortedI _) hw (fun k hk => by injection hk with hk; omega)⟩
   have := ownsRow_sortedI (base := base) (n := n) (os := os) (ts := xs.mergeSort fun x y => decide (x ≤ y)) hl hg hb h1 h2 h3
   rw [hl]
   exact this
theorem E1 (xs : List Int) : (Lib.compact xs).length ≤ xs.length := by
 unfold Lib.compact Lib.compactUpTo
 rw [List.length_map]
 exact Nat.le_trans (List.length_filter_le ..) (by simp)
theorem xH.calls (base : Nat) (ok : Nat → Prop) (v : Value) (xs : List Int) (w : World) (h : Kd.R (Kd.int .i64) 3 w base ok v xs) :
 Calls Tryz.prog 113 #[v] w fun e w' => ∃ u, e = .returned u ∧ Kd.R (Kd.int .i64) 3 w' base ok u (Lib.compact xs) ∧ ∀ w0 : World, base ≤ w.heap.size → Below base w0 w → Below base w0 w' := by
 have ho : w.ownsRow base 3 1 v xs.length (nQ (Value.int .i64) xs) := Kd.uf h
 have hok := h.1
 have cl := E1 xs
 rcases ho.2 with ⟨rfl, h0⟩ | ⟨g, cap, cur, rfl, hg, hb, h1, h2, h3, h4⟩
 · obtain rfl := List.eq_nil_of_length_eq_zero h0
   refine (Any.slices_Compact_int_empty Tryz.QV none 0 w).mono ?_
   rintro e w' ⟨rfl, rfl⟩
   exact ⟨_, rfl, h, fun _ _ hb => hb⟩
 · have hH := holds_of_blockI (ss := xs) hb (by simpa [nQ] using h4)
   refine (Any.slices_Compact_int Tryz.QV g 0 cap xs w hH (by simp only [maxLen] at h2; omega) h1).mono ?_
   rintro e w' ⟨rfl, q, rfl⟩
   have hl : (Lib.compact xs ++ List.replicate (xs.length - (Lib.compact xs).length) 0).length = xs.length := by rw [List.length_append, List.length_replicate]; omega
   have hg0 := E0 (Go.Sort.putRow (Value.int .i64) (Go.Sort.ahead w q) g 0 (Lib.compact xs ++ List.replicate (xs.length - (Lib.compact xs).length) 0).toArray)
   have own := ownsRow_sortedI (base := base) (n := q) (os := #[]) (ts := Lib.compact xs ++ List.replicate (xs.length - (Lib.compact xs).length) 0) hl hg hb h1 h2 h3
   have gb := grownBy_sortedI (w := w) (g := g) (n := q) (os := #[]) (Lib.compact xs ++ List.replicate (xs.length - (Lib.compact xs).length) 0).toArray
   rw [hg0] at own gb
   refine ⟨_, rfl, Kd.yy ?_ (fun k hk => hok k (by simpa [Value.ownBlock] using hk)), fun w0 hw ub => ub.grown gb hw (fun k hk => by injection hk with hk; omega)⟩
   rcases own.2 with ⟨hv, _⟩ | ⟨g', cap', cur', hv, hg', hb', _, _, h3', h4'⟩
   · cases hv
   · injection hv with hv1 hv2 hv3
     injection hv1 with hv1
     injection hv1 with hv1
     subst hv1 hv3
     refine ⟨by rw [rv]; omega, .inr ⟨g, cap, cur', rfl, hg, hb', by omega, h2, h3', ?_⟩⟩
     have := congrArg (List.take (Lib.compact xs).length) h4'
     rw [List.take_take, Nat.mul_one, Nat.min_eq_left cl] at this
     rw [Nat.mul_one, this, List.map_append, List.take_left' (by simp)]
     rfl
def iU.f (k : Nat) (l : List Int) : Option (List Int) := if l.length < 17592186044416 then some (Lib.compact (l.mergeSort fun x y => decide (x ≤ y))) else none
theorem iU.calls (k : Nat) (A0 : Option Addr) (c0 : Nat) (l0 : List Int) (r : List Int) (w : World) (fH : Kd.C (Kd.int .i64) w A0 l0.length l0) (gL : l0.length ≤ c0) (h : iU.f k l0 = some r) :
 Calls Tryz.prog 90 #[.slice A0 l0.length c0] w fun e w' => ∃ jf, e = .returned jf ∧ Kd.R (Kd.int .i64) 3 w' w.heap.size (fun _ => True) jf r ∧ Below w.heap.size w w' := by
 unfold iU.f at h
 by_cases c : l0.length < 17592186044416
 rotate_left
 · rw [if_neg c] at h; cases h
 rw [if_pos c] at h
 obtain rfl := Option.some.inj h
 clear h
 have hl := aa.mk c
 clear c
 have eZ := aa.mk fH
 clear fH
 have huT_ := Tryz.underlying24
 go_enter Tryz.func90, Tryz.ntmps90
 go_wp2_with (first
  | ((with_reducible refine gate_dst (N := 4) rfl ?_); refine Kd.iK (Kd.int .i64) _ 3 ?hg (N := 4) ?hd (xs := ([] : List Int)) (inner := []) (ok := fun _ => True) (okp := fun _ => True) ?hr ?hp (fun _ hk => hk) trivial (Below.refl _ _) (Nat.le_refl _) (by simp) ?_; (case hd => rfl); (case hg => rfl); (case hr => first | (go_simp; done) | (go_simp; rfl)); (case hp => exact (bE.none _ _)); intro v1 w1 ho hb hg_ hnew_; clear hg_ hnew_; have HO1 := aa.mk ho; have HB1 := aa.mk hb; clear ho hb)
  | ((with_reducible refine gate_builtin (b := .append) (xs := #[.tmp 4, .tmp 5]) rfl ?_); at_builtin; refine Kd.kn (Kd.int .i64) (w0 := w) w.heap.size rfl (.tmp 4) (.tmp 5) 24 3 (.int .i64 0) 8 rfl Tryz.underlying24 iS rfl (by decide) (by omega) v1 [] l0 _ _ _ (fun _ => True) (fun _ => False) rfl rfl ?aO ?aR (fun _ _ h => h) (fun _ h => h.elim) (fun _ _ => trivial) ?aB ?aS ?aL ?_; (case aO => exact HO1.out); (case aR => exact Kd.dx eZ.out HB1.out); (case aB => exact HB1.out); (case aS => exact ag HB1.out); (case aL => have := hl.out; simp only [List.length_nil]; omega); intro v2 w2 ho hb hg hat; clear hg hat; have HO2 := aa.mk ho; have HB2 := aa.mk hb; clear ho hb)
  | (go_at_call 112; refine (Db.calls w.heap.size (fun _ => True) v2 l0 _ HO2.out (by have := hl.out; omega)).mono ?_; rintro e w3 ⟨rfl, ho, hb⟩; have HO3 := aa.mk ho; have HB3 := aa.mk (hb w (ag HB2.out) HB2.out); clear ho hb)
  | (go_at_call 113; refine (xH.calls w.heap.size (fun _ => True) v2 _ _ HO3.out).mono ?_; rintro e w4 ⟨v4, rfl, ho, hb⟩; have HO4 := aa.mk ho; have HB4 := aa.mk (hb w (ag HB3.out) HB3.out); clear ho hb))
 go_ret
 exact ⟨_, rfl, HO4.out, HB4.out⟩
def cK.j0 : Nat → Int → Bool → List Int → Option (List Int × Bool)
 | 0, _, _, _ => none
 | k + 1, x1, DU, VQ => if DU = true then (some (([] : List Int), false)) else ((cU.f k VQ).bind fun Ms => (if Ms.length < 17592186044416 then ((iU.f k (Ms ++ [x1])).bind fun Ij => ((aG.f k Ij).bind fun E2 => (some (E2.1, E2.2)))) else (none)))
def cK.f (k : Nat) (an : List Int) (a1 : Int) : Option (List Int × Bool) := (ak.f k an).bind fun ad4 => (if ad4 = true then ((eY.f k an a1).bind fun VR => (cK.j0 k a1 (!VR) an)) else (cK.j0 k a1 true an))
theorem cK.calls (k : Nat) (bF : Option Addr) (bl : Nat) (an : List Int) (a1 : Int) (r1 : List Int) (r2 : Bool) (w : World) (eB : Kd.C (Kd.int .i64) w bF an.length an) (eC : an.length ≤ bl) (h : cK.f k an a1 = some (r1, r2)) :
 Calls Tryz.prog 44 #[.agg #[.slice bF an.length bl], .int .i64 a1] w fun e w' => ∃ jf : Value, e = .returned (.tuple #[.agg #[jf], .bool r2]) ∧ Kd.R (Kd.int .i64) 3 w' w.heap.size (fun _ => True) jf r1 ∧ Below w.heap.size w w' := by
 have kJ := Tryz.underlying26
 have bV := aa.mk eB
 have cH := aa.mk eC
 clear eB eC
 have HB := aa.mk (Below.refl w.heap.size w)
 have H := h
 clear h
 unfold cK.f at H
 have CI := aa.mk H
 clear H
 go_enter Tryz.func44, Tryz.ntmps44
 go_upto_region 1 with (first | ((with_reducible refine gate_dst (N := 2) rfl ?_); refine iP 2 #[.slice bF an.length bl] 26 ?_; intro akP hg w4 hbox hb; have jG := aa.mk (hbox); have aw8 := ij hg HB; have aw9 := ij hg HB; replace HB := jL HB hb; clear hb hbox hg) | ((with_reducible refine gate_dst (N := 4) rfl ?_); refine iP 4 #[.slice none 0 0] 26 ?_; intro Kh hg w5 hbox hb; have kB := aa.mk (hbox); have aw_ := kW hg (bC HB); have axa := kW hg (bC HB); replace HB := eM HB hb; have sX := mw hg jG; have sY := my hg jG; replace jG := cn jG hb; clear hb hbox hg))
 (try simp only [Act.put, jK, jA, jB])
 go_cut [15] (fun v15 wc => ∃ (kq : Nat) (Ki : Bool), v15 = .bool Ki ∧ aa (cK.j0 kq a1 Ki an = some (r1, r2)) ∧ aa (kq ≤ k) ∧ aa (wc.heap[akP]? = some (.cells #[(.slice bF an.length bl)] 26 (0, 0))) ∧ aa (wc.heap[Kh]? = some (.cells #[(.slice none 0 0)] 26 (0, 0))) ∧ aa (Below w.heap.size w wc))
 case first =>
  have H := CI.out
  clear CI
  obtain ⟨ad4, A6, H⟩ := eA H
  by_cases c7 : ad4 = true
  rotate_left
  · replace c7 := Bool.eq_false_iff.mpr c7
    subst c7
    rw [if_neg (show ¬ (false = true) by decide)] at H
    have H' := aa.mk H
    clear H
    have YO := sX.out
    have YP := sY.out
    have JK := fG jG
    have JL := af jG.out 0
    go_wp2_with (first | ((with_reducible refine gate_callee (f := 42) rfl ?_); refine dU (some 7) Tryz.func42 #[.agg #[.slice bF an.length bl]] ?_; (with_reducible refine (ak.calls k _ _ an false _ ?ah ?aj A6.out).mono ?_); (case ah => exact iZ bV HB); (case aj => exact cH.out); rintro e LS ⟨rfl, hb⟩; refine ⟨_, rfl, ?_⟩; replace jG := cn jG hb; replace kB := cn kB hb; replace HB := eM HB hb; (try clear hb)))
    go_meet
    case rel => exact ⟨_, (true), eF, H', ⟨by first | omega | exact Nat.le_refl _⟩, ⟨cC jG.out⟩, ⟨cC kB.out⟩, ⟨bC HB⟩⟩
  subst c7
  rw [if_pos rfl] at H
  obtain ⟨VR, A8, H⟩ := eA H
  have H' := aa.mk H
  clear H
  have asM := sX.out
  have asN := sY.out
  have sS := fG jG
  have sT := af jG.out 0
  go_wp2_with (first | ((with_reducible refine gate_callee (f := 42) rfl ?_); refine dU (some 7) Tryz.func42 #[.agg #[.slice bF an.length bl]] ?_; (with_reducible refine (ak.calls k _ _ an true _ ?ah ?aj A6.out).mono ?_); (case ah => exact iZ bV HB); (case aj => exact cH.out); rintro e Bn ⟨rfl, hb⟩; refine ⟨_, rfl, ?_⟩; replace jG := cn jG hb; replace kB := cn kB hb; replace HB := eM HB hb; (try clear hb); have nV := fG jG; have nW := af jG.out 0) | (go_at_call 89; (with_reducible refine (eY.calls k _ _ an a1 VR _ ?ah ?aj A8.out).mono ?_); (case ah => exact iZ bV HB); (case aj => exact cH.out); rintro e w' ⟨rfl, ⟨nd, rfl⟩⟩))
  go_meet
  case rel => exact ⟨_, (!VR), eF, H', ⟨by first | omega | exact Nat.le_refl _⟩, ⟨cC jG.out⟩, ⟨cC kB.out⟩, ⟨bC HB⟩⟩
 case rest =>
  clear CI
  obtain ⟨kq, Ki, rfl, HA, vB, jG, kB, HB⟩ := hcut
  cases kq with
  | zero => exact absurd HA.out (by simp [cK.j0])
  | succ zg =>
   have H := HA.out
   clear HA
   simp only [cK.j0] at H
   by_cases rI : Ki = true
   · subst rI
     rw [if_pos rfl] at H
     simp only [Option.some.injEq, Prod.mk.injEq] at H
     obtain ⟨rfl, rfl⟩ := H
     have Zh := sY.out
     have Zi := sX.out
     have yd := fG kB
     have ye := af kB.out 0
     go_wp2
     refine bodyPost_ret (ee rfl _ _ Kh 26 #[.slice none 0 0] (0, 0) _ rfl (mz kB) Tryz.underlying26 rfl (by kernel_rfl)) rfl ?_
     exact ⟨_, ig, by first | exact Kd.kQ _ _ _ _ _ | exact Kd.mE _ _ _ _ _ | exact Kd.mF _ _ _ _ _ | exact Kd.mC _ _ _ _ _ | exact Kd.mD _ _ _ _ _, bC HB⟩
   replace rI := Bool.eq_false_iff.mpr rI
   subst rI
   rw [if_neg (show ¬ (false = true) by decide)] at H
   obtain ⟨Ms, A19, H⟩ := eA H
   obtain ⟨AI, H⟩ := kG H
   have QW := aa.mk AI
   clear AI
   obtain ⟨ad5, QX⟩ : ∃ y_ : List Int, y_ = (Ms ++ [a1]) := ⟨_, rfl⟩
   replace H : ((iU.f zg ad5).bind fun Ij => ((aG.f zg Ij).bind fun E2 => (some (E2.1, E2.2)))) = some (r1, r2) := by subst QX; exact H
   have akR := aa.mk QX
   clear QX
   obtain ⟨Ij, A21, H⟩ := eA H
   obtain ⟨⟨ad6, asO⟩, TQ, H⟩ := eA H
   (try dsimp only at H)
   simp only [Option.some.injEq, Prod.mk.injEq] at H
   obtain ⟨rfl, rfl⟩ := H
   have akS := sX.out
   have akT := sY.out
   have J2 := fG jG
   have J3 := af jG.out 0
   go_wp2_with (first | ((with_reducible refine gate_callee (f := 36) rfl ?_); refine dU (some 18) Tryz.func36 #[.agg #[.slice bF an.length bl]] ?_; (with_reducible refine (cU.calls zg _ _ an Ms _ ?ah ?aj A19.out).mono ?_); (case ah => exact iZ bV HB); (case aj => exact cH.out); rintro e TN ⟨asP, rfl, b0, hb⟩; refine ⟨_, rfl, ?_⟩; have Kj := aa.mk (Kd.aW b0 (ag (bC HB))); replace jG := cn jG hb; replace kB := cn kB hb; replace HB := eM HB hb; (try clear hb); (try clear b0)) | ((with_reducible refine gate_builtin (b := .append) (xs := #[.tmp 18, .tmp 20]) rfl ?_); at_builtin; refine Kd.ke (Kd.int .i64) (w0 := w) w.heap.size rfl (.tmp 18) (.tmp 20) 24 3 (.int .i64 0) 8 rfl Tryz.underlying24 iS rfl (by decide) (by omega) asP Ms a1 [.int .i64 a1] (fun _ => True) (fun _ => False) rfl rfl ?aP (fun _ hk => hk.elim) ?aF ?aO ?aB ?aS ?aL ?_; (case aP => exact rfl); (case aB => exact (bC HB)); (case aF => exact (fun _ _ => trivial)); (case aO => exact (b9 Kj.out)); (case aS => exact (ag (bC HB))); (case aL => have := QW.out; omega); intro aA9 Eo ho hb hg hat; rw [← akR.out] at ho; replace jG := aa.mk (cS (cC jG.out) hg (Kd.nR Kj.out jG.out (by decide))); replace kB := aa.mk (cS (cC kB.out) hg (Kd.nR Kj.out kB.out (by decide))); replace HB := aa.mk (hb); have uQ := aa.mk (ho); clear Kj; clear ho hb hg hat; obtain ⟨VS, VT, QY⟩ := Kd.aN uQ.out; subst QY) | ((with_reducible refine gate_callee (f := 90) rfl ?_); refine dU (some 22) Tryz.func90 #[.slice VS ad5.length VT] ?_; (with_reducible refine (iU.calls zg _ _ ad5 Ij _ ?ah ?aj A21.out).mono ?_); (case ah => exact kx ((Kd.ao uQ.out).2.2)); (case aj => exact (Kd.ao uQ.out).2.1); rintro e Pe ⟨aA_, rfl, b0, hb⟩; refine ⟨_, rfl, ?_⟩; have BJ := aa.mk (Kd.aW (Kd.eV b0 (Kd.gy (b9 uQ.out))) (ag (bC HB))); replace uQ := aa.mk (Kd.dZ (b9 uQ.out) (Kd.cV b0) hb); replace jG := cn jG hb; replace kB := cn kB hb; replace HB := eM HB hb; (try clear hb); (try clear b0); obtain ⟨fm, fo, QZ⟩ := Kd.aN BJ.out; subst QZ) | ((with_reducible refine gate_callee (f := 37) rfl ?_); refine dU (some 23) Tryz.func37 #[.slice fm Ij.length fo] ?_; (with_reducible refine (aG.calls zg _ _ Ij ad6 asO _ ?ah ?aj TQ.out).mono ?_); (case ah => exact kx ((Kd.ao BJ.out).2.2)); (case aj => exact (Kd.ao BJ.out).2.1); rintro e w30 ⟨aBa, rfl, b0, hb⟩; refine ⟨_, rfl, ?_⟩; have Zx := aa.mk (Kd.aW (Kd.eV (Kd.eV b0 (Kd.gy (b9 uQ.out))) (Kd.gy (b9 BJ.out))) (ag (bC HB))); replace uQ := aa.mk (Kd.dZ (b9 uQ.out) (Kd.cV b0) hb); replace BJ := aa.mk (Kd.dZ (b9 BJ.out) (Kd.cV b0) hb); replace jG := cn jG hb; replace kB := cn kB hb; replace HB := eM HB hb; (try clear hb); (try clear b0); obtain ⟨Ba, Bb, P3⟩ := Kd.aN Zx.out; subst P3; have Dc := fG kB; have Dd := af kB.out 0))
   refine bodyPost_ret (ee rfl _ _ Kh 26 #[.slice Ba ad6.length Bb] (0, 0) _ rfl (mz kB) Tryz.underlying26 rfl (by kernel_rfl)) rfl ?_
   exact ⟨_, ig, by (with_reducible repeat (first | apply Kd.bQ | apply Kd.bT | apply Kd.bR)); exact Kd.bB (Kd.iJ (p := ⟨Kh, 0, none⟩) (Kd.cI Zx.out kB.out (by decide)) (fun _ hk => hk.2) (.slice Ba ad6.length Bb)) (fun _ hk => trivial), bC HB⟩
def cL.l0 : Nat → Int → List (cT) → List Int → Int → Int → List Int → Option ((List (cT)) × Bool)
 | 0, _, _, _, _, _, _ => none
 | k + 1, x4, x5, tq, Ik, Jt, De => if Jt < Ik then (if 0 ≤ Jt then (if Jt < (tq.length : Int) then (if (rd tq Jt) ≤ x4 then (cL.l0 k x4 x5 tq Ik (wrap64 (Jt + 1)) De) else ((cK.f k De (rd tq Jt)).bind fun Zy => (if Zy.2 = true then (if x5.length < 5864062014805 then (cL.l0 k x4 (x5 ++ [(⟨Zy.1⟩ : cT)]) tq Ik (wrap64 (Jt + 1)) De) else (none)) else (some (([] : List (cT)), false))))) else (none)) else (none)) else (some (x5, true))
def cL.f (k : Nat) (an : List Int) : Option ((List (cT)) × Bool) := (ak.f k an).bind fun ad7 => (if ad7 = true then ((ic.f k an).bind fun Df => (cL.l0 k Df (([] : List (cT))) an (an.length : Int) 0 an)) else (some (([] : List (cT)), false)))
theorem cL.calls (k : Nat) (bF : Option Addr) (bl : Nat) (an : List Int) (r1 : List (cT)) (r2 : Bool) (w : World) (eB : Kd.C (Kd.int .i64) w bF an.length an) (eC : an.length ≤ bl) (h : cL.f k an = some (r1, r2)) :
 Calls Tryz.prog 10 #[.agg #[.slice bF an.length bl]] w fun e w' => ∃ jf : Value, e = .returned (.tuple #[jf, .bool r2]) ∧ Kd.S ix 26 w' w.heap.size (fun _ => True) jf r1 ∧ Below w.heap.size w w' := by
 have kJ := Tryz.underlying26
 have bV := aa.mk eB
 have cH := aa.mk eC
 clear eB eC
 have HB := aa.mk (Below.refl w.heap.size w)
 have H := h
 clear h
 unfold cL.f at H
 obtain ⟨ad7, A2, H⟩ := eA H
 by_cases c3 : ad7 = true
 rotate_left
 · replace c3 := Bool.eq_false_iff.mpr c3
   subst c3
   rw [if_neg (show ¬ (false = true) by decide)] at H
   simp only [Option.some.injEq, Prod.mk.injEq] at H
   obtain ⟨rfl, rfl⟩ := H
   go_enter Tryz.func10, Tryz.ntmps10
   go_wp2_with (first | ((with_reducible refine gate_dst (N := 1) rfl ?_); refine iP 1 #[.slice bF an.length bl] 26 ?_; intro tw hg w35 hbox hb; have fU := aa.mk (hbox); have akU := ij hg HB; have akV := ij hg HB; replace HB := jL HB hb; clear hb hbox hg; have JS := fG fU; have JT := af fU.out 0) | ((with_reducible refine gate_callee (f := 42) rfl ?_); refine dU (some 11) Tryz.func42 #[.agg #[.slice bF an.length bl]] ?_; (with_reducible refine (ak.calls k _ _ an false _ ?ah ?aj A2.out).mono ?_); (case ah => exact iZ bV HB); (case aj => exact cH.out); rintro e w37 ⟨rfl, hb⟩; refine ⟨_, rfl, ?_⟩; replace fU := cn fU hb; replace HB := eM HB hb; (try clear hb)))
   go_ret2
   exact ⟨_, ig, by first | exact Kd.mD _ _ _ _ _ | exact Kd.mE _ _ _ _ _ | exact Kd.mF _ _ _ _ _ | exact Kd.mC _ _ _ _ _ | exact Kd.kQ _ _ _ _ _, bC HB⟩
 subst c3
 rw [if_pos rfl] at H
 obtain ⟨Df, A4, H⟩ := eA H
 obtain ⟨akW, Q0⟩ : ∃ y_ : List (cT), y_ = (([] : List (cT))) := ⟨_, rfl⟩
 replace H : (cL.l0 k Df akW an (an.length : Int) 0 an) = some (r1, r2) := by subst Q0; exact H
 have Zz := aa.mk Q0
 clear Q0
 have H' := aa.mk H
 clear H
 go_enter Tryz.func10, Tryz.ntmps10
 go_wp2_with (first | ((with_reducible refine gate_dst (N := 1) rfl ?_); refine iP 1 #[.slice bF an.length bl] 26 ?_; intro tw hg w5 hbox hb; have fU := aa.mk (hbox); have akU := ij hg HB; have akV := ij hg HB; replace HB := jL HB hb; clear hb hbox hg; have lV := fG fU; have lW := af fU.out 0) | ((with_reducible refine gate_callee (f := 42) rfl ?_); refine dU (some 11) Tryz.func42 #[.agg #[.slice bF an.length bl]] ?_; (with_reducible refine (ak.calls k _ _ an true _ ?ah ?aj A2.out).mono ?_); (case ah => exact iZ bV HB); (case aj => exact cH.out); rintro e w7 ⟨rfl, hb⟩; refine ⟨_, rfl, ?_⟩; replace fU := cn fU hb; replace HB := eM HB hb; (try clear hb); have lX := fG fU; have lY := af fU.out 0) | ((with_reducible refine gate_callee (f := 43) rfl ?_); refine dU (some 14) Tryz.func43 #[.agg #[.slice bF an.length bl]] ?_; (with_reducible refine (ic.calls k _ _ an Df _ ?ah ?aj A4.out).mono ?_); (case ah => exact iZ bV HB); (case aj => exact cH.out); rintro e w9 ⟨rfl, hb⟩; refine ⟨_, rfl, ?_⟩; replace fU := cn fU hb; replace HB := eM HB hb; (try clear hb)) | ((with_reducible refine gate_dst (N := 15) rfl ?_); refine Kd.Jj ix _ 26 ?hg (N := 15) ?hd (xs := ([] : List (cT))) (inner := []) (ok := fun _ => True) (okp := fun _ => True) ?hr ?hp (fun _ hk => hk) trivial (Below.refl _ _) (Nat.le_refl _) (by simp) ?_; (case hd => rfl); (case hg => rfl); (case hr => first | (go_simp; done) | (go_simp; rfl)); (case hp => exact (bE.none _ _)); intro aBb Ju xI hb hg_ hnew_; clear hg_ hnew_; (first | rw [← Zz.out] at xI | (simp only [Int.reduceToNat] at xI; rw [← Zz.out] at xI)); have akX := aa.mk (Kd.xP (Kd.yJ xI (g := tw) (o := .cells #[.slice bF an.length bl] 26 (0, 0)) (cC fU.out)) (ag (bC HB))); replace fU := cn fU hb; replace HB := eM HB hb; clear hb xI; have nV := fG fU; have nW := af fU.out 0))
 go_loopg [5, 19] k (fun kq v5 v19 w' => ∃ (aJ : List (cT)) (kg : Int), v19 = .int .i64 kg ∧ aa (cL.l0 kq Df aJ an (an.length : Int) kg an = some (r1, r2)) ∧ aa (kq ≤ k) ∧ aa (Kd.S ix 26 w' w.heap.size (fun k_ => k_ ≠ tw) v5 aJ) ∧ aa (w'.heap[tw]? = some (.cells #[(.slice bF an.length bl)] 26 (0, 0))) ∧ aa (Below w.heap.size w w'))
 case atStart => exact ⟨(akW), (0), eF, H', ⟨Nat.le_refl _⟩, ⟨te (Kd.iH akX.out (fun _ hk => hk.2))⟩, ⟨cC fU.out⟩, ⟨bC HB⟩⟩
 case round =>
  clear H'
  try clear nV
  try clear lV
  try clear lX
  try clear nW
  try clear lW
  try clear lY
  obtain ⟨aJ, kg, rfl, HA, fu, cr, fU, HB⟩ := hrel
  cases gk with
  | zero => exact absurd HA.out (by simp [cL.l0])
  | succ k1 =>
   have H := HA.out
   clear HA
   simp only [cL.l0] at H
   by_cases mY : kg < (an.length : Int)
   rotate_left
   · rw [if_neg mY] at H
     have lS : decide (kg < (an.length : Int)) = false := decide_eq_false mY
     clear mY
     simp only [Option.some.injEq, Prod.mk.injEq] at H
     obtain ⟨rfl, rfl⟩ := H
     go_wp2
     go_ret2
     exact ⟨_, ig, te (Kd.iH cr.out (fun _ hk => trivial)), bC HB⟩
   rw [if_pos mY] at H
   have lS : decide (kg < (an.length : Int)) = true := decide_eq_true mY
   clear mY
   obtain ⟨jQ, H⟩ := dB H
   obtain ⟨rH, H⟩ := dB H
   by_cases rI : (rd an kg) ≤ Df
   · rw [if_pos rI] at H
     have yX : decide ((rd an kg) ≤ Df) = true := decide_eq_true rI
     clear rI
     have H' := aa.mk H
     clear H
     have zN : 0 ≤ (kg : Int) := bO
     have zO : kg < (an.length : Int) := bO
     obtain ⟨BK, Q1, l8⟩ := Kd.aZ bV.out kg zN zO
     cases Q1
     (try replace l8 := (HB.out.cell (World.block_lt_of_cell? w _ l8)).trans l8)
     replace zN := eq_true zN
     replace zO := eq_true zO
     go_wp2
     go_roundg k1
     case measure => have := fu.out; omega
     case rel => exact ⟨(aJ), (wrap64 (kg + 1)), eF, H', ⟨by have := fu.out; omega⟩, ⟨te cr.out⟩, ⟨cC fU.out⟩, ⟨bC HB⟩⟩
   rw [if_neg rI] at H
   have yX : decide ((rd an kg) ≤ Df) = false := decide_eq_false rI
   clear rI
   obtain ⟨⟨tU, asQ⟩, A17, H⟩ := eA H
   (try dsimp only at H)
   by_cases vN : asQ = true
   rotate_left
   · replace vN := Bool.eq_false_iff.mpr vN
     subst vN
     rw [if_neg (show ¬ (false = true) by decide)] at H
     simp only [Option.some.injEq, Prod.mk.injEq] at H
     obtain ⟨rfl, rfl⟩ := H
     have zN : 0 ≤ (kg : Int) := bO
     have zO : kg < (an.length : Int) := bO
     obtain ⟨BK, Q1, l8⟩ := Kd.aZ bV.out kg zN zO
     cases Q1
     (try replace l8 := (HB.out.cell (World.block_lt_of_cell? w _ l8)).trans l8)
     replace zN := eq_true zN
     replace zO := eq_true zO
     have Kb := fG fU
     have Ke := af fU.out 0
     go_wp2_with (first | ((with_reducible refine gate_callee (f := 44) rfl ?_); refine dU (some 29) Tryz.func44 #[.agg #[.slice (some BK) an.length bl], .int .i64 (rd an kg)] ?_; (with_reducible refine (cK.calls k1 _ _ an (rd an kg) tU false _ ?ah ?aj A17.out).mono ?_); (case ah => exact iZ bV HB); (case aj => exact cH.out); rintro e w30 ⟨asR, rfl, b0, hb⟩; refine ⟨_, rfl, ?_⟩; replace cr := aa.mk (Kd.oq (te cr.out) (Kd.cV b0) hb); have qn := aa.mk (Kd.aW b0 (ag (bC HB))); replace fU := cn fU hb; replace HB := eM HB hb; (try clear hb); (try clear b0)) | ((with_reducible refine gate_dst (N := 8) rfl ?_); refine iP 8 #[.slice none 0 0] 26 ?_; intro qo hg TP hbox hb; replace cr := aa.mk (Kd.nT (Kd.pU (te cr.out) qo (Nat.le_of_eq hg.symm)) hb); replace qn := aa.mk (Kd.aY (b9 qn.out) hb); have nK := aa.mk (hbox); have akY := kW hg (bC HB); have akZ := kW hg (bC HB); replace HB := eM HB hb; have wh := mw hg fU; have wi := my hg fU; replace fU := cn fU hb; clear hb hbox hg; obtain ⟨Hu, ED, AY⟩ := Kd.aN qn.out; subst AY; have YV := wi.out; have YW := wh.out; have JQ := fG nK; have JR := af nK.out 0))
     go_ret2
     exact ⟨_, ig, by first | exact Kd.mD _ _ _ _ _ | exact Kd.mE _ _ _ _ _ | exact Kd.mF _ _ _ _ _ | exact Kd.mC _ _ _ _ _ | exact Kd.kQ _ _ _ _ _, bC HB⟩
   subst vN
   rw [if_pos rfl] at H
   obtain ⟨rE, H⟩ := kG H
   have O9 := aa.mk rE
   clear rE
   obtain ⟨ak0, Q2⟩ : ∃ y_ : List (cT), y_ = (aJ ++ [(⟨tU⟩ : cT)]) := ⟨_, rfl⟩
   replace H : (cL.l0 k1 Df ak0 an (an.length : Int) (wrap64 (kg + 1)) an) = some (r1, r2) := by subst Q2; exact H
   have ak1 := aa.mk Q2
   clear Q2
   have H' := aa.mk H
   clear H
   have zN : 0 ≤ (kg : Int) := bO
   have zO : kg < (an.length : Int) := bO
   obtain ⟨BK, Q1, l8⟩ := Kd.aZ bV.out kg zN zO
   cases Q1
   (try replace l8 := (HB.out.cell (World.block_lt_of_cell? w _ l8)).trans l8)
   replace zN := eq_true zN
   replace zO := eq_true zO
   have Dg := fG fU
   have Dh := af fU.out 0
   go_wp2_with (first | ((with_reducible refine gate_callee (f := 44) rfl ?_); refine dU (some 29) Tryz.func44 #[.agg #[.slice (some BK) an.length bl], .int .i64 (rd an kg)] ?_; (with_reducible refine (cK.calls k1 _ _ an (rd an kg) tU true _ ?ah ?aj A17.out).mono ?_); (case ah => exact iZ bV HB); (case aj => exact cH.out); rintro e TK ⟨asR, rfl, b0, hb⟩; refine ⟨_, rfl, ?_⟩; replace cr := aa.mk (Kd.oq (te cr.out) (Kd.cV b0) hb); have qn := aa.mk (Kd.aW b0 (ag (bC HB))); replace fU := cn fU hb; replace HB := eM HB hb; (try clear hb); (try clear b0)) | ((with_reducible refine gate_dst (N := 8) rfl ?_); refine iP 8 #[.slice none 0 0] 26 ?_; intro qo hg DT hbox hb; replace cr := aa.mk (Kd.nT (Kd.pU (te cr.out) qo (Nat.le_of_eq hg.symm)) hb); replace qn := aa.mk (Kd.aY (b9 qn.out) hb); have nK := aa.mk (hbox); have akY := kW hg (bC HB); have akZ := kW hg (bC HB); replace HB := eM HB hb; have wh := mw hg fU; have wi := my hg fU; replace fU := cn fU hb; clear hb hbox hg; obtain ⟨eG, eH, Qu⟩ := Kd.aN qn.out; subst Qu; have Y9 := wi.out; have Y_ := wh.out; have xX := fG nK; have xY := af nK.out 0) | ((with_reducible refine gate_store (t := 26) (p := 8) rfl ?_); refine fw (t := 26) (p := 8) (v := ?abt) (w1 := (DT.setCell ⟨qo, 0, none⟩ (.slice eG tU.length eH))) ?hg ?ho ?hn ?hr ?_; (case ho => rfl); (case hg => rfl); (case hn => rfl); (case hr => first | (go_simp; done) | (go_simp; rfl)); intro Eo hw; have n5 : aa (Kd.S ix 26 Eo w.heap.size (fun k_ => some k_ ≠ (.slice eG tU.length eH : Value).ownBlock ∧ k_ ≠ tw ∧ k_ ≠ qo) u5 aJ) := ⟨(by rw [hw]; exact (te (Kd.iH (Kd.Ji (p := ⟨qo, 0, none⟩) (Kd.iH cr.out (fun k_ hk => (⟨hk, hk.2⟩ : _ ∧ k_ ≠ qo))) (fun _ hk => hk.2) (.slice eG tU.length eH)) (fun _ hk => ⟨hk.1.1.2, ⟨hk.1.1.1, hk.1.2⟩⟩))))⟩; have n9 : aa (Kd.R (Kd.int .i64) 3 Eo w.heap.size (fun _ => True) (.slice eG tU.length eH) tU) := ⟨(by rw [hw]; exact (by (with_reducible repeat (first | apply Kd.bQ | apply Kd.bT | apply Kd.bR)); exact Kd.bB (Kd.iJ (p := ⟨qo, 0, none⟩) (Kd.cI qn.out nK.out (by decide)) (fun _ hk => hk.2) (.slice eG tU.length eH)) (fun _ hk => trivial)))⟩; have rp : aa (Eo.heap[tw]? = some (.cells #[.slice (some BK) an.length bl] 26 (0, 0))) := ⟨(by rw [hw]; exact (pB fU))⟩; have rq : aa (Eo.heap[qo]? = some (.cells #[.slice eG tU.length eH] 26 (0, 0))) := ⟨(by rw [hw]; exact (mz nK))⟩; have ti : aa (Below w.heap.size w Eo) := ⟨(by rw [hw]; exact (bC HB))⟩; clear hw; clear cr; clear qn; clear fU; clear nK; clear HB; have cr := n5; have qn := n9; have fU := rp; have nK := rq; have HB := ti; clear n5 n9 rp rq ti; have aoU := fG nK; have aoV := af nK.out 0) | ((with_reducible refine gate_builtin (b := .append) (xs := #[.tmp 34, .tmp 36]) rfl ?_); at_builtin; refine Kd.D5 ix (w0 := w) w.heap.size rfl (.tmp 34) (.tmp 36) 30 26 (.agg #[(.slice none 0 0)]) 24 rfl Tryz.underlying30 pG rfl (by decide) (by omega) u5 aJ (⟨tU⟩ : cT) [.slice eG tU.length eH] (fun k_ => k_ ≠ tw ∧ k_ ≠ qo) (fun k_ => some k_ = (.slice eG tU.length eH : Value).ownBlock) rfl rfl ?aP (fun k_ hk_ => ((Kd.bB (ok' := fun k_ => ((fun k_ => k_ ≠ tw ∧ k_ ≠ qo)) k_ ∧ some k_ ≠ (u5 : Value).ownBlock) (Kd.cI (Kd.cI (Kd.lJ (qn.out) (Kd.xQ cr.out) (by decide)) fU.out (by decide)) nK.out (by decide)) (fun k_ hk => ⟨⟨hk.1.2, hk.2⟩, hk.1.1.2⟩))).1 k_ hk_.symm) ?aF ?aO ?aB ?aS ?aL ?_; (case aP => exact Jm _ _ _ (⟨tU⟩ : cT) (Kd.bB (Kd.Cn rfl (Kd.bB (ok' := fun k_ => ((fun k_ => k_ ≠ tw ∧ k_ ≠ qo)) k_ ∧ some k_ ≠ (u5 : Value).ownBlock) (Kd.cI (Kd.cI (Kd.lJ (qn.out) (Kd.xQ cr.out) (by decide)) fU.out (by decide)) nK.out (by decide)) (fun k_ hk => ⟨⟨hk.1.2, hk.2⟩, hk.1.1.2⟩))) (fun _ h_ => h_))); (case aB => exact (bC HB)); (case aF => exact (fun k_ hk => ⟨Kd.dX (g := tw) (o := .cells #[.slice (some BK) an.length bl] 26 (0, 0)) (cC fU.out) k_ hk, Kd.dX (g := qo) (o := .cells #[.slice eG tU.length eH] 26 (0, 0)) (cC nK.out) k_ hk⟩)); (case aO => exact (te (Kd.iH cr.out (fun k_ hk => ⟨⟨hk.2.1, hk.2.2⟩, fun e_ => hk.1 e_⟩)))); (case aS => exact (ag (bC HB))); (case aL => have := O9.out; omega); intro aBd Pe ho hb hg hat; rw [← ak1.out] at ho; replace fU := aa.mk (cS (cC fU.out) hg (Kd.Co cr.out (fun _ hk => hk.2.1))); replace nK := aa.mk (cS (cC nK.out) hg (Kd.Co cr.out (fun _ hk => hk.2.2))); replace HB := aa.mk (hb); have ak2 := aa.mk (ho); clear cr qn; clear ho hb hg hat))
   go_roundg k1
   case measure => have := fu.out; omega
   case rel => exact ⟨(ak0), (wrap64 (kg + 1)), eF, H', ⟨by have := fu.out; omega⟩, ⟨te (Kd.iH ak2.out (fun _ hk => hk.1))⟩, ⟨cC fU.out⟩, ⟨bC HB⟩⟩
def bL.j0 : Nat → Int → Bool → List Int → Option (List Int × Bool)
 | 0, _, _, _ => none
 | k + 1, x1, tq, VU => if tq = true then (some (([] : List Int), false)) else ((bA.f k VU).bind fun Mt => (if Mt.length < 17592186044416 then ((al.f k (Mt ++ [x1])).bind fun Il => ((bc.f k Il).bind fun E3 => (some (E3.1, E3.2)))) else (none)))
def bL.f (k : Nat) (an : List Int) (a1 : Int) : Option (List Int × Bool) := (aA.f k an).bind fun ad8 => (if ad8 = true then ((cW.f k an a1).bind fun VV => (bL.j0 k a1 (!VV) an)) else (bL.j0 k a1 true an))
theorem bL.calls (k : Nat) (bF : Option Addr) (bl : Nat) (an : List Int) (a1 : Int) (r1 : List Int) (r2 : Bool) (w : World) (eB : Kd.C (Kd.int .i64) w bF an.length an) (eC : an.length ≤ bl) (h : bL.f k an a1 = some (r1, r2)) :
 Calls Tryz.prog 46 #[.agg #[.slice bF an.length bl], .int .i64 a1] w fun e w' => ∃ jf : Value, e = .returned (.tuple #[.agg #[jf], .bool r2]) ∧ Kd.R (Kd.int .i64) 3 w' w.heap.size (fun _ => True) jf r1 ∧ Below w.heap.size w w' := by
 have kJ := Tryz.underlying26
 have bV := aa.mk eB
 have cH := aa.mk eC
 clear eB eC
 have HB := aa.mk (Below.refl w.heap.size w)
 have H := h
 clear h
 unfold bL.f at H
 have CI := aa.mk H
 clear H
 go_enter Tryz.func46, Tryz.ntmps46
 go_upto_region 1 with (first | ((with_reducible refine gate_dst (N := 2) rfl ?_); refine iP 2 #[.slice bF an.length bl] 26 ?_; intro ak3 hg w4 hbox hb; have iV := aa.mk (hbox); have axb := ij hg HB; have axc := ij hg HB; replace HB := jL HB hb; clear hb hbox hg) | ((with_reducible refine gate_dst (N := 4) rfl ?_); refine iP 4 #[.slice none 0 0] 26 ?_; intro Kk hg w5 hbox hb; have jS := aa.mk (hbox); have axd := kW hg (bC HB); have axe := kW hg (bC HB); replace HB := eM HB hb; have sZ := mw hg iV; have s5 := my hg iV; replace iV := cn iV hb; clear hb hbox hg))
 (try simp only [Act.put, jK, jA, jB])
 go_cut [17] (fun v17 wc => ∃ (kq : Nat) (Kl : Bool), v17 = .bool Kl ∧ aa (bL.j0 kq a1 Kl an = some (r1, r2)) ∧ aa (kq ≤ k) ∧ aa (wc.heap[ak3]? = some (.cells #[(.slice bF an.length bl)] 26 (0, 0))) ∧ aa (wc.heap[Kk]? = some (.cells #[(.slice none 0 0)] 26 (0, 0))) ∧ aa (Below w.heap.size w wc))
 case first =>
  have H := CI.out
  clear CI
  obtain ⟨ad8, A6, H⟩ := eA H
  by_cases c7 : ad8 = true
  rotate_left
  · replace c7 := Bool.eq_false_iff.mpr c7
    subst c7
    rw [if_neg (show ¬ (false = true) by decide)] at H
    have H' := aa.mk H
    clear H
    have YO := sZ.out
    have YP := s5.out
    have JK := fG iV
    have JL := af iV.out 0
    go_wp2_with (first | ((with_reducible refine gate_callee (f := 45) rfl ?_); refine dU (some 9) Tryz.func45 #[.agg #[.slice bF an.length bl]] ?_; (with_reducible refine (aA.calls k _ _ an false _ ?ah ?aj A6.out).mono ?_); (case ah => exact iZ bV HB); (case aj => exact cH.out); rintro e LS ⟨rfl, hb⟩; refine ⟨_, rfl, ?_⟩; replace iV := cn iV hb; replace jS := cn jS hb; replace HB := eM HB hb; (try clear hb)))
    go_meet
    case rel => exact ⟨_, (true), eF, H', ⟨by first | omega | exact Nat.le_refl _⟩, ⟨cC iV.out⟩, ⟨cC jS.out⟩, ⟨bC HB⟩⟩
  subst c7
  rw [if_pos rfl] at H
  obtain ⟨VV, A8, H⟩ := eA H
  have H' := aa.mk H
  clear H
  have asM := sZ.out
  have asN := s5.out
  have sS := fG iV
  have sT := af iV.out 0
  go_wp2_with (first | ((with_reducible refine gate_callee (f := 45) rfl ?_); refine dU (some 9) Tryz.func45 #[.agg #[.slice bF an.length bl]] ?_; (with_reducible refine (aA.calls k _ _ an true _ ?ah ?aj A6.out).mono ?_); (case ah => exact iZ bV HB); (case aj => exact cH.out); rintro e Bn ⟨rfl, hb⟩; refine ⟨_, rfl, ?_⟩; replace iV := cn iV hb; replace jS := cn jS hb; replace HB := eM HB hb; (try clear hb); have nV := fG iV; have nW := af iV.out 0) | (go_at_call 82; (with_reducible refine (cW.calls k _ _ an a1 VV _ ?ah ?aj A8.out).mono ?_); (case ah => exact iZ bV HB); (case aj => exact cH.out); rintro e w' ⟨rfl, ⟨nd, rfl⟩⟩))
  go_meet
  case rel => exact ⟨_, (!VV), eF, H', ⟨by first | omega | exact Nat.le_refl _⟩, ⟨cC iV.out⟩, ⟨cC jS.out⟩, ⟨bC HB⟩⟩
 case rest =>
  clear CI
  obtain ⟨kq, Kl, rfl, HA, vB, iV, jS, HB⟩ := hcut
  cases kq with
  | zero => exact absurd HA.out (by simp [bL.j0])
  | succ zg =>
   have H := HA.out
   clear HA
   simp only [bL.j0] at H
   by_cases rI : Kl = true
   · subst rI
     rw [if_pos rfl] at H
     simp only [Option.some.injEq, Prod.mk.injEq] at H
     obtain ⟨rfl, rfl⟩ := H
     have Zh := s5.out
     have Zi := sZ.out
     have yd := fG jS
     have ye := af jS.out 0
     go_wp2
     refine bodyPost_ret (ee rfl _ _ Kk 26 #[.slice none 0 0] (0, 0) _ rfl (mz jS) Tryz.underlying26 rfl (by kernel_rfl)) rfl ?_
     exact ⟨_, ig, by first | exact Kd.kQ _ _ _ _ _ | exact Kd.mE _ _ _ _ _ | exact Kd.mF _ _ _ _ _ | exact Kd.mC _ _ _ _ _ | exact Kd.mD _ _ _ _ _, bC HB⟩
   replace rI := Bool.eq_false_iff.mpr rI
   subst rI
   rw [if_neg (show ¬ (false = true) by decide)] at H
   obtain ⟨Mt, A19, H⟩ := eA H
   obtain ⟨AI, H⟩ := kG H
   have QW := aa.mk AI
   clear AI
   obtain ⟨ad9, Q3⟩ : ∃ y_ : List Int, y_ = (Mt ++ [a1]) := ⟨_, rfl⟩
   replace H : ((al.f zg ad9).bind fun Il => ((bc.f zg Il).bind fun E3 => (some (E3.1, E3.2)))) = some (r1, r2) := by subst Q3; exact H
   have ak4 := aa.mk Q3
   clear Q3
   obtain ⟨Il, A21, H⟩ := eA H
   obtain ⟨⟨VW, asS⟩, TQ, H⟩ := eA H
   (try dsimp only at H)
   simp only [Option.some.injEq, Prod.mk.injEq] at H
   obtain ⟨rfl, rfl⟩ := H
   have akS := sZ.out
   have akT := s5.out
   have J2 := fG iV
   have J3 := af iV.out 0
   go_wp2_with (first | ((with_reducible refine gate_callee (f := 41) rfl ?_); refine dU (some 21) Tryz.func41 #[.agg #[.slice bF an.length bl]] ?_; (with_reducible refine (bA.calls zg _ _ an Mt _ ?ah ?aj A19.out).mono ?_); (case ah => exact iZ bV HB); (case aj => exact cH.out); rintro e TN ⟨asT, rfl, b0, hb⟩; refine ⟨_, rfl, ?_⟩; have Km := aa.mk (Kd.aW b0 (ag (bC HB))); replace iV := cn iV hb; replace jS := cn jS hb; replace HB := eM HB hb; (try clear hb); (try clear b0)) | ((with_reducible refine gate_builtin (b := .append) (xs := #[.tmp 21, .tmp 23]) rfl ?_); at_builtin; refine Kd.ke (Kd.int .i64) (w0 := w) w.heap.size rfl (.tmp 21) (.tmp 23) 24 3 (.int .i64 0) 8 rfl Tryz.underlying24 iS rfl (by decide) (by omega) asT Mt a1 [.int .i64 a1] (fun _ => True) (fun _ => False) rfl rfl ?aP (fun _ hk => hk.elim) ?aF ?aO ?aB ?aS ?aL ?_; (case aP => exact rfl); (case aB => exact (bC HB)); (case aF => exact (fun _ _ => trivial)); (case aO => exact (b9 Km.out)); (case aS => exact (ag (bC HB))); (case aL => have := QW.out; omega); intro aBe Eo ho hb hg hat; rw [← ak4.out] at ho; replace iV := aa.mk (cS (cC iV.out) hg (Kd.nR Km.out iV.out (by decide))); replace jS := aa.mk (cS (cC jS.out) hg (Kd.nR Km.out jS.out (by decide))); replace HB := aa.mk (hb); have rZ := aa.mk (ho); clear Km; clear ho hb hg hat; obtain ⟨VS, VT, QY⟩ := Kd.aN rZ.out; subst QY) | ((with_reducible refine gate_callee (f := 96) rfl ?_); refine dU (some 25) Tryz.func96 #[.slice VS ad9.length VT] ?_; (with_reducible refine (al.calls zg _ _ ad9 Il _ ?ah ?aj A21.out).mono ?_); (case ah => exact kx ((Kd.ao rZ.out).2.2)); (case aj => exact (Kd.ao rZ.out).2.1); rintro e Pe ⟨aBf, rfl, b0, hb⟩; refine ⟨_, rfl, ?_⟩; have xa := aa.mk (Kd.aW (Kd.eV b0 (Kd.gy (b9 rZ.out))) (ag (bC HB))); replace rZ := aa.mk (Kd.dZ (b9 rZ.out) (Kd.cV b0) hb); replace iV := cn iV hb; replace jS := cn jS hb; replace HB := eM HB hb; (try clear hb); (try clear b0); obtain ⟨fm, fo, QZ⟩ := Kd.aN xa.out; subst QZ) | ((with_reducible refine gate_callee (f := 39) rfl ?_); refine dU (some 26) Tryz.func39 #[.slice fm Il.length fo] ?_; (with_reducible refine (bc.calls zg _ _ Il VW asS _ ?ah ?aj TQ.out).mono ?_); (case ah => exact kx ((Kd.ao xa.out).2.2)); (case aj => exact (Kd.ao xa.out).2.1); rintro e w30 ⟨aBg, rfl, b0, hb⟩; refine ⟨_, rfl, ?_⟩; have Kn := aa.mk (Kd.aW (Kd.eV (Kd.eV b0 (Kd.gy (b9 rZ.out))) (Kd.gy (b9 xa.out))) (ag (bC HB))); replace rZ := aa.mk (Kd.dZ (b9 rZ.out) (Kd.cV b0) hb); replace xa := aa.mk (Kd.dZ (b9 xa.out) (Kd.cV b0) hb); replace iV := cn iV hb; replace jS := cn jS hb; replace HB := eM HB hb; (try clear hb); (try clear b0)) | ((with_reducible refine gate_dst (N := 6) rfl ?_); refine iP 6 #[.slice none 0 0] 26 ?_; intro ak5 hg TP hbox hb; replace rZ := aa.mk (Kd.aY (b9 rZ.out) hb); replace xa := aa.mk (Kd.aY (b9 xa.out) hb); replace Kn := aa.mk (Kd.aY (b9 Kn.out) hb); have Q4 := aa.mk (hbox); have axf := kW hg (bC HB); have axg := kW hg (bC HB); replace HB := eM HB hb; have Mu := mw hg iV; have Mv := my hg iV; replace iV := cn iV hb; have Mw := mw hg jS; have Mx := my hg jS; replace jS := cn jS hb; clear hb hbox hg; obtain ⟨Hu, ED, AY⟩ := Kd.aN Kn.out; subst AY; have YV := Mv.out; have YW := Mu.out; have axh := Mx.out; have axi := Mw.out; have VX := fG Q4; have VY := af Q4.out 0; have JS := fG jS; have JT := af jS.out 0))
   refine bodyPost_ret (ee rfl _ _ Kk 26 #[.slice Hu VW.length ED] (0, 0) _ rfl (mz jS) Tryz.underlying26 rfl (by kernel_rfl)) rfl ?_
   exact ⟨_, ig, by (with_reducible repeat (first | apply Kd.bQ | apply Kd.bT | apply Kd.bR)); exact Kd.bB (Kd.iJ (p := ⟨Kk, 0, none⟩) (Kd.iJ (p := ⟨ak5, 0, none⟩) (Kd.cI (Kd.cI Kn.out Q4.out (by decide)) jS.out (by decide)) (fun _ hk => hk.1.2) (.slice Hu VW.length ED)) (fun _ hk => hk.2) (.slice Hu VW.length ED)) (fun _ hk => trivial), bC HB⟩
end Go.Proofs.YtjodlkbhaofkkaaGreat.PA
end
