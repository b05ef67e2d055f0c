-- Bundled by shake.py from this session's printed and written texts; Lean checks it.
import Derived.Test.YtjodlkbhaofkkaaGreatZFnTreex6
section
namespace Go.Proofs.YtjodlkbhaofkkaaGreat.PA
open Go.RowKit Go.Proofs.YtjodlkbhaofkkaaGreatW.PrintWords Go.Proofs.YtjodlkbhaofkkaaGreatW.PrintLast Go.Proofs.YtjodlkbhaofkkaaGreatW.PrintMore
attribute [local go_sem] ja jb j5 j6 hY hZ jc jd
set_option linter.unusedVariables false
set_option linter.unusedSimpArgs false
set_option maxHeartbeats 8000000
set_option maxRecDepth 100000
mutual
def aG.j0 : Nat → List Int → Bool → Option (List Int × Bool)
 | 0, _, _ => none
 | k + 1, x0, x23 => if x23 = true then (some (([] : List Int), false)) else (if 401 ≤ 281474976710656 then (aG.l0 k x0 (List.replicate 401 false) x0 (x0.length : Int) 0) else (none))
def aG.l0 : Nat → List Int → List Bool → List Int → Int → Int → Option (List Int × Bool)
 | 0, _, _, _, _, _ => none
 | k + 1, x0, x6, x26, x27, Gp => if Gp < x27 then (if 0 ≤ Gp then (if Gp < (x26.length : Int) then (if 0 ≤ (rd x26 Gp) then (if (rd x26 Gp) < (x6.length : Int) then (aG.l0 k x0 (x6.set ((rd x26 Gp) : Int).toNat true) x26 x27 (wrap64 (Gp + 1))) else (none)) else (none)) else (none)) else (none)) else (aG.l1 k x0 x6 1 ([] : List Int))
def aG.l1 : Nat → List Int → List Bool → Int → List Int → Option (List Int × Bool)
 | 0, _, _, _, _ => none
 | k + 1, x0, x6, AQ, l6 => if AQ < (x6.length : Int) then (if 0 ≤ AQ then (aG.l2 k x0 x6 AQ (e6 false x6 AQ) 1 l6) else (none)) else ((ak.f k l6).bind fun ac8 => (if ac8 = true then ((cU.f k l6).bind fun xG => ((cg.f k xG x0).bind fun ac9 => (if ac9 = true then (some (l6, true)) else (some (([] : List Int), false))))) else (some (([] : List Int), false))))
def aG.l2 : Nat → List Int → List Bool → Int → Bool → Int → List Int → Option (List Int × Bool)
 | 0, _, _, _, _, _, _ => none
 | k + 1, x0, x6, AQ, vz, Gq, l6 => if (wrap64 (2 * Gq)) ≤ AQ then (if vz = true then (aG.l1 k x0 x6 (wrap64 (AQ + 1)) l6) else (if 0 ≤ Gq then (if Gq < (x6.length : Int) then (if e6 false x6 Gq = true then (aG.l2 k x0 x6 AQ false (wrap64 (Gq + 1)) l6) else (if 0 ≤ (wrap64 (AQ - Gq)) then (if (wrap64 (AQ - Gq)) < (x6.length : Int) then (aG.l2 k x0 x6 AQ (!(e6 false x6 (wrap64 (AQ - Gq)))) (wrap64 (Gq + 1)) l6) else (none)) else (none))) else (none)) else (none))) else (if vz = true then (aG.l1 k x0 x6 (wrap64 (AQ + 1)) l6) else (if l6.length < 17592186044416 then (aG.l1 k x0 x6 (wrap64 (AQ + 1)) (l6 ++ [AQ])) else (none)))
end
def aG.f (k : Nat) (l0 : List Int) : Option (List Int × Bool) := (aE.f k l0).bind fun ajd => (if ajd.2.2 = true then (aG.j0 k l0 true) else ((ir.f k l0).bind fun Vt => (aG.j0 k l0 (!Vt))))
theorem aG.calls (k : Nat) (A0 : Option Addr) (c0 : Nat) (l0 : List Int) (r1 : List Int) (r2 : Bool) (w : World) (fH : Kd.C (Kd.int .i64) w A0 l0.length l0) (gL : l0.length ≤ c0) (h : aG.f k l0 = some (r1, r2)) :
 Calls Tryz.prog 37 #[.slice A0 l0.length c0] w fun e w' => ∃ jf : Value, e = .returned (.tuple #[.agg #[jf], .bool r2]) ∧ Kd.R (Kd.int .i64) 3 w' w.heap.size (fun _ => True) jf r1 ∧ Below w.heap.size w w' := by
 have kJ := Tryz.underlying26
 have acU := Tryz.underlying69
 have eZ := aa.mk fH
 have jN := aa.mk gL
 clear fH gL
 have HB := aa.mk (Below.refl w.heap.size w)
 have H := h
 clear h
 unfold aG.f at H
 obtain ⟨⟨C0, HT, aje⟩, A2, H⟩ := eA H
 (try dsimp only at H)
 have CI := aa.mk H
 clear H
 go_enter Tryz.func37, Tryz.ntmps37
 go_upto_region 2 with (first | ((with_reducible refine gate_dst (N := 2) rfl ?_); refine iP 2 #[.slice none 0 0] 26 ?_; intro rU hg w4 hbox hb; have eu := aa.mk (hbox); have awk := ij hg HB; have awl := ij hg HB; replace HB := jL HB hb; clear hb hbox hg) | ((with_reducible refine gate_callee (f := 76) rfl ?_); refine dU (some 15) Tryz.func76 #[.slice A0 l0.length c0] ?_; (with_reducible refine (aE.calls k _ _ l0 C0 HT aje _ ?ah ?aj A2.out).mono ?_); (case ah => exact iZ eZ HB); (case aj => exact jN.out); rintro e w5 ⟨rfl, hb⟩; refine ⟨_, rfl, ?_⟩; replace eu := cn eu hb; replace HB := eM HB hb; (try clear hb)) | ((with_reducible refine gate_dst (N := 4) rfl ?_); refine iP 4 #[.int .i64 0, .int .i64 0] 69 ?_; intro wX hg w6 hbox hb; have fO := aa.mk (hbox); have awm := kW hg (bC HB); have awn := kW hg (bC HB); replace HB := eM HB hb; have qc := mw hg eu; have qd := my hg eu; replace eu := cn eu hb; clear hb hbox hg; have ajf := qd.out; have ajg := qc.out; have lX : w6.cell? ⟨wX, 0, none⟩ = some (.int .i64 0) := (aH fO.out 0).trans rfl; have HU : w6.cell? ⟨wX, 1, none⟩ = some (.int .i64 0) := (aH fO.out 1).trans rfl; have lY := af fO.out 0; have HV := af fO.out 1))
 (try simp only [Act.put, jK, jA, jB])
 go_cut [23] (fun v23 wc => ∃ (kq : Nat) (JX : Bool), v23 = .bool JX ∧ aa (aG.j0 kq l0 JX = some (r1, r2)) ∧ aa (kq ≤ k) ∧ aa (wc.heap[rU]? = some (.cells #[(.slice none 0 0)] 26 (0, 0))) ∧ aa (wc.heap[wX]? = some (.cells #[.int .i64 C0, .int .i64 HT] 69 (0, 0))) ∧ aa (Below w.heap.size w wc))
 case first =>
  have H := CI.out
  clear CI
  by_cases c9 : aje = true
  · subst c9
    rw [if_pos rfl] at H
    have H' := aa.mk H
    clear H
    go_wp2
    go_meet
    case rel => exact ⟨_, (true), eF, H', ⟨by first | omega | exact Nat.le_refl _⟩, ⟨pB eu⟩, ⟨by (with_reducible repeat (first | refine dI ?_ _ | refine bg ?_ | refine du ?_ _)); refine gj (cs := #[.int .i64 C0, .int .i64 0]) ?_ 1 _ rfl; (with_reducible repeat (first | refine dI ?_ _ | refine bg ?_ | refine du ?_ _)); refine gj (cs := #[.int .i64 0, .int .i64 0]) ?_ 0 _ rfl; (with_reducible repeat (first | refine dI ?_ _ | refine bg ?_ | refine du ?_ _)); exact fO.out⟩, ⟨bC HB⟩⟩
  replace c9 := Bool.eq_false_iff.mpr c9
  subst c9
  rw [if_neg (show ¬ (false = true) by decide)] at H
  obtain ⟨Vt, Nc, H⟩ := eA H
  have H' := aa.mk H
  clear H
  go_wp2_with (first | (go_at_call 77; (with_reducible refine (ir.calls k _ _ l0 Vt _ ?ah ?aj Nc.out).mono ?_); (case ah => exact Kd.dx eZ.out (bC HB)); (case aj => exact jN.out); rintro e w' ⟨rfl, ⟨nd, rfl⟩⟩))
  go_meet
  case rel => exact ⟨_, (!Vt), eF, H', ⟨by first | omega | exact Nat.le_refl _⟩, ⟨pB eu⟩, ⟨by (with_reducible repeat (first | refine dI ?_ _ | refine bg ?_ | refine du ?_ _)); refine gj (cs := #[.int .i64 C0, .int .i64 0]) ?_ 1 _ rfl; (with_reducible repeat (first | refine dI ?_ _ | refine bg ?_ | refine du ?_ _)); refine gj (cs := #[.int .i64 0, .int .i64 0]) ?_ 0 _ rfl; (with_reducible repeat (first | refine dI ?_ _ | refine bg ?_ | refine du ?_ _)); exact fO.out⟩, ⟨bC HB⟩⟩
 case rest =>
  clear CI
  try clear lX
  try clear HU
  try clear lY
  try clear HV
  obtain ⟨kq, JX, rfl, HA, vB, eu, fO, HB⟩ := hcut
  cases kq with
  | zero => exact absurd HA.out (by simp [aG.j0])
  | succ zg =>
   have H := HA.out
   clear HA
   simp only [aG.j0] at H
   by_cases rL : JX = true
   · subst rL
     rw [if_pos rfl] at H
     simp only [Option.some.injEq, Prod.mk.injEq] at H
     obtain ⟨rfl, rfl⟩ := H
     have Y6 := qc.out
     have Y7 := qd.out
     have JU := fG eu
     have JV := af eu.out 0
     go_wp2
     refine bodyPost_ret (ee rfl _ _ rU 26 #[.slice none 0 0] (0, 0) _ rfl (mz eu) Tryz.underlying26 rfl (by kernel_rfl)) rfl ?_
     exact ⟨_, ig, by first | exact Kd.kQ _ _ _ _ _ | exact Kd.mE _ _ _ _ _ | exact Kd.mF _ _ _ _ _ | exact Kd.mC _ _ _ _ _ | exact Kd.mD _ _ _ _ _, bC HB⟩
   replace rL := Bool.eq_false_iff.mpr rL
   subst rL
   rw [if_neg (show ¬ (false = true) by decide)] at H
   obtain ⟨mG, H⟩ := kG H
   have jQ := eq_true mG
   have Bp : decide (401 ≤ 281474976710656) = true := decide_eq_true mG
   clear mG
   obtain ⟨ajh, Ql⟩ : ∃ y_ : List Bool, y_ = (List.replicate 401 false) := ⟨_, rfl⟩
   replace H : (aG.l0 zg l0 ajh l0 (l0.length : Int) 0) = some (r1, r2) := by subst Ql; exact H
   have Zc := aa.mk Ql
   clear Ql
   have H' := aa.mk H
   clear H
   go_wp2_with (first | ((with_reducible refine gate_dst (N := 25) rfl ?_); refine Kd.vG Kd.bool _ 4 rfl (N := 25) rfl 66 _ _ rfl 401 rfl rfl Tryz.underlying66 (.bool false) 1 D9 rfl (by decide) (by omega) false (ok := fun _ => True) (okp := fun _ => True) rfl (fun _ hk => hk) trivial (by omega) (by omega) (Below.refl _ _) (Nat.le_refl _) ?_; intro aji LS rk hb hg_ hnew_; clear hg_ hnew_; (first | rw [← Zc.out] at rk | (simp only [Int.reduceToNat] at rk; rw [← Zc.out] at rk)); have ajj := aa.mk (Kd.aW rk (ag (bC HB))); replace eu := cn eu hb; replace fO := cn fO hb; replace HB := eM HB hb; clear hb rk))
   go_loopg [28] zg (fun kq v28 w' => ∃ (fT : List Bool) (nq : Int), v28 = .int .i64 nq ∧ aa (aG.l0 kq l0 fT l0 (l0.length : Int) nq = some (r1, r2)) ∧ aa (kq ≤ zg) ∧ aa (Kd.R Kd.bool 4 w' w.heap.size (fun _ => True) aji fT) ∧ aa (w'.heap[rU]? = some (.cells #[(.slice none 0 0)] 26 (0, 0))) ∧ aa (w'.heap[wX]? = some (.cells #[.int .i64 C0, .int .i64 HT] 69 (0, 0))) ∧ aa (Below w.heap.size w w'))
   case atStart => exact ⟨(ajh), (0), eF, H', ⟨Nat.le_refl _⟩, ⟨b9 ajj.out⟩, ⟨cC eu.out⟩, ⟨cC fO.out⟩, ⟨bC HB⟩⟩
   case round =>
    clear H'
    try clear jQ
    try clear Bp
    obtain ⟨fT, nq, rfl, HA, jo, dh, eu, fO, HB⟩ := hrel
    cases gk with
    | zero => exact absurd HA.out (by simp [aG.l0])
    | succ k2 =>
     have H := HA.out
     clear HA
     simp only [aG.l0] at H
     by_cases oN : nq < (l0.length : Int)
     · rw [if_pos oN] at H
       have oA : decide (nq < (l0.length : Int)) = true := decide_eq_true oN
       clear oN
       obtain ⟨za, H⟩ := dB H
       obtain ⟨pY, H⟩ := dB H
       obtain ⟨tr, H⟩ := dB H
       obtain ⟨tt, H⟩ := dB H
       obtain ⟨ac_, Qm⟩ : ∃ y_ : List Bool, y_ = (fT.set ((rd l0 nq) : Int).toNat true) := ⟨_, rfl⟩
       replace H : (aG.l0 k2 l0 ac_ l0 (l0.length : Int) (wrap64 (nq + 1))) = some (r1, r2) := by subst Qm; exact H
       have ajk := aa.mk Qm
       clear Qm
       have H' := aa.mk H
       clear H
       have ada : 0 ≤ (nq : Int) := bO
       have adb : nq < (l0.length : Int) := bO
       obtain ⟨awo, arS, C1⟩ := Kd.aZ eZ.out nq ada adb
       cases arS
       (try replace C1 := (HB.out.cell (World.block_lt_of_cell? w _ C1)).trans C1)
       replace ada := eq_true ada
       replace adb := eq_true adb
       have p22 : 0 ≤ ((rd l0 nq) : Int) := bO
       have Oi : ((rd l0 nq) : Int) < ((fT.length : Int) : Int) := bO
       obtain ⟨En, G6, CC, Oj, abn, ap6, Ol⟩ := Kd.ry dh.out (by omega)
       (first | cases CC | (injection CC with ea_ en_ ec_; (first | subst ea_ | (injection ea_ with ea_; subst ea_)); subst ec_; clear en_))
       have abo := aa.mk Oj
       have ap7 := aa.mk Ol
       clear Oj abn Ol
       obtain ⟨abp, abq⟩ := Kd.lK false dh.out ((rd l0 nq) : Int) p22 Oi
       replace p22 := eq_true p22
       replace Oi := eq_true Oi
       have ade := Kd.pz dh.out ((rd l0 nq) : Int) true
       go_wp2_with (first | ((with_reducible refine gate_store (t := 4) (p := 34) rfl ?_); refine fw (t := 4) (p := 34) (v := ?arT) (w1 := (wr.setCell ⟨En, ((rd l0 nq) : Int).toNat, none⟩ (.bool true))) ?hg ?ho ?hn ?hr ?_; (case ho => rfl); (case hg => rfl); (case hn => rfl); (case hr => first | (go_simp; done) | (go_simp; rfl)); intro Ek hw; have hg : wr.grownBy Ek (some En) := (by rw [hw]; exact ade.2); have hp_ : Kd.R Kd.bool 4 Ek w.heap.size (fun _ => True) (.slice (some ⟨En, 0, none⟩) fT.length G6) ac_ := (by rw [hw, ajk.out]; exact ade.1); clear ade; replace eu := aa.mk (cS (cC eu.out) hg (Kd.nR dh.out eu.out (by decide))); replace fO := aa.mk (cS (cC fO.out) hg (Kd.nR dh.out fO.out (by decide))); replace dh := aa.mk (hp_); replace HB := aa.mk ((by rw [hw]; exact hP (HB.out) abo.out : Below w.heap.size w Ek)); clear hg hw hp_))
       go_roundg k2
       case measure => have := vB.out; have := jo.out; omega
       case rel => exact ⟨(ac_), (wrap64 (nq + 1)), eF, H', ⟨by have := vB.out; have := jo.out; omega⟩, ⟨b9 dh.out⟩, ⟨cC eu.out⟩, ⟨cC fO.out⟩, ⟨bC HB⟩⟩
     rw [if_neg oN] at H
     have oA : decide (nq < (l0.length : Int)) = false := decide_eq_false oN
     clear oN
     have H' := aa.mk H
     clear H
     go_wp2_with (first | ((with_reducible refine gate_dst (N := 9) rfl ?_); refine iP 9 #[.slice none 0 0] 26 ?_; intro zG hg TN hbox hb; replace dh := aa.mk (Kd.aY (b9 dh.out) hb); have fC := aa.mk (hbox); have awp := kW hg (bC HB); have awq := kW hg (bC HB); replace HB := eM HB hb; have qe := mw hg eu; have qf := my hg eu; replace eu := cn eu hb; have qg := mw hg fO; have qh := my hg fO; replace fO := cn fO hb; clear hb hbox hg; have ajl := qf.out; have ajm := qe.out; have Zd := qh.out; have Ze := qg.out; have yb := fG fC; have yc := af fC.out 0))
     go_loopg [10] k2 (fun kq v10 w' => ∃ (jy : Int) (dO : List Int) (pa : Value), v10 = .int .i64 jy ∧ aa (aG.l1 kq l0 fT jy dO = some (r1, r2)) ∧ aa (kq ≤ k2) ∧ aa (Kd.R Kd.bool 4 w' w.heap.size (fun _ => True) aji fT) ∧ aa (Kd.R (Kd.int .i64) 3 w' w.heap.size (fun _ => True) pa dO) ∧ aa (w'.heap[rU]? = some (.cells #[(.slice none 0 0)] 26 (0, 0))) ∧ aa (w'.heap[wX]? = some (.cells #[.int .i64 C0, .int .i64 HT] 69 (0, 0))) ∧ aa (w'.heap[zG]? = some (.cells #[pa] 26 (0, 0))) ∧ aa (Below w.heap.size w w'))
     case atStart => exact ⟨(1), (([] : List Int)), (.slice none 0 0), eF, H', ⟨Nat.le_refl _⟩, ⟨by (with_reducible repeat (first | apply Kd.bQ | apply Kd.bT | apply Kd.bR)); exact Kd.bB (Kd.iJ (p := ⟨zG, 0, none⟩) (Kd.cI dh.out fC.out (by decide)) (fun _ hk => hk.2) (.slice none 0 0)) (fun _ hk => trivial)⟩, ⟨by first | exact Kd.kQ _ _ _ _ _ | exact Kd.mE _ _ _ _ _ | exact Kd.mF _ _ _ _ _ | exact Kd.mC _ _ _ _ _ | exact Kd.mD _ _ _ _ _⟩, ⟨pB eu⟩, ⟨pB fO⟩, ⟨mz fC⟩, ⟨bC HB⟩⟩
     case round =>
      clear H'
      try clear oA
      try clear yb
      try clear yc
      obtain ⟨jy, dO, pa, rfl, HA, lp, dh, cp, eu, fO, fC, HB⟩ := hrel
      cases gk with
      | zero => exact absurd HA.out (by simp [aG.l1])
      | succ k3 =>
       have H := HA.out
       clear HA
       simp only [aG.l1] at H
       by_cases wK : jy < (fT.length : Int)
       rotate_left
       · rw [if_neg wK] at H
         have yQ : decide (jy < (fT.length : Int)) = false := decide_eq_false wK
         clear wK
         obtain ⟨ac8, A49, H⟩ := eA H
         by_cases c50 : ac8 = true
         rotate_left
         · replace c50 := Bool.eq_false_iff.mpr c50
           subst c50
           rw [if_neg (show ¬ (false = true) by decide)] at H
           simp only [Option.some.injEq, Prod.mk.injEq] at H
           obtain ⟨rfl, rfl⟩ := H
           obtain ⟨aAx, aAy, arV⟩ := Kd.aN dh.out
           subst arV
           have awr := qf.out
           have aws := qe.out
           have awt := qh.out
           have awu := qg.out
           have aoq := fG fC
           have aor := af fC.out 0
           obtain ⟨arW, arX, arY⟩ := Kd.aN cp.out
           subst arY
           go_wp2_with (first | ((with_reducible refine gate_callee (f := 42) rfl ?_); refine dU (some 80) Tryz.func42 #[.agg #[.slice arW dO.length arX]] ?_; (with_reducible refine (ak.calls k3 _ _ dO false _ ?ah ?aj A49.out).mono ?_); (case ah => exact kx ((Kd.ao cp.out).2.2)); (case aj => exact (Kd.ao cp.out).2.1); rintro e w82 ⟨rfl, hb⟩; refine ⟨_, rfl, ?_⟩; replace dh := aa.mk (Kd.aY (b9 dh.out) hb); replace cp := aa.mk (Kd.aY (b9 cp.out) hb); replace eu := cn eu hb; replace fO := cn fO hb; replace fC := cn fC hb; replace HB := eM HB hb; (try clear hb); have awv := qc.out; have aww := qd.out; have aos := fG eu; have aot := af eu.out 0))
           refine bodyPost_ret (ee rfl _ _ rU 26 #[.slice none 0 0] (0, 0) _ rfl (mz eu) Tryz.underlying26 rfl (by kernel_rfl)) rfl ?_
           exact ⟨_, ig, by first | exact Kd.kQ _ _ _ _ _ | exact Kd.mE _ _ _ _ _ | exact Kd.mF _ _ _ _ _ | exact Kd.mC _ _ _ _ _ | exact Kd.mD _ _ _ _ _, bC HB⟩
         subst c50
         rw [if_pos rfl] at H
         obtain ⟨xG, A51, H⟩ := eA H
         obtain ⟨ac9, A52, H⟩ := eA H
         by_cases Vu : ac9 = true
         · subst Vu
           rw [if_pos rfl] at H
           simp only [Option.some.injEq, Prod.mk.injEq] at H
           obtain ⟨rfl, rfl⟩ := H
           obtain ⟨arZ, ar0, ar1⟩ := Kd.aN dh.out
           subst ar1
           have ajo := qf.out
           have ajp := qe.out
           have awy := qh.out
           have awz := qg.out
           have CV := fG fC
           have CW := af fC.out 0
           obtain ⟨Mi, Mj, ar2⟩ := Kd.aN cp.out
           subst ar2
           go_wp2_with (first | ((with_reducible refine gate_callee (f := 42) rfl ?_); refine dU (some 80) Tryz.func42 #[.agg #[.slice Mi dO.length Mj]] ?_; (with_reducible refine (ak.calls k3 _ _ dO true _ ?ah ?aj A49.out).mono ?_); (case ah => exact kx ((Kd.ao cp.out).2.2)); (case aj => exact (Kd.ao cp.out).2.1); rintro e w59 ⟨rfl, hb⟩; refine ⟨_, rfl, ?_⟩; replace dh := aa.mk (Kd.aY (b9 dh.out) hb); replace cp := aa.mk (Kd.aY (b9 cp.out) hb); replace eu := cn eu hb; replace fO := cn fO hb; replace fC := cn fC hb; replace HB := eM HB hb; (try clear hb); have Vv := fG fC; have Vw := af fC.out 0) | (go_at_call 36; (with_reducible refine (cU.calls k3 _ _ dO xG _ ?ah ?aj A51.out).mono ?_); (case ah => exact kx ((Kd.ao cp.out).2.2)); (case aj => exact (Kd.ao cp.out).2.1); rintro e Mc ⟨ar3, rfl, b0, hb⟩; replace dh := aa.mk (Kd.aY (b9 dh.out) hb); have qi := aa.mk (Kd.aW (Kd.eV b0 (Kd.gy (b9 cp.out))) (ag (bC HB))); replace cp := aa.mk (Kd.dZ (b9 cp.out) (Kd.cV b0) hb); replace eu := cn eu hb; replace fO := cn fO hb; replace fC := cn fC hb; replace HB := eM HB hb; (try clear hb); (try clear b0); obtain ⟨ajq, ajr, ar4⟩ := Kd.aN qi.out; subst ar4) | (go_at_call 78; (with_reducible refine (cg.calls k3 _ _ xG _ _ l0 true _ ?ah ?aj ?fB ?hD A52.out).mono ?_); (case ah => exact kx ((Kd.ao qi.out).2.2)); (case aj => exact (Kd.ao qi.out).2.1); (case fB => exact iZ eZ HB); (case hD => exact jN.out); rintro e w' ⟨rfl, ⟨nd, rfl⟩⟩; (try (rw [ov Mc]; generalize hq_ : World.drewN Mc _ = Mc; have n5 : aa (Kd.R (Kd.int .i64) 3 Mc w.heap.size (fun k_ => some k_ ≠ (.slice Mi dO.length Mj : Value).ownBlock) (.slice ajq xG.length ajr) xG) := ⟨by rw [← hq_]; exact (by (with_reducible repeat (first | apply Kd.bQ | apply Kd.bT | apply Kd.bR)); exact Kd.bB qi.out (fun _ hk => hk.2))⟩; have n9 : aa (Kd.R (Kd.int .i64) 3 Mc w.heap.size (fun k_ => some k_ ≠ (.slice ajq xG.length ajr : Value).ownBlock) (.slice Mi dO.length Mj) dO) := ⟨by rw [← hq_]; exact (by (with_reducible repeat (first | apply Kd.bQ | apply Kd.bT | apply Kd.bR)); exact Kd.bB cp.out (fun _ hk => hk.2))⟩; have rp : aa (Kd.R Kd.bool 4 Mc w.heap.size (fun _ => True) (.slice arZ fT.length ar0) fT) := ⟨by rw [← hq_]; exact (b9 dh.out)⟩; have rq : aa (Mc.heap[rU]? = some (.cells #[.slice none 0 0] 26 (0, 0))) := ⟨by rw [← hq_]; exact (cC eu.out)⟩; have ti : aa (Mc.heap[wX]? = some (.cells #[.int .i64 C0, .int .i64 HT] 69 (0, 0))) := ⟨by rw [← hq_]; exact (cC fO.out)⟩; have zH : aa (Mc.heap[zG]? = some (.cells #[.slice Mi dO.length Mj] 26 (0, 0))) := ⟨by rw [← hq_]; exact (cC fC.out)⟩; have BH : aa (Below w.heap.size w Mc) := ⟨by rw [← hq_]; exact (bC HB)⟩; clear qi cp dh eu fO fC HB hq_; have qi := n5; have cp := n9; have dh := rp; have eu := rq; have fO := ti; have fC := zH; have HB := BH; clear n5 n9 rp rq ti zH BH)); have aou := fG fC; have aov := af fC.out 0; have aiH := qc.out; have aiI := qd.out; have aow := fG eu; have aox := af eu.out 0))
           refine bodyPost_ret (ee rfl _ _ rU 26 #[.slice Mi dO.length Mj] (0, 0) _ rfl (mz eu) Tryz.underlying26 rfl (by kernel_rfl)) rfl ?_
           exact ⟨_, ig, by (with_reducible repeat (first | apply Kd.bQ | apply Kd.bT | apply Kd.bR)); exact Kd.bB (Kd.iJ (p := ⟨rU, 0, none⟩) (Kd.cI cp.out eu.out (by decide)) (fun _ hk => hk.2) (.slice Mi dO.length Mj)) (fun _ hk => trivial), bC HB⟩
         replace Vu := Bool.eq_false_iff.mpr Vu
         subst Vu
         rw [if_neg (show ¬ (false = true) by decide)] at H
         simp only [Option.some.injEq, Prod.mk.injEq] at H
         obtain ⟨rfl, rfl⟩ := H
         obtain ⟨ar5, ar6, ar7⟩ := Kd.aN dh.out
         subst ar7
         have awA := qf.out
         have awB := qe.out
         have awC := qh.out
         have awD := qg.out
         have aoy := fG fC
         have aoz := af fC.out 0
         obtain ⟨Vx, Vy, ar8⟩ := Kd.aN cp.out
         subst ar8
         go_wp2_with (first | ((with_reducible refine gate_callee (f := 42) rfl ?_); refine dU (some 80) Tryz.func42 #[.agg #[.slice Vx dO.length Vy]] ?_; (with_reducible refine (ak.calls k3 _ _ dO true _ ?ah ?aj A49.out).mono ?_); (case ah => exact kx ((Kd.ao cp.out).2.2)); (case aj => exact (Kd.ao cp.out).2.1); rintro e w71 ⟨rfl, hb⟩; refine ⟨_, rfl, ?_⟩; replace dh := aa.mk (Kd.aY (b9 dh.out) hb); replace cp := aa.mk (Kd.aY (b9 cp.out) hb); replace eu := cn eu hb; replace fO := cn fO hb; replace fC := cn fC hb; replace HB := eM HB hb; (try clear hb); have aoA := fG fC; have aoB := af fC.out 0) | (go_at_call 36; (with_reducible refine (cU.calls k3 _ _ dO xG _ ?ah ?aj A51.out).mono ?_); (case ah => exact kx ((Kd.ao cp.out).2.2)); (case aj => exact (Kd.ao cp.out).2.1); rintro e TS ⟨ar3, rfl, b0, hb⟩; replace dh := aa.mk (Kd.aY (b9 dh.out) hb); have qi := aa.mk (Kd.aW (Kd.eV b0 (Kd.gy (b9 cp.out))) (ag (bC HB))); replace cp := aa.mk (Kd.dZ (b9 cp.out) (Kd.cV b0) hb); replace eu := cn eu hb; replace fO := cn fO hb; replace fC := cn fC hb; replace HB := eM HB hb; (try clear hb); (try clear b0); obtain ⟨ajs, ajt, ar9⟩ := Kd.aN qi.out; subst ar9) | (go_at_call 78; (with_reducible refine (cg.calls k3 _ _ xG _ _ l0 false _ ?ah ?aj ?fB ?hD A52.out).mono ?_); (case ah => exact kx ((Kd.ao qi.out).2.2)); (case aj => exact (Kd.ao qi.out).2.1); (case fB => exact iZ eZ HB); (case hD => exact jN.out); rintro e w' ⟨rfl, ⟨nd, rfl⟩⟩; (try (rw [ov TS]; generalize hq_ : World.drewN TS _ = TS; have n5 : aa (Kd.R (Kd.int .i64) 3 TS w.heap.size (fun k_ => some k_ ≠ (.slice Vx dO.length Vy : Value).ownBlock) (.slice ajs xG.length ajt) xG) := ⟨by rw [← hq_]; exact (by (with_reducible repeat (first | apply Kd.bQ | apply Kd.bT | apply Kd.bR)); exact Kd.bB qi.out (fun _ hk => hk.2))⟩; have n9 : aa (Kd.R (Kd.int .i64) 3 TS w.heap.size (fun k_ => some k_ ≠ (.slice ajs xG.length ajt : Value).ownBlock) (.slice Vx dO.length Vy) dO) := ⟨by rw [← hq_]; exact (by (with_reducible repeat (first | apply Kd.bQ | apply Kd.bT | apply Kd.bR)); exact Kd.bB cp.out (fun _ hk => hk.2))⟩; have rp : aa (Kd.R Kd.bool 4 TS w.heap.size (fun _ => True) (.slice ar5 fT.length ar6) fT) := ⟨by rw [← hq_]; exact (b9 dh.out)⟩; have rq : aa (TS.heap[rU]? = some (.cells #[.slice none 0 0] 26 (0, 0))) := ⟨by rw [← hq_]; exact (cC eu.out)⟩; have ti : aa (TS.heap[wX]? = some (.cells #[.int .i64 C0, .int .i64 HT] 69 (0, 0))) := ⟨by rw [← hq_]; exact (cC fO.out)⟩; have zH : aa (TS.heap[zG]? = some (.cells #[.slice Vx dO.length Vy] 26 (0, 0))) := ⟨by rw [← hq_]; exact (cC fC.out)⟩; have BH : aa (Below w.heap.size w TS) := ⟨by rw [← hq_]; exact (bC HB)⟩; clear qi cp dh eu fO fC HB hq_; have qi := n5; have cp := n9; have dh := rp; have eu := rq; have fO := ti; have fC := zH; have HB := BH; clear n5 n9 rp rq ti zH BH)); have awE := qc.out; have awF := qd.out; have aoC := fG eu; have aoD := af eu.out 0))
         refine bodyPost_ret (ee rfl _ _ rU 26 #[.slice none 0 0] (0, 0) _ rfl (mz eu) Tryz.underlying26 rfl (by kernel_rfl)) rfl ?_
         exact ⟨_, ig, by first | exact Kd.kQ _ _ _ _ _ | exact Kd.mE _ _ _ _ _ | exact Kd.mF _ _ _ _ _ | exact Kd.mC _ _ _ _ _ | exact Kd.mD _ _ _ _ _, bC HB⟩
       rw [if_pos wK] at H
       have yQ : decide (jy < (fT.length : Int)) = true := decide_eq_true wK
       clear wK
       obtain ⟨Bq, H⟩ := dB H
       have H' := aa.mk H
       clear H
       obtain ⟨Ba, Bb, P3⟩ := Kd.aN dh.out
       subst P3
       have Vz : 0 ≤ (jy : Int) := bO
       have VA : jy < (fT.length : Int) := bO
       obtain ⟨JY, ar_, VB⟩ := Kd.fc (Kd.ao dh.out).2.2 jy Vz VA
       cases ar_
       replace Vz := eq_true Vz
       replace VA := eq_true VA
       go_wp2
       go_loopg [11, 12] k3 (fun kq v11 v12 w' => ∃ (EP : Bool) (kA : Int), v11 = .bool EP ∧ v12 = .int .i64 kA ∧ aa (aG.l2 kq l0 fT jy EP kA dO = some (r1, r2)) ∧ aa (kq ≤ k3) ∧ aa (Kd.R Kd.bool 4 w' w.heap.size (fun _ => True) (.slice (some JY) fT.length Bb) fT) ∧ aa (Kd.R (Kd.int .i64) 3 w' w.heap.size (fun _ => True) pa dO) ∧ aa (w'.heap[rU]? = some (.cells #[(.slice none 0 0)] 26 (0, 0))) ∧ aa (w'.heap[wX]? = some (.cells #[.int .i64 C0, .int .i64 HT] 69 (0, 0))) ∧ aa (w'.heap[zG]? = some (.cells #[pa] 26 (0, 0))) ∧ aa (Below w.heap.size w w'))
       case atStart => exact ⟨(e6 false fT jy), (1), eF, eF, H', ⟨Nat.le_refl _⟩, ⟨b9 dh.out⟩, ⟨b9 cp.out⟩, ⟨cC eu.out⟩, ⟨cC fO.out⟩, ⟨cC fC.out⟩, ⟨bC HB⟩⟩
       case round =>
        clear H'
        try clear yQ
        try clear Bq
        try clear VB
        try clear Vz
        try clear VA
        obtain ⟨EP, kA, rfl, rfl, HA, qx, dh, cp, eu, fO, fC, HB⟩ := hrel
        cases gk with
        | zero => exact absurd HA.out (by simp [aG.l2])
        | succ k4 =>
         have H := HA.out
         clear HA
         simp only [aG.l2] at H
         by_cases Js : (wrap64 (2 * kA)) ≤ jy
         rotate_left
         · rw [if_neg Js] at H
           have XX : decide ((wrap64 (2 * kA)) ≤ jy) = false := decide_eq_false Js
           clear Js
           by_cases c41 : EP = true
           · subst c41
             rw [if_pos rfl] at H
             have H' := aa.mk H
             clear H
             go_wp2
             go_roundg k4
             case measure => have := vB.out; have := jo.out; have := lp.out; have := qx.out; omega
             case rel => exact ⟨(wrap64 (jy + 1)), (dO), (pa), eF, H', ⟨by have := vB.out; have := jo.out; have := lp.out; have := qx.out; omega⟩, ⟨b9 dh.out⟩, ⟨b9 cp.out⟩, ⟨cC eu.out⟩, ⟨cC fO.out⟩, ⟨cC fC.out⟩, ⟨bC HB⟩⟩
           replace c41 := Bool.eq_false_iff.mpr c41
           subst c41
           rw [if_neg (show ¬ (false = true) by decide)] at H
           obtain ⟨c42, H⟩ := kG H
           have aju := aa.mk c42
           clear c42
           obtain ⟨Qn, Qo⟩ : ∃ y_ : List Int, y_ = (dO ++ [jy]) := ⟨_, rfl⟩
           replace H : (aG.l1 k4 l0 fT (wrap64 (jy + 1)) Qn) = some (r1, r2) := by subst Qo; exact H
           have ajv := aa.mk Qo
           clear Qo
           have H' := aa.mk H
           clear H
           have awG := qf.out
           have awH := qe.out
           have ais := qh.out
           have ait := qg.out
           have U8 := fG fC
           have U9 := af fC.out 0
           go_wp2_with (first | ((with_reducible refine gate_builtin (b := .append) (xs := #[.tmp 74, .tmp 76]) rfl ?_); at_builtin; refine Kd.ke (Kd.int .i64) (w0 := w) w.heap.size rfl (.tmp 74) (.tmp 76) 24 3 (.int .i64 0) 8 rfl Tryz.underlying24 iS rfl (by decide) (by omega) pa dO jy [.int .i64 jy] (fun _ => True) (fun _ => False) rfl rfl ?aP (fun _ hk => hk.elim) ?aF ?aO ?aB ?aS ?aL ?_; (case aP => exact rfl); (case aB => exact (bC HB)); (case aF => exact (fun _ _ => trivial)); (case aO => exact (b9 cp.out)); (case aS => exact (ag (bC HB))); (case aL => have := aju.out; omega); intro aAz w46 ho hb hg hat; rw [← ajv.out] at ho; replace dh := aa.mk (Kd.o0 (b9 dh.out) (Kd.oZ (b9 cp.out)) (by decide) hg); replace eu := aa.mk (cS (cC eu.out) hg (Kd.nR cp.out eu.out (by decide))); replace fO := aa.mk (cS (cC fO.out) hg (Kd.nR cp.out fO.out (by decide))); replace fC := aa.mk (cS (cC fC.out) hg (Kd.nR cp.out fC.out (by decide))); replace HB := aa.mk (hb); have Zf := aa.mk (ho); clear cp; clear ho hb hg hat; obtain ⟨adg, adh, asa⟩ := Kd.aN Zf.out; subst asa; have Ve := fG fC; have Vf := af fC.out 0))
           go_roundg k4
           case measure => have := vB.out; have := jo.out; have := lp.out; have := qx.out; omega
           case rel => exact ⟨(wrap64 (jy + 1)), (Qn), (.slice adg Qn.length adh), eF, H', ⟨by have := vB.out; have := jo.out; have := lp.out; have := qx.out; omega⟩, ⟨by (with_reducible repeat (first | apply Kd.bQ | apply Kd.bT | apply Kd.bR)); exact Kd.bB (Kd.iJ (p := ⟨zG, 0, none⟩) (Kd.cI dh.out fC.out (by decide)) (fun _ hk => hk.2) (.slice adg Qn.length adh)) (fun _ hk => trivial)⟩, ⟨by (with_reducible repeat (first | apply Kd.bQ | apply Kd.bT | apply Kd.bR)); exact Kd.bB (Kd.iJ (p := ⟨zG, 0, none⟩) (Kd.cI Zf.out fC.out (by decide)) (fun _ hk => hk.2) (.slice adg Qn.length adh)) (fun _ hk => trivial)⟩, ⟨pB eu⟩, ⟨pB fO⟩, ⟨mz fC⟩, ⟨bC HB⟩⟩
         rw [if_pos Js] at H
         have XX : decide ((wrap64 (2 * kA)) ≤ jy) = true := decide_eq_true Js
         clear Js
         by_cases CB : EP = true
         · subst CB
           rw [if_pos rfl] at H
           have H' := aa.mk H
           clear H
           go_wp2
           go_roundg k4
           case measure => have := vB.out; have := jo.out; have := lp.out; have := qx.out; omega
           case rel => exact ⟨(wrap64 (jy + 1)), (dO), (pa), eF, H', ⟨by have := vB.out; have := jo.out; have := lp.out; have := qx.out; omega⟩, ⟨b9 dh.out⟩, ⟨b9 cp.out⟩, ⟨cC eu.out⟩, ⟨cC fO.out⟩, ⟨cC fC.out⟩, ⟨bC HB⟩⟩
         replace CB := Bool.eq_false_iff.mpr CB
         subst CB
         rw [if_neg (show ¬ (false = true) by decide)] at H
         obtain ⟨N4, H⟩ := dB H
         obtain ⟨Yg, H⟩ := dB H
         obtain ⟨ajw, Qp⟩ : ∃ b_ : Bool, b_ = (e6 false fT kA) := ⟨_, rfl⟩
         replace H : (if ajw = true then (aG.l2 k4 l0 fT jy false (wrap64 (kA + 1)) dO) else (if 0 ≤ (wrap64 (jy - kA)) then (if (wrap64 (jy - kA)) < (fT.length : Int) then (aG.l2 k4 l0 fT jy (!(e6 false fT (wrap64 (jy - kA)))) (wrap64 (kA + 1)) dO) else (none)) else (none))) = some (r1, r2) := by rw [← Qp] at H; exact H
         have Qq := aa.mk Qp
         clear Qp
         by_cases TR : ajw = true
         · subst TR
           rw [if_pos rfl] at H
           have H' := aa.mk H
           clear H
           have HW : 0 ≤ (kA : Int) := bO
           have HX : kA < (fT.length : Int) := bO
           obtain ⟨Qr, adi, C2⟩ := Kd.fc (Kd.ao dh.out).2.2 kA HW HX
           (try rw [← Qq.out] at C2)
           obtain rfl : JY = Qr := (by injection adi)
           replace HW := eq_true HW
           replace HX := eq_true HX
           go_wp2
           go_roundg k4
           case measure => have := vB.out; have := jo.out; have := lp.out; have := qx.out; omega
           case rel => exact ⟨(false), (wrap64 (kA + 1)), eF, eF, H', ⟨by have := vB.out; have := jo.out; have := lp.out; have := qx.out; omega⟩, ⟨b9 dh.out⟩, ⟨b9 cp.out⟩, ⟨cC eu.out⟩, ⟨cC fO.out⟩, ⟨cC fC.out⟩, ⟨bC HB⟩⟩
         replace TR := Bool.eq_false_iff.mpr TR
         subst TR
         rw [if_neg (show ¬ (false = true) by decide)] at H
         obtain ⟨ER, JZ⟩ : ∃ j_ : Int, (wrap64 (jy - kA)) = j_ := ⟨_, rfl⟩
         replace H : (if 0 ≤ (ER) then (if (ER) < (fT.length : Int) then (aG.l2 k4 l0 fT jy (!(e6 false fT (ER))) (wrap64 (kA + 1)) dO) else (none)) else (none)) = some (r1, r2) := by first | (rw [JZ] at H; exact H) | (simp only [JZ] at H ⊢; exact H)
         have asb : (IntKind.i64.wrap (jy - kA)) = ER := (b6 _).trans JZ
         obtain ⟨ahn, H⟩ := dB H
         obtain ⟨YZ, H⟩ := dB H
         have H' := aa.mk H
         clear H
         have HW : 0 ≤ (kA : Int) := bO
         have HX : kA < (fT.length : Int) := bO
         obtain ⟨Qr, adi, C2⟩ := Kd.fc (Kd.ao dh.out).2.2 kA HW HX
         (try rw [← Qq.out] at C2)
         obtain rfl : JY = Qr := (by injection adi)
         replace HW := eq_true HW
         replace HX := eq_true HX
         have adj : 0 ≤ ((ER) : Int) := bO
         have adk : (ER) < (fT.length : Int) := bO
         obtain ⟨ajx, asd, VC⟩ := Kd.fc (Kd.ao dh.out).2.2 (ER) adj adk
         (try rw [← Qq.out] at VC)
         obtain rfl : JY = ajx := (by injection asd)
         replace adj := eq_true adj
         replace adk := eq_true adk
         go_wp2
         go_roundg k4
         case measure => have := vB.out; have := jo.out; have := lp.out; have := qx.out; omega
         case rel => exact ⟨(!(e6 false fT (ER))), (wrap64 (kA + 1)), (by first | rfl | (simp; done) | (simp only [← JZ] <;> (first | rfl | simp)) | (simp [*]; done)), eF, H', ⟨by have := vB.out; have := jo.out; have := lp.out; have := qx.out; omega⟩, ⟨b9 dh.out⟩, ⟨b9 cp.out⟩, ⟨cC eu.out⟩, ⟨cC fO.out⟩, ⟨cC fC.out⟩, ⟨bC HB⟩⟩
def fQ.f (k : Nat) (an : List Int) : Option (List Int × Bool) := (cU.f k an).bind fun mR => (if (mR.length : Int) = 0 then (some (([] : List Int), false)) else (if 0 ≤ (wrap64 ((mR.length : Int) - 1)) then (if (wrap64 ((mR.length : Int) - 1)) ≤ (mR.length : Int) then ((aG.f k (mR.take ((wrap64 ((mR.length : Int) - 1)) : Int).toNat)).bind fun wY => (some (wY.1, wY.2))) else (none)) else (none)))
theorem fQ.calls (k : Nat) (bF : Option Addr) (bl : Nat) (an : List Int) (r1 : List Int) (r2 : Bool) (w : World) (eB : Kd.C (Kd.int .i64) w bF an.length an) (eC : an.length ≤ bl) (h : fQ.f k an = some (r1, r2)) :
 Calls Tryz.prog 7 #[.agg #[.slice bF an.length bl]] w fun e w' => ∃ jf : Value, e = .returned (.tuple #[.agg #[jf], .bool r2]) ∧ Kd.R (Kd.int .i64) 3 w' w.heap.size (fun _ => True) jf r1 ∧ Below w.heap.size w w' := by
 have kJ := Tryz.underlying26
 have bV := aa.mk eB
 have cH := aa.mk eC
 clear eB eC
 have HB := aa.mk (Below.refl w.heap.size w)
 have H := h
 clear h
 unfold fQ.f at H
 obtain ⟨mR, A2, H⟩ := eA H
 by_cases c3 : (mR.length : Int) = 0
 · rw [if_pos c3] at H
   have jD : ((mR.length : Int) == 0) = true := beq_iff_eq.mpr c3
   have ow : ((mR.length : Int) != 0) = false := bne_eq_false_iff_eq.mpr c3
   clear c3
   simp only [Option.some.injEq, Prod.mk.injEq] at H
   obtain ⟨rfl, rfl⟩ := H
   go_enter Tryz.func7, Tryz.ntmps7
   go_wp2_with (first | ((with_reducible refine gate_dst (N := 1) rfl ?_); refine iP 1 #[.slice bF an.length bl] 26 ?_; intro ajy hg w4 hbox hb; have l7 := aa.mk (hbox); have ajz := ij hg HB; have ajA := ij hg HB; replace HB := jL HB hb; clear hb hbox hg) | ((with_reducible refine gate_dst (N := 2) rfl ?_); refine iP 2 #[.slice none 0 0] 26 ?_; intro J0 hg w5 hbox hb; have pb := aa.mk (hbox); have ajB := kW hg (bC HB); have ajC := kW hg (bC HB); replace HB := eM HB hb; have vU := mw hg l7; have vV := my hg l7; replace l7 := cn l7 hb; clear hb hbox hg; have ajD := vU.out; have ajE := vV.out; have CX := fG l7; have CY := af l7.out 0) | ((with_reducible refine gate_callee (f := 36) rfl ?_); refine dU (some 6) Tryz.func36 #[.agg #[.slice bF an.length bl]] ?_; (with_reducible refine (cU.calls k _ _ an mR _ ?ah ?aj A2.out).mono ?_); (case ah => exact iZ bV HB); (case aj => exact cH.out); rintro e w8 ⟨ase, rfl, b0, hb⟩; refine ⟨_, rfl, ?_⟩; have wZ := aa.mk (Kd.aW b0 (ag (bC HB))); replace l7 := cn l7 hb; replace pb := cn pb hb; replace HB := eM HB hb; (try clear hb); (try clear b0); obtain ⟨pI, o3, NR⟩ := Kd.aN wZ.out; subst NR; have sS := fG pb; have sT := af pb.out 0))
   refine bodyPost_ret (ee rfl _ _ J0 26 #[.slice none 0 0] (0, 0) _ rfl (mz pb) Tryz.underlying26 rfl (by kernel_rfl)) rfl ?_
   exact ⟨_, ig, by first | exact Kd.kQ _ _ _ _ _ | exact Kd.mE _ _ _ _ _ | exact Kd.mF _ _ _ _ _ | exact Kd.mC _ _ _ _ _ | exact Kd.mD _ _ _ _ _, bC HB⟩
 rw [if_neg c3] at H
 have jD : ((mR.length : Int) == 0) = false := beq_eq_false_iff_ne.mpr c3
 have ow : ((mR.length : Int) != 0) = true := bne_iff_ne.mpr c3
 have uw : ¬ (mR = []) := fun h_ => c3 (by rw [h_]; rfl)
 obtain ⟨oT, rV⟩ : ∃ j_ : Int, (wrap64 ((mR.length : Int) - 1)) = j_ := ⟨_, rfl⟩
 replace H : (if 0 ≤ (oT) then (if (oT) ≤ (mR.length : Int) then ((aG.f k (mR.take ((oT) : Int).toNat)).bind fun wY => (some (wY.1, wY.2))) else (none)) else (none)) = some (r1, r2) := by first | (rw [rV] at H; exact H) | (simp only [rV] at H ⊢; exact H)
 (try rw [rV] at A2)
 have adl : (IntKind.i64.wrap ((mR.length : Int) - 1)) = oT := (b6 _).trans rV
 obtain ⟨pK, H⟩ := kG H
 have o6 := eq_true pK
 have OD : decide (0 ≤ (oT)) = true := decide_eq_true pK
 clear pK
 obtain ⟨mY, H⟩ := kG H
 have lS := eq_true mY
 have EE : decide ((oT) ≤ (mR.length : Int)) = true := decide_eq_true mY
 clear mY
 obtain ⟨Qs, Qt⟩ : ∃ y_ : List Int, y_ = (mR.take ((oT) : Int).toNat) := ⟨_, rfl⟩
 replace H : ((aG.f k Qs).bind fun wY => (some (wY.1, wY.2))) = some (r1, r2) := by subst Qt; exact H
 have Zg := aa.mk Qt
 clear Qt
 obtain ⟨⟨adm, asf⟩, A14, H⟩ := eA H
 (try dsimp only at H)
 simp only [Option.some.injEq, Prod.mk.injEq] at H
 obtain ⟨rfl, rfl⟩ := H
 go_enter Tryz.func7, Tryz.ntmps7
 go_wp2_with (first | ((with_reducible refine gate_dst (N := 1) rfl ?_); refine iP 1 #[.slice bF an.length bl] 26 ?_; intro ajy hg LS hbox hb; have l7 := aa.mk (hbox); have ajz := ij hg HB; have ajA := ij hg HB; replace HB := jL HB hb; clear hb hbox hg) | ((with_reducible refine gate_dst (N := 2) rfl ?_); refine iP 2 #[.slice none 0 0] 26 ?_; intro J0 hg LX hbox hb; have pb := aa.mk (hbox); have ajB := kW hg (bC HB); have ajC := kW hg (bC HB); replace HB := eM HB hb; have vU := mw hg l7; have vV := my hg l7; replace l7 := cn l7 hb; clear hb hbox hg; have Zh := vU.out; have Zi := vV.out; have yd := fG l7; have ye := af l7.out 0) | ((with_reducible refine gate_callee (f := 36) rfl ?_); refine dU (some 6) Tryz.func36 #[.agg #[.slice bF an.length bl]] ?_; (with_reducible refine (cU.calls k _ _ an mR _ ?ah ?aj A2.out).mono ?_); (case ah => exact iZ bV HB); (case aj => exact cH.out); rintro e TJ ⟨ase, rfl, b0, hb⟩; refine ⟨_, rfl, ?_⟩; have wZ := aa.mk (Kd.aW b0 (ag (bC HB))); replace l7 := cn l7 hb; replace pb := cn pb hb; replace HB := eM HB hb; (try clear hb); (try clear b0); obtain ⟨CN, pN, AZ⟩ := Kd.aN wZ.out; subst AZ; have q21 : ((oT) : Int) ≤ ((mR.length : Int) : Int) := bO; obtain ⟨aAA, Zj, _, ajG, _⟩ := info_parts iS; have J1 : mR.length ≤ pN := (Kd.ao wZ.out).2.1; have ajH : Kd.C (Kd.int .i64) _ CN mR.length mR := (Kd.ao wZ.out).2.2; have adn := vH (P := Tryz.prog) 24 3 .i64 Tryz.underlying24 Zj CN mR.length pN (oT) (bO) q21 J1; have ado := Kd.Cj (m := ((oT) : Int).toNat) ajH (by omega); have adp : Qs.length = ((oT) : Int).toNat := (by rw [Zg.out, List.length_take]; omega); rw [← Zg.out] at ado; rw [← adp] at adn; have ES := aa.mk ado; have ajI := aa.mk (show Qs.length ≤ pN from by omega); clear ado ajH J1 Zj ajG; have aAB := aa.mk adp; clear adp; have aAC := aa.mk (show ((oT) : Int).toNat ≤ mR.length from by omega); replace q21 := eq_true q21) | ((with_reducible refine gate_callee (f := 37) rfl ?_); refine dU (some 16) Tryz.func37 #[.slice CN Qs.length pN] ?_; (with_reducible refine (aG.calls k _ _ Qs adm asf _ ?ah ?aj A14.out).mono ?_); (case ah => repeat (first | exact (by repeat (first | (with_reducible exact ES.out) | (with_reducible refine Kd.cz ?_ _) | (with_reducible refine Kd.cA ?_ _) | (with_reducible refine Kd.di ?_) | exact ES.out)) | (with_reducible refine Kd.cz ?_ _) | (with_reducible refine Kd.cA ?_ _) | (with_reducible refine Kd.di ?_))); (case aj => exact ajI.out); rintro e DT ⟨aAD, rfl, b0, hb⟩; refine ⟨_, rfl, ?_⟩; have Zk := aa.mk (Kd.aW (Kd.eV b0 (Kd.gy (b9 wZ.out))) (ag (bC HB))); replace wZ := aa.mk (Kd.dZ (b9 wZ.out) (Kd.cV b0) hb); replace l7 := cn l7 hb; replace pb := cn pb hb; replace ES := aa.mk (Kd.dx (by repeat (first | (with_reducible exact ES.out) | (with_reducible refine Kd.cz ?_ _) | (with_reducible refine Kd.cA ?_ _) | (with_reducible refine Kd.di ?_) | exact ES.out)) hb); replace HB := eM HB hb; (try clear hb); (try clear b0); obtain ⟨eG, eH, Qu⟩ := Kd.aN Zk.out; subst Qu; have J2 := fG pb; have J3 := af pb.out 0))
 refine bodyPost_ret (ee rfl _ _ J0 26 #[.slice eG adm.length eH] (0, 0) _ rfl (mz pb) Tryz.underlying26 rfl (by kernel_rfl)) rfl ?_
 exact ⟨_, by first | rfl | (simp [cD, cF] <;> rfl) | (simp only [← rV]; first | rfl | (simp [cD, cF] <;> rfl)) | (simp [*, cD, cF] <;> rfl), by (with_reducible repeat (first | apply Kd.bQ | apply Kd.bT | apply Kd.bR)); exact Kd.bB (Kd.iJ (p := ⟨J0, 0, none⟩) (Kd.cI Zk.out pb.out (by decide)) (fun _ hk => hk.2) (.slice eG adm.length eH)) (fun _ hk => trivial), bC HB⟩
def bA.l0 : Nat → List Int → List Bool → Int → Option (List Int)
 | 0, _, _, _ => none
 | k + 1, x3, x4, x5 => if x5 < 200 then (if 0 ≤ x5 then (if x5 < (x4.length : Int) then (if e6 false x4 x5 = true then (bA.l0 k x3 x4 (wrap64 (x5 + 1))) else (if x3.length < 17592186044416 then (bA.l0 k (x3 ++ [x5]) x4 (wrap64 (x5 + 1))) else (none))) else (none)) else (none)) else (some x3)
def bA.f (k : Nat) (an : List Int) : Option (List Int) := (aD.f k an 200).bind fun vW => (bA.l0 k (([] : List Int)) vW 1)
theorem bA.er : ∀ k, (∀ y0 y1 y2, bK (bA.l0 k y0 y1 y2) (bA.l0 (k + 1) y0 y1 y2))
 | 0 => fun _ _ _ r h => by simp [bA.l0] at h
 | k + 1 => by
  have ia := bA.er k
  · intro y0 y1 y2
    unfold bA.l0
    repeat' first
    | (with_reducible exact ia _ _ _)
    | (with_reducible exact aD.mono _ _ _)
    | (with_reducible exact bK.refl _)
    | (with_reducible exact bK.none _)
    | (with_reducible refine bK.ite ?_ ?_)
    | (with_reducible refine bK.bind ?_ (fun _ => ?_))
    | exact ia _ _ _
    | exact bK.none _
    | refine bK.ite ?_ ?_
    | refine bK.bind ?_ (fun _ => ?_)
theorem bA.mono : ∀ a0 k, bK (bA.f k a0) (bA.f (k + 1) a0) := by
 intro a0 k
 have ia := bA.er k
 unfold bA.f
 repeat' first
  | (with_reducible exact ia _ _ _)
  | (with_reducible exact aD.mono _ _ _)
  | (with_reducible exact bK.refl _)
  | (with_reducible exact bK.none _)
  | (with_reducible refine bK.ite ?_ ?_)
  | (with_reducible refine bK.bind ?_ (fun _ => ?_))
  | exact ia _ _ _
  | exact bK.none _
  | refine bK.ite ?_ ?_
  | refine bK.bind ?_ (fun _ => ?_)
theorem bA.calls (k : Nat) (bF : Option Addr) (bl : Nat) (an : List Int) (r : List Int) (w : World) (eB : Kd.C (Kd.int .i64) w bF an.length an) (eC : an.length ≤ bl) (h : bA.f k an = some r) :
 Calls Tryz.prog 41 #[.agg #[.slice bF an.length bl]] w fun e w' => ∃ jf : Value, e = .returned (jf) ∧ Kd.R (Kd.int .i64) 3 w' w.heap.size (fun _ => True) jf r ∧ Below w.heap.size w w' := by
 have kJ := Tryz.underlying26
 have bV := aa.mk eB
 have cH := aa.mk eC
 clear eB eC
 have HB := aa.mk (Below.refl w.heap.size w)
 have H := h
 clear h
 unfold bA.f at H
 obtain ⟨ajJ, Qv⟩ : ∃ y_ : List Int, y_ = (([] : List Int)) := ⟨_, rfl⟩
 replace H : ((aD.f k an 200).bind fun vW => (bA.l0 k ajJ vW 1)) = some r := by subst Qv; exact H
 have Zl := aa.mk Qv
 clear Qv
 obtain ⟨vW, A2, H⟩ := eA H
 have H' := aa.mk H
 clear H
 go_enter Tryz.func41, Tryz.ntmps41
 go_wp2_with (first | ((with_reducible refine gate_dst (N := 1) rfl ?_); refine iP 1 #[.slice bF an.length bl] 26 ?_; intro ajK hg w3 hbox hb; have qj := aa.mk (hbox); have awJ := ij hg HB; have awK := ij hg HB; replace HB := jL HB hb; clear hb hbox hg) | ((with_reducible refine gate_dst (N := 6) rfl ?_); refine Kd.iK (Kd.int .i64) _ 3 ?hg (N := 6) ?hd (xs := ([] : List Int)) (inner := []) (ok := fun _ => True) (okp := fun _ => True) ?hr ?hp (fun _ hk => hk) trivial (Below.refl _ _) (Nat.le_refl _) (by simp) ?_; (case hd => rfl); (case hg => rfl); (case hr => first | (go_simp; done) | (go_simp; rfl)); (case hp => exact (bE.none _ _)); intro aAE w4 Qw hb hg_ hnew_; clear hg_ hnew_; (first | rw [← Zl.out] at Qw | (simp only [Int.reduceToNat] at Qw; rw [← Zl.out] at Qw)); have Qx := aa.mk (Kd.aW Qw (ag (bC HB))); replace qj := cn qj hb; replace HB := eM HB hb; clear hb Qw; have lV := fG qj; have lW := af qj.out 0) | ((with_reducible refine gate_callee (f := 83) rfl ?_); refine dU (some 9) Tryz.func83 #[.slice bF an.length bl, .int .i64 200] ?_; (with_reducible refine (aD.calls k _ _ an 200 vW _ ?ah ?aj A2.out).mono ?_); (case ah => exact iZ bV HB); (case aj => exact cH.out); rintro e w7 ⟨ash, rfl, b0, hb⟩; refine ⟨_, rfl, ?_⟩; replace Qx := aa.mk (Kd.aY (b9 Qx.out) hb); have ajL := aa.mk (Kd.aW b0 (ag (bC HB))); replace qj := cn qj hb; replace HB := eM HB hb; (try clear hb); (try clear b0)))
 go_loopg [3, 5] k (fun kq v3 v5 w' => ∃ (bd : List Int) (aJ : Int), v5 = .int .i64 aJ ∧ aa (bA.l0 kq bd vW aJ = some r) ∧ aa (kq ≤ k) ∧ aa (Kd.R (Kd.int .i64) 3 w' w.heap.size (fun _ => True) v3 bd) ∧ aa (Kd.R Kd.bool 4 w' w.heap.size (fun _ => True) ash vW) ∧ aa (w'.heap[ajK]? = some (.cells #[(.slice bF an.length bl)] 26 (0, 0))) ∧ aa (Below w.heap.size w w'))
 case atStart => exact ⟨(ajJ), (1), eF, H', ⟨Nat.le_refl _⟩, ⟨b9 Qx.out⟩, ⟨b9 ajL.out⟩, ⟨cC qj.out⟩, ⟨bC HB⟩⟩
 case round =>
  clear H'
  try clear lV
  try clear lW
  obtain ⟨bd, aJ, rfl, HA, fu, dC, bJ, qj, HB⟩ := hrel
  cases gk with
  | zero => exact absurd HA.out (by simp [bA.l0])
  | succ k1 =>
   have H := HA.out
   clear HA
   simp only [bA.l0] at H
   by_cases c8 : aJ < 200
   rotate_left
   · rw [if_neg c8] at H
     have rD : decide (aJ < 200) = false := decide_eq_false c8
     clear c8
     obtain rfl := Option.some.inj H
     go_wp2
     go_ret
     exact ⟨_, ig, b9 dC.out, bC HB⟩
   rw [if_pos c8] at H
   have rD : decide (aJ < 200) = true := decide_eq_true c8
   clear c8
   obtain ⟨uo, H⟩ := dB H
   obtain ⟨pW, H⟩ := dB H
   obtain ⟨ajM, Qy⟩ : ∃ b_ : Bool, b_ = (e6 false vW aJ) := ⟨_, rfl⟩
   replace H : (if ajM = true then (bA.l0 k1 bd vW (wrap64 (aJ + 1))) else (if bd.length < 17592186044416 then (bA.l0 k1 (bd ++ [aJ]) vW (wrap64 (aJ + 1))) else (none))) = some r := by rw [← Qy] at H; exact H
   have Zm := aa.mk Qy
   clear Qy
   by_cases pK : ajM = true
   · subst pK
     rw [if_pos rfl] at H
     have H' := aa.mk H
     clear H
     obtain ⟨NP, GK, GL⟩ := Kd.aN bJ.out
     subst GL
     have HY : 0 ≤ (aJ : Int) := bO
     have HZ : aJ < (vW.length : Int) := bO
     obtain ⟨ajN, adq, C3⟩ := Kd.fc (Kd.ao bJ.out).2.2 aJ HY HZ
     (try rw [← Zm.out] at C3)
     cases adq
     replace HY := eq_true HY
     replace HZ := eq_true HZ
     go_wp2
     go_roundg k1
     case measure => have := fu.out; omega
     case rel => exact ⟨(bd), (wrap64 (aJ + 1)), eF, H', ⟨by have := fu.out; omega⟩, ⟨b9 dC.out⟩, ⟨b9 bJ.out⟩, ⟨cC qj.out⟩, ⟨bC HB⟩⟩
   replace pK := Bool.eq_false_iff.mpr pK
   subst pK
   rw [if_neg (show ¬ (false = true) by decide)] at H
   obtain ⟨mG, H⟩ := kG H
   have ajO := aa.mk mG
   clear mG
   obtain ⟨ajP, Qz⟩ : ∃ y_ : List Int, y_ = (bd ++ [aJ]) := ⟨_, rfl⟩
   replace H : (bA.l0 k1 ajP vW (wrap64 (aJ + 1))) = some r := by subst Qz; exact H
   have ajQ := aa.mk Qz
   clear Qz
   have H' := aa.mk H
   clear H
   obtain ⟨aAF, apH, Ur⟩ := Kd.aN bJ.out
   subst Ur
   have HY : 0 ≤ (aJ : Int) := bO
   have HZ : aJ < (vW.length : Int) := bO
   obtain ⟨ajN, adq, C3⟩ := Kd.fc (Kd.ao bJ.out).2.2 aJ HY HZ
   (try rw [← Zm.out] at C3)
   cases adq
   replace HY := eq_true HY
   replace HZ := eq_true HZ
   go_wp2_with (first | ((with_reducible refine gate_builtin (b := .append) (xs := #[.tmp 19, .tmp 21]) rfl ?_); at_builtin; refine Kd.ke (Kd.int .i64) (w0 := w) w.heap.size rfl (.tmp 19) (.tmp 21) 24 3 (.int .i64 0) 8 rfl Tryz.underlying24 iS rfl (by decide) (by omega) u3 bd aJ [.int .i64 aJ] (fun _ => True) (fun _ => False) rfl rfl ?aP (fun _ hk => hk.elim) ?aF ?aO ?aB ?aS ?aL ?_; (case aP => exact rfl); (case aB => exact (bC HB)); (case aF => exact (fun _ _ => trivial)); (case aO => exact (b9 dC.out)); (case aS => exact (ag (bC HB))); (case aL => have := ajO.out; omega); intro aAG LX ho hb hg hat; rw [← ajQ.out] at ho; replace bJ := aa.mk (Kd.o0 (b9 bJ.out) (Kd.oZ (b9 dC.out)) (by decide) hg); replace qj := aa.mk (cS (cC qj.out) hg (Kd.nR dC.out qj.out (by decide))); replace HB := aa.mk (hb); have ajR := aa.mk (ho); clear dC; clear ho hb hg hat))
   go_roundg k1
   case measure => have := fu.out; omega
   case rel => exact ⟨(ajP), (wrap64 (aJ + 1)), eF, H', ⟨by have := fu.out; omega⟩, ⟨b9 ajR.out⟩, ⟨b9 bJ.out⟩, ⟨cC qj.out⟩, ⟨bC HB⟩⟩
def lB.f (k : Nat) (an : List Int) : Option (List Int) := (aA.f k an).bind fun adr => (if adr = true then ((bA.f k an).bind fun ads => (some ads)) else (some (([] : List Int))))
theorem lB.calls (k : Nat) (bF : Option Addr) (bl : Nat) (an : List Int) (r : List Int) (w : World) (eB : Kd.C (Kd.int .i64) w bF an.length an) (eC : an.length ≤ bl) (h : lB.f k an = some r) :
 Calls Tryz.prog 79 #[.agg #[.slice bF an.length bl]] w fun e w' => ∃ jf : Value, e = .returned (jf) ∧ Kd.R (Kd.int .i64) 3 w' w.heap.size (fun _ => True) jf r ∧ Below w.heap.size w w' := by
 have kJ := Tryz.underlying26
 have bV := aa.mk eB
 have cH := aa.mk eC
 clear eB eC
 have HB := aa.mk (Below.refl w.heap.size w)
 have H := h
 clear h
 unfold lB.f at H
 obtain ⟨adr, A2, H⟩ := eA H
 by_cases c3 : adr = true
 · subst c3
   rw [if_pos rfl] at H
   obtain ⟨ads, A4, H⟩ := eA H
   obtain rfl := Option.some.inj H
   go_enter Tryz.func79, Tryz.ntmps79
   go_wp2_with (first | ((with_reducible refine gate_dst (N := 1) rfl ?_); refine iP 1 #[.slice bF an.length bl] 26 ?_; intro ajS hg w5 hbox hb; have oD := aa.mk (hbox); have ajT := ij hg HB; have ajU := ij hg HB; replace HB := jL HB hb; clear hb hbox hg; have lV := fG oD; have lW := af oD.out 0) | ((with_reducible refine gate_callee (f := 45) rfl ?_); refine dU (some 4) Tryz.func45 #[.agg #[.slice bF an.length bl]] ?_; (with_reducible refine (aA.calls k _ _ an true _ ?ah ?aj A2.out).mono ?_); (case ah => exact iZ bV HB); (case aj => exact cH.out); rintro e w7 ⟨rfl, hb⟩; refine ⟨_, rfl, ?_⟩; replace oD := cn oD hb; replace HB := eM HB hb; (try clear hb); have lX := fG oD; have lY := af oD.out 0) | ((with_reducible refine gate_callee (f := 41) rfl ?_); refine dU (some 8) Tryz.func41 #[.agg #[.slice bF an.length bl]] ?_; (with_reducible refine (bA.calls k _ _ an ads _ ?ah ?aj A4.out).mono ?_); (case ah => exact iZ bV HB); (case aj => exact cH.out); rintro e w9 ⟨aAH, rfl, b0, hb⟩; refine ⟨_, rfl, ?_⟩; have ajV := aa.mk (Kd.aW b0 (ag (bC HB))); replace oD := cn oD hb; replace HB := eM HB hb; (try clear hb); (try clear b0)))
   go_ret
   exact ⟨_, ig, b9 ajV.out, bC HB⟩
 replace c3 := Bool.eq_false_iff.mpr c3
 subst c3
 rw [if_neg (show ¬ (false = true) by decide)] at H
 obtain ⟨asi, QA⟩ : ∃ y_ : List Int, y_ = (([] : List Int)) := ⟨_, rfl⟩
 replace H : (some asi) = some r := by subst QA; exact H
 have Zn := aa.mk QA
 clear QA
 obtain rfl := Option.some.inj H
 go_enter Tryz.func79, Tryz.ntmps79
 go_wp2_with (first | ((with_reducible refine gate_dst (N := 1) rfl ?_); refine iP 1 #[.slice bF an.length bl] 26 ?_; intro ajS hg Ju hbox hb; have oD := aa.mk (hbox); have ajT := ij hg HB; have ajU := ij hg HB; replace HB := jL HB hb; clear hb hbox hg; have uK := fG oD; have uL := af oD.out 0) | ((with_reducible refine gate_callee (f := 45) rfl ?_); refine dU (some 4) Tryz.func45 #[.agg #[.slice bF an.length bl]] ?_; (with_reducible refine (aA.calls k _ _ an false _ ?ah ?aj A2.out).mono ?_); (case ah => exact iZ bV HB); (case aj => exact cH.out); rintro e w12 ⟨rfl, hb⟩; refine ⟨_, rfl, ?_⟩; replace oD := cn oD hb; replace HB := eM HB hb; (try clear hb)) | ((with_reducible refine gate_dst (N := 6) rfl ?_); refine Kd.iK (Kd.int .i64) _ 3 ?hg (N := 6) ?hd (xs := ([] : List Int)) (inner := []) (ok := fun _ => True) (okp := fun _ => True) ?hr ?hp (fun _ hk => hk) trivial (Below.refl _ _) (Nat.le_refl _) (by simp) ?_; (case hd => rfl); (case hg => rfl); (case hr => first | (go_simp; done) | (go_simp; rfl)); (case hp => exact (bE.none _ _)); intro aAI Eb zw hb hg_ hnew_; clear hg_ hnew_; (first | rw [← Zn.out] at zw | (simp only [Int.reduceToNat] at zw; rw [← Zn.out] at zw)); have ajW := aa.mk (Kd.aW zw (ag (bC HB))); replace oD := cn oD hb; replace HB := eM HB hb; clear hb zw))
 go_ret
 exact ⟨_, ig, b9 ajW.out, bC HB⟩
def dj.f (k : Nat) (an : List Int) : Option (Int) := (lB.f k an).bind fun qk => (if (qk.length : Int) = 0 then (some (-1)) else (if 0 ≤ (wrap64 ((qk.length : Int) - 1)) then (if (wrap64 ((qk.length : Int) - 1)) < (qk.length : Int) then (some (rd qk (wrap64 ((qk.length : Int) - 1)))) else (none)) else (none)))
theorem dj.calls (k : Nat) (bF : Option Addr) (bl : Nat) (an : List Int) (r : Int) (w : World) (eB : Kd.C (Kd.int .i64) w bF an.length an) (eC : an.length ≤ bl) (h : dj.f k an = some r) :
 Calls Tryz.prog 38 #[.agg #[.slice bF an.length bl]] w fun e w' => e = .returned (.int .i64 r) ∧ Below w.heap.size w w' := by
 have kJ := Tryz.underlying26
 have bV := aa.mk eB
 have cH := aa.mk eC
 clear eB eC
 have HB := aa.mk (Below.refl w.heap.size w)
 have H := h
 clear h
 unfold dj.f at H
 obtain ⟨qk, A2, H⟩ := eA H
 by_cases c3 : (qk.length : Int) = 0
 · rw [if_pos c3] at H
   have jD : ((qk.length : Int) == 0) = true := beq_iff_eq.mpr c3
   have ow : ((qk.length : Int) != 0) = false := bne_eq_false_iff_eq.mpr c3
   clear c3
   obtain rfl := Option.some.inj H
   go_enter Tryz.func38, Tryz.ntmps38
   go_wp2_with (first | ((with_reducible refine gate_dst (N := 1) rfl ?_); refine iP 1 #[.slice bF an.length bl] 26 ?_; intro ajX hg w4 hbox hb; have uM := aa.mk (hbox); have ajY := ij hg HB; have ajZ := ij hg HB; replace HB := jL HB hb; clear hb hbox hg; have CG := fG uM; have H0 := af uM.out 0) | ((with_reducible refine gate_callee (f := 79) rfl ?_); refine dU (some 5) Tryz.func79 #[.agg #[.slice bF an.length bl]] ?_; (with_reducible refine (lB.calls k _ _ an qk _ ?ah ?aj A2.out).mono ?_); (case ah => exact iZ bV HB); (case aj => exact cH.out); rintro e w6 ⟨asj, rfl, b0, hb⟩; refine ⟨_, rfl, ?_⟩; have J4 := aa.mk (Kd.aW b0 (ag (bC HB))); replace uM := cn uM hb; replace HB := eM HB hb; (try clear hb); (try clear b0); obtain ⟨AH, sP, Bo⟩ := Kd.aN J4.out; subst Bo))
   go_ret
   exact ⟨ig, bC HB⟩
 rw [if_neg c3] at H
 have jD : ((qk.length : Int) == 0) = false := beq_eq_false_iff_ne.mpr c3
 have ow : ((qk.length : Int) != 0) = true := bne_iff_ne.mpr c3
 have uw : ¬ (qk = []) := fun h_ => c3 (by rw [h_]; rfl)
 obtain ⟨oU, rW⟩ : ∃ j_ : Int, (wrap64 ((qk.length : Int) - 1)) = j_ := ⟨_, rfl⟩
 replace H : (if 0 ≤ (oU) then (if (oU) < (qk.length : Int) then (some (rd qk (oU))) else (none)) else (none)) = some r := by first | (rw [rW] at H; exact H) | (simp only [rW] at H ⊢; exact H)
 (try rw [rW] at A2)
 have Zo : (IntKind.i64.wrap ((qk.length : Int) - 1)) = oU := (b6 _).trans rW
 obtain ⟨uo, H⟩ := dB H
 obtain ⟨pW, H⟩ := dB H
 obtain rfl := Option.some.inj H
 go_enter Tryz.func38, Tryz.ntmps38
 go_wp2_with (first | ((with_reducible refine gate_dst (N := 1) rfl ?_); refine iP 1 #[.slice bF an.length bl] 26 ?_; intro ajX hg Bn hbox hb; have uM := aa.mk (hbox); have ajY := ij hg HB; have ajZ := ij hg HB; replace HB := jL HB hb; clear hb hbox hg; have nV := fG uM; have nW := af uM.out 0) | ((with_reducible refine gate_callee (f := 79) rfl ?_); refine dU (some 5) Tryz.func79 #[.agg #[.slice bF an.length bl]] ?_; (with_reducible refine (lB.calls k _ _ an qk _ ?ah ?aj A2.out).mono ?_); (case ah => exact iZ bV HB); (case aj => exact cH.out); rintro e Eb ⟨asj, rfl, b0, hb⟩; refine ⟨_, rfl, ?_⟩; have J4 := aa.mk (Kd.aW b0 (ag (bC HB))); replace uM := cn uM hb; replace HB := eM HB hb; (try clear hb); (try clear b0); obtain ⟨aj0, aj1, QB⟩ := Kd.aN J4.out; subst QB; have adt : 0 ≤ ((oU) : Int) := bO; have adu : (oU) < (qk.length : Int) := bO; obtain ⟨awL, asl, aoE⟩ := Kd.aZ (Kd.ao J4.out).2.2 (oU) adt adu; cases asl; replace adt := eq_true adt; replace adu := eq_true adu))
 go_ret
 exact ⟨by first | rfl | (simp [cD, cF] <;> rfl) | (simp only [← rW]; first | rfl | (simp [cD, cF] <;> rfl)) | (simp [*, cD, cF] <;> rfl), bC HB⟩
def eE.l0 : Nat → List Int → Int → Option (Bool)
 | 0, _, _ => none
 | k + 1, x0, x3 => if x3 < (x0.length : Int) then (if 0 ≤ x3 then ((fv.f (rd x0 x3) 1 199).bind fun adv => (if adv = true then (eE.l0 k x0 (wrap64 (x3 + 1))) else (some false))) else (none)) else ((bf.f k x0).bind fun adw => (some adw))
def eE.f (k : Nat) (l0 : List Int) : Option (Bool) := eE.l0 k l0 0
theorem eE.calls (k : Nat) (A0 : Option Addr) (c0 : Nat) (l0 : List Int) (r : Bool) (w : World) (fH : Kd.C (Kd.int .i64) w A0 l0.length l0) (gL : l0.length ≤ c0) (h : eE.f k l0 = some r) :
 Calls Tryz.prog 81 #[.slice A0 l0.length c0] w fun e w' => e = .returned (.bool r) ∧ av w w' := by
 have eZ := aa.mk fH
 have jN := aa.mk gL
 clear fH gL
 have H := h
 clear h
 unfold eE.f at H
 have H' := aa.mk H
 clear H
 go_enter Tryz.func81, Tryz.ntmps81
 go_wp2
 go_loopg [3] k (fun kq v3 w' => ∃ (bd : Int), v3 = .int .i64 bd ∧ aa (eE.l0 kq l0 bd = some r) ∧ aa (kq ≤ k) ∧ av w w')
 case atStart => exact ⟨(0), eF, H', ⟨Nat.le_refl _⟩, by repeat (first | exact av.refl _ | apply av.step)⟩
 case round =>
  clear H'
  obtain ⟨bd, rfl, HA, fu, ⟨m1, rfl⟩⟩ := hrel
  cases gk with
  | zero => exact absurd HA.out (by simp [eE.l0])
  | succ k1 =>
   have H := HA.out
   clear HA
   simp only [eE.l0] at H
   by_cases c2 : bd < (l0.length : Int)
   rotate_left
   · rw [if_neg c2] at H
     have tL : decide (bd < (l0.length : Int)) = false := decide_eq_false c2
     clear c2
     obtain ⟨adw, A6, H⟩ := eA H
     obtain rfl := Option.some.inj H
     go_wp2_with (first | ((with_reducible refine gate_callee (f := 92) rfl ?_); refine dU (some 17) Tryz.func92 #[.slice A0 l0.length c0] ?_; (with_reducible refine (bf.calls k1 _ _ l0 adw _ ?ah ?aj A6.out).mono ?_); (case ah => exact kx (eZ.out)); (case aj => exact jN.out); rintro e w' ⟨rfl, ⟨nd, rfl⟩⟩; refine ⟨_, rfl, ?_⟩))
     go_ret
     exact ⟨by first | rfl | (simp; done) | (simp [*]; done), by repeat (first | exact av.refl _ | apply av.step)⟩
   rw [if_pos c2] at H
   have tL : decide (bd < (l0.length : Int)) = true := decide_eq_true c2
   clear c2
   obtain ⟨jD, H⟩ := dB H
   obtain ⟨adv, A4, H⟩ := eA H
   by_cases c5 : adv = true
   rotate_left
   · replace c5 := Bool.eq_false_iff.mpr c5
     subst c5
     rw [if_neg (show ¬ (false = true) by decide)] at H
     obtain rfl := Option.some.inj H
     have H2 : 0 ≤ (bd : Int) := bO
     have H3 : bd < (l0.length : Int) := bO
     obtain ⟨aj2, adx, VD⟩ := Kd.aZ eZ.out bd H2 H3
     cases adx
     replace H2 := eq_true H2
     replace H3 := eq_true H3
     go_wp2_with (first | ((with_reducible refine gate_callee (f := 57) rfl ?_); refine dU (some 14) Tryz.func57 #[.int .i64 (rd l0 bd), .int .i64 1, .int .i64 199] ?_; (with_reducible refine (fv.calls (rd l0 bd) 1 199 false _ A4.out).mono ?_); rintro e w' ⟨rfl, ⟨nd, rfl⟩⟩; refine ⟨_, rfl, ?_⟩))
     go_ret
     exact ⟨by first | rfl | (simp; done) | (simp [*]; done), by repeat (first | exact av.refl _ | apply av.step)⟩
   subst c5
   rw [if_pos rfl] at H
   have H' := aa.mk H
   clear H
   have H2 : 0 ≤ (bd : Int) := bO
   have H3 : bd < (l0.length : Int) := bO
   obtain ⟨aj2, adx, VD⟩ := Kd.aZ eZ.out bd H2 H3
   cases adx
   replace H2 := eq_true H2
   replace H3 := eq_true H3
   go_wp2_with (first | ((with_reducible refine gate_callee (f := 57) rfl ?_); refine dU (some 14) Tryz.func57 #[.int .i64 (rd l0 bd), .int .i64 1, .int .i64 199] ?_; (with_reducible refine (fv.calls (rd l0 bd) 1 199 true _ A4.out).mono ?_); rintro e w' ⟨rfl, ⟨nd, rfl⟩⟩; refine ⟨_, rfl, ?_⟩))
   go_roundg k1
   case measure => have := fu.out; omega
   case rel => exact ⟨(wrap64 (bd + 1)), eF, H', ⟨by have := fu.out; omega⟩, by repeat (first | exact av.refl _ | apply av.step)⟩
mutual
def ay.j0 : Nat → List Int → Bool → Option (Int × Int × Bool)
 | 0, _, _ => none
 | k + 1, x0, Jp => if Jp = true then (some (0, 0, false)) else (if 0 ≤ (wrap64 ((x0.length : Int) - 1)) then (if (wrap64 ((x0.length : Int) - 1)) < (x0.length : Int) then (if 0 ≤ (wrap64 ((wrap64 (2 * (rd x0 (wrap64 ((x0.length : Int) - 1))))) + 1)) then (if (wrap64 ((wrap64 (2 * (rd x0 (wrap64 ((x0.length : Int) - 1))))) + 1) : Int).toNat ≤ 281474976710656 then (ay.l0 k x0 (rd x0 (wrap64 ((x0.length : Int) - 1))) (List.replicate (wrap64 ((wrap64 (2 * (rd x0 (wrap64 ((x0.length : Int) - 1))))) + 1) : Int).toNat false) 0) else (none)) else (none)) else (none)) else (none))
def ay.l0 : Nat → List Int → Int → List Bool → Int → Option (Int × Int × Bool)
 | 0, _, _, _, _ => none
 | k + 1, x0, x4, x5, x6 => if x6 < (x0.length : Int) then (if 0 ≤ x6 then (if 0 ≤ (rd x0 x6) then (if (rd x0 x6) < (x5.length : Int) then (ay.l0 k x0 x4 (x5.set ((rd x0 x6) : Int).toNat true) (wrap64 (x6 + 1))) else (none)) else (none)) else (none)) else (ay.l1 k x4 x5 1)
def ay.l1 : Nat → Int → List Bool → Int → Option (Int × Int × Bool)
 | 0, _, _, _ => none
 | k + 1, x4, x5, x7 => if x7 ≤ x4 then (ay.l2 k x4 x5 x7 x7) else (some (0, 0, false))
def ay.l2 : Nat → Int → List Bool → Int → Int → Option (Int × Int × Bool)
 | 0, _, _, _, _ => none
 | k + 1, x4, x5, x7, x8 => if (wrap64 (x7 + x8)) ≤ x4 then (if 0 ≤ x7 then (if x7 < (x5.length : Int) then (ay.j4 k x4 x5 x7 x8 (!(e6 false x5 x7))) else (none)) else (none)) else (ay.j4 k x4 x5 x7 x8 false)
def ay.j4 : Nat → Int → List Bool → Int → Int → Bool → Option (Int × Int × Bool)
 | 0, _, _, _, _, _ => none
 | k + 1, x4, x5, x7, x8, x57 => if x57 = true then (if 0 ≤ x8 then (if x8 < (x5.length : Int) then (if e6 false x5 x8 = true then (ay.l2 k x4 x5 x7 (wrap64 (x8 + 1))) else (if 0 ≤ (wrap64 (x7 + x8)) then (if (wrap64 (x7 + x8)) < (x5.length : Int) then (if e6 false x5 (wrap64 (x7 + x8)) = true then (some (x7, x8, true)) else (ay.l2 k x4 x5 x7 (wrap64 (x8 + 1)))) else (none)) else (none))) else (none)) else (none)) else (ay.l1 k x4 x5 (wrap64 (x7 + 1)))
end
def ay.f (k : Nat) (l0 : List Int) : Option (Int × Int × Bool) := (eE.f k l0).bind fun ady => (if ady = true then (ay.j0 k l0 ((l0.length : Int) == 0)) else (ay.j0 k l0 true))
theorem ay.calls (k : Nat) (A0 : Option Addr) (c0 : Nat) (l0 : List Int) (r1 : Int) (r2 : Int) (r3 : Bool) (w : World) (fH : Kd.C (Kd.int .i64) w A0 l0.length l0) (gL : l0.length ≤ c0) (h : ay.f k l0 = some (r1, r2, r3)) :
 Calls Tryz.prog 80 #[.slice A0 l0.length c0] w fun e w' => e = .returned (.tuple #[.agg #[.int .i64 r1, .int .i64 r2], .bool r3]) ∧ Below w.heap.size w w' := by
 have acU := Tryz.underlying69
 have eZ := aa.mk fH
 have jN := aa.mk gL
 clear fH gL
 have HB := aa.mk (Below.refl w.heap.size w)
 have H := h
 clear h
 unfold ay.f at H
 have N9 := aa.mk H
 clear H
 go_enter Tryz.func80, Tryz.ntmps80
 go_upto_region 1 with (first | ((with_reducible refine gate_dst (N := 2) rfl ?_); (try (refine gate_guard (by rfl) ?_; dsimp only)); refine iP 2 #[.int .i64 0, .int .i64 0] 69 ?_; intro pc hg w3 hbox hb; have il := aa.mk (hbox); have awM := ij hg HB; have awN := ij hg HB; replace HB := jL HB hb; clear hb hbox hg))
 (try simp only [Act.put, jK, jA, jB])
 go_cut [16] (fun v16 wc => ∃ (kq : Nat) (oE : Bool), v16 = .bool oE ∧ aa (ay.j0 kq l0 oE = some (r1, r2, r3)) ∧ aa (kq ≤ k) ∧ aa (wc.heap[pc]? = some (.cells #[.int .i64 0, .int .i64 0] 69 (0, 0))) ∧ aa (Below w.heap.size w wc))
 case first =>
  have H := N9.out
  clear N9
  obtain ⟨ady, A4, H⟩ := eA H
  by_cases c5 : ady = true
  · subst c5
    rw [if_pos rfl] at H
    have H' := aa.mk H
    clear H
    go_wp2_with (first | ((with_reducible refine gate_callee (f := 81) rfl ?_); refine dU (some 10) Tryz.func81 #[.slice A0 l0.length c0] ?_; (with_reducible refine (eE.calls k _ _ l0 true _ ?ah ?aj A4.out).mono ?_); (case ah => exact iZ eZ HB); (case aj => exact jN.out); rintro e w' ⟨rfl, ⟨nd, rfl⟩⟩; refine ⟨_, rfl, ?_⟩))
    go_meet
    case rel => exact ⟨_, (((l0.length : Int) == 0)), eF, H', ⟨by first | omega | exact Nat.le_refl _⟩, ⟨cC il.out⟩, ⟨bC HB⟩⟩
  replace c5 := Bool.eq_false_iff.mpr c5
  subst c5
  rw [if_neg (show ¬ (false = true) by decide)] at H
  have H' := aa.mk H
  clear H
  go_wp2_with (first | ((with_reducible refine gate_callee (f := 81) rfl ?_); refine dU (some 10) Tryz.func81 #[.slice A0 l0.length c0] ?_; (with_reducible refine (eE.calls k _ _ l0 false _ ?ah ?aj A4.out).mono ?_); (case ah => exact iZ eZ HB); (case aj => exact jN.out); rintro e w' ⟨rfl, ⟨nd, rfl⟩⟩; refine ⟨_, rfl, ?_⟩))
  go_meet
  case rel => exact ⟨_, (true), eF, H', ⟨by first | omega | exact Nat.le_refl _⟩, ⟨cC il.out⟩, ⟨bC HB⟩⟩
 case rest =>
  clear N9
  obtain ⟨kq, oE, rfl, HA, wL, il, HB⟩ := hcut
  cases kq with
  | zero => exact absurd HA.out (by simp [ay.j0])
  | succ Nb =>
   have H := HA.out
   clear HA
   simp only [ay.j0] at H
   by_cases c6 : oE = true
   · subst c6
     rw [if_pos rfl] at H
     simp only [Option.some.injEq, Prod.mk.injEq] at H
     obtain ⟨rfl, rfl, rfl⟩ := H
     have CX : wc.cell? ⟨pc, 0, none⟩ = some (.int .i64 0) := (aH il.out 0).trans rfl
     have acV : wc.cell? ⟨pc, 1, none⟩ = some (.int .i64 0) := (aH il.out 1).trans rfl
     have CY := af il.out 0
     have acW := af il.out 1
     go_wp2
     refine bodyPost_ret (ee rfl _ _ pc 69 #[.int .i64 0, .int .i64 0] (0, 0) _ rfl (by (with_reducible repeat (first | refine dI ?_ _ | refine bg ?_ | refine du ?_ _)); refine gj (cs := #[.int .i64 0, .int .i64 0]) ?_ 1 _ rfl; (with_reducible repeat (first | refine dI ?_ _ | refine bg ?_ | refine du ?_ _)); refine gj (cs := #[.int .i64 0, .int .i64 0]) ?_ 0 _ rfl; (with_reducible repeat (first | refine dI ?_ _ | refine bg ?_ | refine du ?_ _)); exact il.out) Tryz.underlying69 rfl (by kernel_rfl)) rfl ?_
     exact ⟨ig, bC HB⟩
   replace c6 := Bool.eq_false_iff.mpr c6
   subst c6
   rw [if_neg (show ¬ (false = true) by decide)] at H
   obtain ⟨oU, rW⟩ : ∃ j_ : Int, (wrap64 ((l0.length : Int) - 1)) = j_ := ⟨_, rfl⟩
   replace H : (if 0 ≤ (oU) then (if (oU) < (l0.length : Int) then (if 0 ≤ (wrap64 ((wrap64 (2 * (rd l0 (oU)))) + 1)) then (if (wrap64 ((wrap64 (2 * (rd l0 (oU)))) + 1) : Int).toNat ≤ 281474976710656 then (ay.l0 Nb l0 (rd l0 (oU)) (List.replicate (wrap64 ((wrap64 (2 * (rd l0 (oU)))) + 1) : Int).toNat false) 0) else (none)) else (none)) else (none)) else (none)) = some (r1, r2, r3) := by first | (rw [rW] at H; exact H) | (simp only [rW] at H ⊢; exact H)
   have Zo : (IntKind.i64.wrap ((l0.length : Int) - 1)) = oU := (b6 _).trans rW
   obtain ⟨uo, H⟩ := dB H
   obtain ⟨pW, H⟩ := dB H
   obtain ⟨oT, rV⟩ : ∃ j_ : Int, (wrap64 ((wrap64 (2 * (rd l0 (oU)))) + 1)) = j_ := ⟨_, rfl⟩
   replace H : (if 0 ≤ (oT) then (if (oT : Int).toNat ≤ 281474976710656 then (ay.l0 Nb l0 (rd l0 (oU)) (List.replicate (oT : Int).toNat false) 0) else (none)) else (none)) = some (r1, r2, r3) := by first | (rw [rV] at H; exact H) | (simp only [rV] at H ⊢; exact H)
   have adl : (IntKind.i64.wrap ((wrap64 (2 * (rd l0 (oU)))) + 1)) = oT := (b6 _).trans rV
   obtain ⟨pK, H⟩ := kG H
   have o6 := eq_true pK
   have OD : decide (0 ≤ (oT)) = true := decide_eq_true pK
   clear pK
   obtain ⟨mY, H⟩ := kG H
   have lS := eq_true mY
   have EE : decide ((oT : Int).toNat ≤ 281474976710656) = true := decide_eq_true mY
   clear mY
   obtain ⟨aj3, QC⟩ : ∃ y_ : List Bool, y_ = (List.replicate (oT : Int).toNat false) := ⟨_, rfl⟩
   replace H : (ay.l0 Nb l0 (rd l0 (oU)) aj3 0) = some (r1, r2, r3) := by subst QC; exact H
   have Zp := aa.mk QC
   clear QC
   have H' := aa.mk H
   clear H
   have VE : 0 ≤ ((oU) : Int) := bO
   have VF : (oU) < (l0.length : Int) := bO
   obtain ⟨aj4, asn, yf⟩ := Kd.aZ eZ.out (oU) VE VF
   cases asn
   (try replace yf := (HB.out.cell (World.block_lt_of_cell? w _ yf)).trans yf)
   replace VE := eq_true VE
   replace VF := eq_true VF
   go_wp2_with (first | ((with_reducible refine gate_dst (N := 27) rfl ?_); (try (refine gate_guard (by rfl) ?_; dsimp only)); refine Kd.vG Kd.bool _ 4 rfl (N := 27) rfl 66 _ _ rfl oT rfl rfl Tryz.underlying66 (.bool false) 1 D9 rfl (by decide) (by omega) false (ok := fun _ => True) (okp := fun _ => True) rfl (fun _ hk => hk) trivial (bO) (Nat.le_trans (Nat.mul_le_mul_right _ (bO : oT.toNat ≤ 281474976710656)) (by omega)) (Below.refl _ _) (Nat.le_refl _) ?_; intro VH TI QD hb hg_ hnew_; clear hg_ hnew_; (first | rw [← Zp.out] at QD | (simp only [Int.reduceToNat] at QD; rw [← Zp.out] at QD)); have aj5 := aa.mk (Kd.aW QD (ag (bC HB))); replace il := cn il hb; replace HB := eM HB hb; clear hb QD))
   go_loopg [6] Nb (fun kq v6 w' => ∃ (cR : List Bool) (fT : Int), v6 = .int .i64 fT ∧ aa (ay.l0 kq l0 (rd l0 (oU)) cR fT = some (r1, r2, r3)) ∧ aa (kq ≤ Nb) ∧ aa (Kd.R Kd.bool 4 w' w.heap.size (fun _ => True) VH cR) ∧ aa (w'.heap[pc]? = some (.cells #[.int .i64 0, .int .i64 0] 69 (0, 0))) ∧ aa (Below w.heap.size w w'))
   case atStart => exact ⟨(aj3), (0), eF, H', ⟨Nat.le_refl _⟩, ⟨b9 aj5.out⟩, ⟨cC il.out⟩, ⟨bC HB⟩⟩
   case round =>
    clear H'
    try clear uo
    try clear pW
    try clear o6
    try clear OD
    try clear lS
    try clear EE
    try clear yf
    try clear VE
    try clear VF
    obtain ⟨cR, fT, rfl, HA, jo, cr, il, HB⟩ := hrel
    cases gk with
    | zero => exact absurd HA.out (by simp [ay.l0])
    | succ k2 =>
     have H := HA.out
     clear HA
     simp only [ay.l0] at H
     by_cases rI : fT < (l0.length : Int)
     · rw [if_pos rI] at H
       have yX : decide (fT < (l0.length : Int)) = true := decide_eq_true rI
       clear rI
       obtain ⟨oA, H⟩ := dB H
       obtain ⟨za, H⟩ := dB H
       obtain ⟨pY, H⟩ := dB H
       obtain ⟨adz, QE⟩ : ∃ y_ : List Bool, y_ = (cR.set ((rd l0 fT) : Int).toNat true) := ⟨_, rfl⟩
       replace H : (ay.l0 k2 l0 (rd l0 (oU)) adz (wrap64 (fT + 1))) = some (r1, r2, r3) := by subst QE; exact H
       have aj6 := aa.mk QE
       clear QE
       have H' := aa.mk H
       clear H
       have adA : 0 ≤ (fT : Int) := bO
       have adB : fT < (l0.length : Int) := bO
       obtain ⟨aj7, aso, C4⟩ := Kd.aZ eZ.out fT adA adB
       obtain rfl : aj4 = aj7 := (by injection aso)
       (try replace C4 := (HB.out.cell (World.block_lt_of_cell? w _ C4)).trans C4)
       replace adA := eq_true adA
       replace adB := eq_true adB
       have p20 : 0 ≤ ((rd l0 fT) : Int) := bO
       have q20 : ((rd l0 fT) : Int) < ((cR.length : Int) : Int) := bO
       obtain ⟨adC, pN, AZ, aj8, asr, aAK, aj9⟩ := Kd.ry cr.out (by omega)
       (first | cases AZ | (injection AZ with ea_ en_ ec_; (first | subst ea_ | (injection ea_ with ea_; subst ea_)); subst ec_; clear en_))
       have ass := aa.mk aj8
       have aAL := aa.mk aj9
       clear aj8 asr aj9
       obtain ⟨ast, asu⟩ := Kd.lK false cr.out ((rd l0 fT) : Int) p20 q20
       replace p20 := eq_true p20
       replace q20 := eq_true q20
       have adD := Kd.pz cr.out ((rd l0 fT) : Int) true
       go_wp2_with (first | ((with_reducible refine gate_store (t := 4) (p := 39) rfl ?_); refine fw (t := 4) (p := 39) (v := ?asv) (w1 := (wr.setCell ⟨adC, ((rd l0 fT) : Int).toNat, none⟩ (.bool true))) ?hg ?ho ?hn ?hr ?_; (case ho => rfl); (case hg => rfl); (case hn => rfl); (case hr => first | (go_simp; done) | (go_simp; rfl)); intro DT hw; have hg : wr.grownBy DT (some adC) := (by rw [hw]; exact adD.2); have hp_ : Kd.R Kd.bool 4 DT w.heap.size (fun _ => True) (.slice (some ⟨adC, 0, none⟩) cR.length pN) adz := (by rw [hw, aj6.out]; exact adD.1); clear adD; replace il := aa.mk (cS (cC il.out) hg (Kd.nR cr.out il.out (by decide))); replace cr := aa.mk (hp_); replace HB := aa.mk ((by rw [hw]; exact hP (HB.out) ass.out : Below w.heap.size w DT)); clear hg hw hp_))
       go_roundg k2
       case measure => have := wL.out; have := jo.out; omega
       case rel => exact ⟨(adz), (wrap64 (fT + 1)), eF, H', ⟨by have := wL.out; have := jo.out; omega⟩, ⟨b9 cr.out⟩, ⟨cC il.out⟩, ⟨bC HB⟩⟩
     rw [if_neg rI] at H
     have yX : decide (fT < (l0.length : Int)) = false := decide_eq_false rI
     clear rI
     have H' := aa.mk H
     clear H
     go_wp2
     go_loopg [7] k2 (fun kq v7 w' => ∃ (jk : Int) (ql : Int) (ob : Int), v7 = .int .i64 jk ∧ aa (ay.l1 kq (rd l0 (oU)) cR jk = some (r1, r2, r3)) ∧ aa (kq ≤ k2) ∧ aa (Kd.R Kd.bool 4 w' w.heap.size (fun _ => True) VH cR) ∧ aa (w'.heap[pc]? = some (.cells #[.int .i64 ql, .int .i64 ob] 69 (0, 0))) ∧ aa (Below w.heap.size w w'))
     case atStart => exact ⟨(1), (0), (0), eF, H', ⟨Nat.le_refl _⟩, ⟨b9 cr.out⟩, ⟨cC il.out⟩, ⟨bC HB⟩⟩
     case round =>
      clear H'
      try clear yX
      obtain ⟨jk, ql, ob, rfl, HA, lp, cr, il, HB⟩ := hrel
      cases gk with
      | zero => exact absurd HA.out (by simp [ay.l1])
      | succ k3 =>
       have H := HA.out
       clear HA
       simp only [ay.l1] at H
       by_cases q9 : jk ≤ (rd l0 (oU))
       rotate_left
       · rw [if_neg q9] at H
         have ra : decide (jk ≤ (rd l0 (oU))) = false := decide_eq_false q9
         clear q9
         simp only [Option.some.injEq, Prod.mk.injEq] at H
         obtain ⟨rfl, rfl, rfl⟩ := H
         have U6 : wr.cell? ⟨pc, 0, none⟩ = some (.int .i64 ql) := (aH il.out 0).trans rfl
         have aoF : wr.cell? ⟨pc, 1, none⟩ = some (.int .i64 ob) := (aH il.out 1).trans rfl
         have U7 := af il.out 0
         have aoG := af il.out 1
         go_wp2
         refine bodyPost_ret (ee rfl _ _ pc 69 #[.int .i64 0, .int .i64 0] (0, 0) _ rfl (by (with_reducible repeat (first | refine dI ?_ _ | refine bg ?_ | refine du ?_ _)); refine gj (cs := #[.int .i64 0, .int .i64 ob]) ?_ 1 _ rfl; (with_reducible repeat (first | refine dI ?_ _ | refine bg ?_ | refine du ?_ _)); refine gj (cs := #[.int .i64 ql, .int .i64 ob]) ?_ 0 _ rfl; (with_reducible repeat (first | refine dI ?_ _ | refine bg ?_ | refine du ?_ _)); exact il.out) Tryz.underlying69 rfl (by kernel_rfl)) rfl ?_
         exact ⟨by first | rfl | (simp [cD, cF] <;> rfl) | (simp only [← rW, ← rV]; first | rfl | (simp [cD, cF] <;> rfl)) | (simp [*, cD, cF] <;> rfl), bC HB⟩
       rw [if_pos q9] at H
       have ra : decide (jk ≤ (rd l0 (oU))) = true := decide_eq_true q9
       clear q9
       have H' := aa.mk H
       clear H
       go_wp2
       go_loopg [8] k3 (fun kq v8 w' => ∃ (kZ : Int) (lC : Int) (kP : Int), v8 = .int .i64 kZ ∧ aa (ay.l2 kq (rd l0 (oU)) cR jk kZ = some (r1, r2, r3)) ∧ aa (kq ≤ k3) ∧ aa (Kd.R Kd.bool 4 w' w.heap.size (fun _ => True) VH cR) ∧ aa (w'.heap[pc]? = some (.cells #[.int .i64 lC, .int .i64 kP] 69 (0, 0))) ∧ aa (Below w.heap.size w w'))
       case atStart => exact ⟨(jk), (ql), (ob), eF, H', ⟨Nat.le_refl _⟩, ⟨b9 cr.out⟩, ⟨cC il.out⟩, ⟨bC HB⟩⟩
       case round =>
        clear H'
        try clear ra
        obtain ⟨kZ, lC, kP, rfl, HA, qx, cr, il, HB⟩ := hrel
        cases gk with
        | zero => exact absurd HA.out (by simp [ay.l2])
        | succ k4 =>
         have H := HA.out
         clear HA
         simp only [ay.l2] at H
         have adE := aa.mk H
         clear H
         go_upto_region 13 with (fail)
         go_cut [57] (fun v57 wc => ∃ (kq : Nat) (C5 : Bool), v57 = .bool C5 ∧ aa (ay.j4 kq (rd l0 (oU)) cR jk kZ C5 = some (r1, r2, r3)) ∧ aa (kq ≤ k4) ∧ aa (Kd.R Kd.bool 4 wc w.heap.size (fun _ => True) VH cR) ∧ aa (wc.heap[pc]? = some (.cells #[.int .i64 lC, .int .i64 kP] 69 (0, 0))) ∧ aa (Below w.heap.size w wc))
         case first =>
          have H := adE.out
          clear adE
          by_cases Cy : (wrap64 (jk + kZ)) ≤ (rd l0 (oU))
          rotate_left
          · rw [if_neg Cy] at H
            have rF : decide ((wrap64 (jk + kZ)) ≤ (rd l0 (oU))) = false := decide_eq_false Cy
            clear Cy
            (first | rw [rF] | (simp only [b6, dw]; rw [rF]) | skip)
            have H' := aa.mk H
            clear H
            go_wp2
            go_meet
            case rel => exact ⟨_, (false), eF, H', ⟨by have := wL.out; have := jo.out; have := lp.out; have := qx.out; first | omega | exact Nat.le_refl _⟩, ⟨b9 cr.out⟩, ⟨cC il.out⟩, ⟨bC HB⟩⟩
          rw [if_pos Cy] at H
          have rF : decide ((wrap64 (jk + kZ)) ≤ (rd l0 (oU))) = true := decide_eq_true Cy
          clear Cy
          (first | rw [rF] | (simp only [b6, dw]; rw [rF]) | skip)
          obtain ⟨Ef, H⟩ := dB H
          obtain ⟨BB, H⟩ := dB H
          have H' := aa.mk H
          clear H
          obtain ⟨Uw, Ux, GZ⟩ := Kd.aN cr.out
          subst GZ
          have adF : 0 ≤ (jk : Int) := bO
          have adG : jk < (cR.length : Int) := bO
          obtain ⟨awO, asw, aoH⟩ := Kd.fc (Kd.ao cr.out).2.2 jk adF adG
          cases asw
          replace adF := eq_true adF
          replace adG := eq_true adG
          go_wp2
          go_meet
          case rel => exact ⟨_, (!(e6 false cR jk)), eF, H', ⟨by have := wL.out; have := jo.out; have := lp.out; have := qx.out; first | omega | exact Nat.le_refl _⟩, ⟨b9 cr.out⟩, ⟨cC il.out⟩, ⟨bC HB⟩⟩
         case rest =>
          clear adE
          obtain ⟨kq, C5, rfl, HA, Mk, cr, il, HB⟩ := hcut
          cases kq with
          | zero => exact absurd HA.out (by simp [ay.j4])
          | succ H4 =>
           have H := HA.out
           clear HA
           simp only [ay.j4] at H
           by_cases wK : C5 = true
           rotate_left
           · replace wK := Bool.eq_false_iff.mpr wK
             subst wK
             rw [if_neg (show ¬ (false = true) by decide)] at H
             have H' := aa.mk H
             clear H
             go_wp2
             go_roundg H4
             case measure => have := wL.out; have := jo.out; have := lp.out; have := qx.out; have := Mk.out; omega
             case rel => exact ⟨(wrap64 (jk + 1)), (lC), (kP), eF, H', ⟨by have := wL.out; have := jo.out; have := lp.out; have := qx.out; have := Mk.out; omega⟩, ⟨b9 cr.out⟩, ⟨cC il.out⟩, ⟨bC HB⟩⟩
           subst wK
           rw [if_pos rfl] at H
           obtain ⟨Bq, H⟩ := dB H
           obtain ⟨agH, H⟩ := dB H
           obtain ⟨aj_, QF⟩ : ∃ b_ : Bool, b_ = (e6 false cR kZ) := ⟨_, rfl⟩
           replace H : (if aj_ = true then (ay.l2 H4 (rd l0 (oU)) cR jk (wrap64 (kZ + 1))) else (if 0 ≤ (wrap64 (jk + kZ)) then (if (wrap64 (jk + kZ)) < (cR.length : Int) then (if e6 false cR (wrap64 (jk + kZ)) = true then (some (jk, kZ, true)) else (ay.l2 H4 (rd l0 (oU)) cR jk (wrap64 (kZ + 1)))) else (none)) else (none))) = some (r1, r2, r3) := by rw [← QF] at H; exact H
           have ET := aa.mk QF
           clear QF
           by_cases CB : aj_ = true
           · subst CB
             rw [if_pos rfl] at H
             have H' := aa.mk H
             clear H
             obtain ⟨aka, akb, adH⟩ := Kd.aN cr.out
             subst adH
             have zI : 0 ≤ (kZ : Int) := bO
             have zJ : kZ < (cR.length : Int) := bO
             obtain ⟨J5, QG, qT⟩ := Kd.fc (Kd.ao cr.out).2.2 kZ zI zJ
             (try rw [← ET.out] at qT)
             cases QG
             replace zI := eq_true zI
             replace zJ := eq_true zJ
             go_wp2
             go_roundg H4
             case measure => have := wL.out; have := jo.out; have := lp.out; have := qx.out; have := Mk.out; omega
             case rel => exact ⟨(wrap64 (kZ + 1)), (lC), (kP), eF, H', ⟨by have := wL.out; have := jo.out; have := lp.out; have := qx.out; have := Mk.out; omega⟩, ⟨b9 cr.out⟩, ⟨cC il.out⟩, ⟨bC HB⟩⟩
           replace CB := Bool.eq_false_iff.mpr CB
           subst CB
           rw [if_neg (show ¬ (false = true) by decide)] at H
           obtain ⟨zK, J6⟩ : ∃ j_ : Int, (wrap64 (jk + kZ)) = j_ := ⟨_, rfl⟩
           replace H : (if 0 ≤ (zK) then (if (zK) < (cR.length : Int) then (if e6 false cR (zK) = true then (some (jk, kZ, true)) else (ay.l2 H4 (rd l0 (oU)) cR jk (wrap64 (kZ + 1)))) else (none)) else (none)) = some (r1, r2, r3) := by first | (rw [J6] at H; exact H) | (simp only [J6] at H ⊢; exact H)
           have asx : (IntKind.i64.wrap (jk + kZ)) = zK := (b6 _).trans J6
           obtain ⟨ai7, H⟩ := dB H
           obtain ⟨ahm, H⟩ := dB H
           obtain ⟨akc, QH⟩ : ∃ b_ : Bool, b_ = (e6 false cR (zK)) := ⟨_, rfl⟩
           replace H : (if akc = true then (some (jk, kZ, true)) else (ay.l2 H4 (rd l0 (oU)) cR jk (wrap64 (kZ + 1)))) = some (r1, r2, r3) := by rw [← QH] at H; exact H
           have J7 := aa.mk QH
           clear QH
           by_cases c39 : akc = true
           rotate_left
           · replace c39 := Bool.eq_false_iff.mpr c39
             subst c39
             rw [if_neg (show ¬ (false = true) by decide)] at H
             have H' := aa.mk H
             clear H
             obtain ⟨aAN, aAO, asy⟩ := Kd.aN cr.out
             subst asy
             have zI : 0 ≤ (kZ : Int) := bO
             have zJ : kZ < (cR.length : Int) := bO
             obtain ⟨J5, QG, qT⟩ := Kd.fc (Kd.ao cr.out).2.2 kZ zI zJ
             (try rw [← ET.out] at qT)
             (try rw [← J7.out] at qT)
             cases QG
             replace zI := eq_true zI
             replace zJ := eq_true zJ
             have H5 : 0 ≤ ((zK) : Int) := bO
             have H6 : (zK) < (cR.length : Int) := bO
             obtain ⟨QI, adI, uN⟩ := Kd.fc (Kd.ao cr.out).2.2 (zK) H5 H6
             (try rw [← ET.out] at uN)
             (try rw [← J7.out] at uN)
             obtain rfl : J5 = QI := (by injection adI)
             replace H5 := eq_true H5
             replace H6 := eq_true H6
             go_wp2
             go_roundg H4
             case measure => have := wL.out; have := jo.out; have := lp.out; have := qx.out; have := Mk.out; omega
             case rel => exact ⟨(wrap64 (kZ + 1)), (lC), (kP), eF, H', ⟨by have := wL.out; have := jo.out; have := lp.out; have := qx.out; have := Mk.out; omega⟩, ⟨b9 cr.out⟩, ⟨cC il.out⟩, ⟨bC HB⟩⟩
           subst c39
           rw [if_pos rfl] at H
           simp only [Option.some.injEq, Prod.mk.injEq] at H
           obtain ⟨rfl, rfl, rfl⟩ := H
           obtain ⟨U4, U5, acA⟩ := Kd.aN cr.out
           subst acA
           have zI : 0 ≤ (kZ : Int) := bO
           have zJ : kZ < (cR.length : Int) := bO
           obtain ⟨J5, QG, qT⟩ := Kd.fc (Kd.ao cr.out).2.2 kZ zI zJ
           (try rw [← ET.out] at qT)
           (try rw [← J7.out] at qT)
           cases QG
           replace zI := eq_true zI
           replace zJ := eq_true zJ
           have H5 : 0 ≤ ((zK) : Int) := bO
           have H6 : (zK) < (cR.length : Int) := bO
           obtain ⟨QI, adI, uN⟩ := Kd.fc (Kd.ao cr.out).2.2 (zK) H5 H6
           (try rw [← ET.out] at uN)
           (try rw [← J7.out] at uN)
           obtain rfl : J5 = QI := (by injection adI)
           replace H5 := eq_true H5
           replace H6 := eq_true H6
           have C6 : wc.cell? ⟨pc, 0, none⟩ = some (.int .i64 lC) := (aH il.out 0).trans rfl
           have aoJ : wc.cell? ⟨pc, 1, none⟩ = some (.int .i64 kP) := (aH il.out 1).trans rfl
           have C7 := af il.out 0
           have aoK := af il.out 1
           go_wp2
           refine bodyPost_ret (ee rfl _ _ pc 69 #[.int .i64 jk, .int .i64 kZ] (0, 0) _ rfl (by (with_reducible repeat (first | refine dI ?_ _ | refine bg ?_ | refine du ?_ _)); refine gj (cs := #[.int .i64 jk, .int .i64 kP]) ?_ 1 _ rfl; (with_reducible repeat (first | refine dI ?_ _ | refine bg ?_ | refine du ?_ _)); refine gj (cs := #[.int .i64 lC, .int .i64 kP]) ?_ 0 _ rfl; (with_reducible repeat (first | refine dI ?_ _ | refine bg ?_ | refine du ?_ _)); exact il.out) Tryz.underlying69 rfl (by kernel_rfl)) rfl ?_
           exact ⟨by first | rfl | (simp [cD, cF] <;> rfl) | (simp only [← rW, ← rV, ← J6]; first | rfl | (simp [cD, cF] <;> rfl)) | (simp [*, cD, cF] <;> rfl), bC HB⟩
def cW.l0 : Nat → List Int → Int → Int → Option (Bool)
 | 0, _, _, _ => none
 | k + 1, x0, x1, x5 => if x5 < (x0.length : Int) then (if 0 ≤ x5 then (if (rd x0 x5) = x1 then (some true) else (cW.l0 k x0 x1 (wrap64 (x5 + 1)))) else (none)) else (some false)
def cW.f (k : Nat) (l0 : List Int) (a1 : Int) : Option (Bool) := cW.l0 k l0 a1 0
theorem cW.calls (k : Nat) (A0 : Option Addr) (c0 : Nat) (l0 : List Int) (a1 : Int) (r : Bool) (w : World) (fH : Kd.C (Kd.int .i64) w A0 l0.length l0) (gL : l0.length ≤ c0) (h : cW.f k l0 a1 = some r) :
 Calls Tryz.prog 82 #[.slice A0 l0.length c0, .int .i64 a1] w fun e w' => e = .returned (.bool r) ∧ av w w' := by
 have eZ := aa.mk fH
 have jN := aa.mk gL
 clear fH gL
 have H := h
 clear h
 unfold cW.f at H
 have H' := aa.mk H
 clear H
 go_enter Tryz.func82, Tryz.ntmps82
 go_wp2
 go_loopg [5] k (fun kq v5 w' => ∃ (aJ : Int), v5 = .int .i64 aJ ∧ aa (cW.l0 kq l0 a1 aJ = some r) ∧ aa (kq ≤ k) ∧ av w w')
 case atStart => exact ⟨(0), eF, H', ⟨Nat.le_refl _⟩, by repeat (first | exact av.refl _ | apply av.step)⟩
 case round =>
  clear H'
  obtain ⟨aJ, rfl, HA, fu, ⟨m1, rfl⟩⟩ := hrel
  cases gk with
  | zero => exact absurd HA.out (by simp [cW.l0])
  | succ k1 =>
   have H := HA.out
   clear HA
   simp only [cW.l0] at H
   by_cases c3 : aJ < (l0.length : Int)
   rotate_left
   · rw [if_neg c3] at H
     have jD : decide (aJ < (l0.length : Int)) = false := decide_eq_false c3
     clear c3
     obtain rfl := Option.some.inj H
     go_wp2
     go_ret
     exact ⟨by first | rfl | (simp; done) | (simp [*]; done), by repeat (first | exact av.refl _ | apply av.step)⟩
   rw [if_pos c3] at H
   have jD : decide (aJ < (l0.length : Int)) = true := decide_eq_true c3
   clear c3
   obtain ⟨kI, H⟩ := dB H
   by_cases c5 : (rd l0 aJ) = a1
   · rw [if_pos c5] at H
     have qJ : ((rd l0 aJ) == a1) = true := beq_iff_eq.mpr c5
     have Ow : ((rd l0 aJ) != a1) = false := bne_eq_false_iff_eq.mpr c5
     clear c5
     obtain rfl := Option.some.inj H
     have H7 : 0 ≤ (aJ : Int) := bO
     have H8 : aJ < (l0.length : Int) := bO
     obtain ⟨akd, adJ, VI⟩ := Kd.aZ eZ.out aJ H7 H8
     cases adJ
     replace H7 := eq_true H7
     replace H8 := eq_true H8
     go_wp2
     go_ret
     exact ⟨by first | rfl | (simp; done) | (simp [*]; done), by repeat (first | exact av.refl _ | apply av.step)⟩
   rw [if_neg c5] at H
   have qJ : ((rd l0 aJ) == a1) = false := beq_eq_false_iff_ne.mpr c5
   have Ow : ((rd l0 aJ) != a1) = true := bne_iff_ne.mpr c5
   have H' := aa.mk H
   clear H
   have H7 : 0 ≤ (aJ : Int) := bO
   have H8 : aJ < (l0.length : Int) := bO
   obtain ⟨akd, adJ, VI⟩ := Kd.aZ eZ.out aJ H7 H8
   cases adJ
   replace H7 := eq_true H7
   replace H8 := eq_true H8
   go_wp2
   go_roundg k1
   case measure => have := fu.out; omega
   case rel => exact ⟨(wrap64 (aJ + 1)), eF, H', ⟨by have := fu.out; omega⟩, by repeat (first | exact av.refl _ | apply av.step)⟩
end Go.Proofs.YtjodlkbhaofkkaaGreat.PA
end
