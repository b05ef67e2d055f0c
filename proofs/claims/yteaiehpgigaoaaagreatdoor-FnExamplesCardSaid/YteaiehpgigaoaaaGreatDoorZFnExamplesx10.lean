-- Bundled by shake.py from this session's printed and written texts; Lean checks it.
import Derived.Test.YteaiehpgigaoaaaGreatDoorZFnExamplesx1
import Derived.Test.YteaiehpgigaoaaaGreatDoorZFnExamplesx8
import Derived.Test.YteaiehpgigaoaaaGreatDoorZFnExamplesx9
section
namespace Go.Proofs.YteaiehpgigaoaaaGreatDoor.PB
open Go.RowKit Go.Proofs.YteaiehpgigaoaaaGreatDoorW.PrintWords Go.Proofs.YteaiehpgigaoaaaGreatDoorW.PrintLast Go.Proofs.YteaiehpgigaoaaaGreatDoorW.PrintMore
attribute [local go_sem] max2_int min2_int max_two min_two max_three min_three max_four min_four
set_option linter.unusedVariables false
set_option linter.unusedSimpArgs false
set_option maxHeartbeats 8000000
set_option maxRecDepth 100000
def stringslite_CutSuffix.f (a0 : ByteArray) (a1 : ByteArray) : Option (ByteArray × Bool) := (stringslite_HasSuffix.f a0 a1).bind fun t681 => (if t681 = true then (if 0 ≤ (wrap64 ((a0.size : Int) - (a1.size : Int))) then (if (wrap64 ((a0.size : Int) - (a1.size : Int))) ≤ (a0.size : Int) then (some (a0.extract 0 ((wrap64 ((a0.size : Int) - (a1.size : Int))) : Int).toNat, true)) else (none)) else (none)) else (some (a0, false)))
theorem stringslite_CutSuffix.calls (a0 : ByteArray) (a1 : ByteArray) (r1 : ByteArray) (r2 : Bool) (w : World) (h : stringslite_CutSuffix.f a0 a1 = some (r1, r2)) :
 Calls Tryz.prog 85 #[.string a0, .string a1] w fun e w' => e = .returned (.tuple #[.string r1, .bool r2]) ∧ Drawn0 w w' := by
 have H := h
 clear h
 unfold stringslite_CutSuffix.f at H
 obtain ⟨t681, A3, H⟩ := ob_ H
 by_cases c4 : t681 = true
 · subst c4
   rw [if_pos rfl] at H
   obtain ⟨ji5, hji5⟩ : ∃ j_ : Int, (wrap64 ((a0.size : Int) - (a1.size : Int))) = j_ := ⟨_, rfl⟩
   replace H : (if 0 ≤ (ji5) then (if (ji5) ≤ (a0.size : Int) then (some (a0.extract 0 ((ji5) : Int).toNat, true)) else (none)) else (none)) = some (r1, r2) := by first | (rw [hji5] at H; exact H) | (simp only [hji5] at H ⊢; exact H)
   (try rw [hji5] at A3)
   have hji5w : (IntKind.i64.wrap ((a0.size : Int) - (a1.size : Int))) = ji5 := (i64_w _).trans hji5
   by_cases c6 : 0 ≤ (ji5)
   · rw [if_pos c6] at H
     have c6b0 := eq_true c6
     have c6b1 : decide (0 ≤ (ji5)) = true := decide_eq_true c6
     clear c6
     by_cases c7 : (ji5) ≤ (a0.size : Int)
     · rw [if_pos c7] at H
       have c7b0 := eq_true c7
       have c7b1 : decide ((ji5) ≤ (a0.size : Int)) = true := decide_eq_true c7
       clear c7
       simp only [Option.some.injEq, Prod.mk.injEq] at H
       obtain ⟨rfl, rfl⟩ := H
       go_enter Tryz.func85, Tryz.ntmps85
       go_wp2_with (first | ((with_reducible refine gate_callee (f := 107) rfl ?_); refine gL_ (some 8) Tryz.func107 #[.string a0, .string a1] ?_; (with_reducible refine (stringslite_HasSuffix.calls a0 a1 true _ A3.out).mono ?_); rintro e w' ⟨rfl, ⟨nd, rfl⟩⟩; refine ⟨_, rfl, ?_⟩))
       go_ret2
       exact ⟨by first | rfl | (simp; done) | (simp only [← hji5] <;> (first | rfl | simp)) | (simp [*]; done), by repeat (first | exact Drawn0.refl _ | apply Drawn0.step)⟩
     · rw [if_neg c7] at H
       cases H
   · rw [if_neg c6] at H
     cases H
 · replace c4 := Bool.eq_false_iff.mpr c4
   subst c4
   rw [if_neg (show ¬ (false = true) by decide)] at H
   simp only [Option.some.injEq, Prod.mk.injEq] at H
   obtain ⟨rfl, rfl⟩ := H
   go_enter Tryz.func85, Tryz.ntmps85
   go_wp2_with (first | ((with_reducible refine gate_callee (f := 107) rfl ?_); refine gL_ (some 8) Tryz.func107 #[.string a0, .string a1] ?_; (with_reducible refine (stringslite_HasSuffix.calls a0 a1 false _ A3.out).mono ?_); rintro e w' ⟨rfl, ⟨nd, rfl⟩⟩; refine ⟨_, rfl, ?_⟩))
   go_ret2
   exact ⟨by first | rfl | (simp; done) | (simp [*]; done), by repeat (first | exact Drawn0.refl _ | apply Drawn0.step)⟩
def strings_CutSuffix.f (a0 : ByteArray) (a1 : ByteArray) : Option (ByteArray × Bool) := (stringslite_CutSuffix.f a0 a1).bind fun bt682 => (some (bt682.1, bt682.2))
theorem strings_CutSuffix.calls (a0 : ByteArray) (a1 : ByteArray) (r1 : ByteArray) (r2 : Bool) (w : World) (h : strings_CutSuffix.f a0 a1 = some (r1, r2)) :
 Calls Tryz.prog 45 #[.string a0, .string a1] w fun e w' => e = .returned (.tuple #[.string r1, .bool r2]) ∧ Drawn0 w w' := by
 have H := h
 clear h
 unfold strings_CutSuffix.f at H
 obtain ⟨⟨t682, t683⟩, A3, H⟩ := ob_ H
 (try dsimp only at H)
 simp only [Option.some.injEq, Prod.mk.injEq] at H
 obtain ⟨rfl, rfl⟩ := H
 go_enter Tryz.func45, Tryz.ntmps45
 go_wp2_with (first | ((with_reducible refine gate_callee (f := 85) rfl ?_); refine gL_ (some 8) Tryz.func85 #[.string a0, .string a1] ?_; (with_reducible refine (stringslite_CutSuffix.calls a0 a1 t682 t683 _ A3.out).mono ?_); rintro e w' ⟨rfl, ⟨nd, rfl⟩⟩; refine ⟨_, rfl, ?_⟩))
 go_ret2
 exact ⟨by first | rfl | (simp; done) | (simp [*]; done), by repeat (first | exact Drawn0.refl _ | apply Drawn0.step)⟩
def impl_SplitByte.l0 : Nat → ByteArray → Int → List ByteArray → Int → Int → Option (List ByteArray)
 | 0, _, _, _, _, _ => none
 | k + 1, x0, x1, x5, x6, x7 => if x7 < (x0.size : Int) then (if 0 ≤ x7 then (if (bt x0 x7) = x1 then (if 0 ≤ x6 then (if x6 ≤ x7 then (if x7 ≤ (x0.size : Int) then (if x5.length < 8796093022208 then (impl_SplitByte.l0 k x0 x1 (x5 ++ [x0.extract (x6 : Int).toNat (x7 : Int).toNat]) (wrap64 (x7 + 1)) (wrap64 (x7 + 1))) else (none)) else (none)) else (none)) else (none)) else (impl_SplitByte.l0 k x0 x1 x5 x6 (wrap64 (x7 + 1)))) else (none)) else (if 0 ≤ x6 then (if x6 ≤ (x0.size : Int) then (if x5.length < 8796093022208 then (some (x5 ++ [x0.extract (x6 : Int).toNat x0.size])) else (none)) else (none)) else (none))
def impl_SplitByte.f (k : Nat) (a0 : ByteArray) (a1 : Int) : Option (List ByteArray) := impl_SplitByte.l0 k a0 a1 (([] : List ByteArray)) 0 0
theorem impl_SplitByte.mono_l : ∀ k, (∀ y0 y1 y2 y3 y4, LeO (impl_SplitByte.l0 k y0 y1 y2 y3 y4) (impl_SplitByte.l0 (k + 1) y0 y1 y2 y3 y4))
 | 0 => fun _ _ _ _ _ r h => by simp [impl_SplitByte.l0] at h
 | k + 1 => by
  have ih0 := impl_SplitByte.mono_l k
  · intro y0 y1 y2 y3 y4
    unfold impl_SplitByte.l0
    repeat' first
    | (with_reducible exact ih0 _ _ _ _ _)
    | (with_reducible exact LeO.refl _)
    | (with_reducible exact LeO.none _)
    | (with_reducible refine LeO.ite ?_ ?_)
    | (with_reducible refine LeO.bind ?_ (fun _ => ?_))
    | exact ih0 _ _ _ _ _
    | exact LeO.none _
    | refine LeO.ite ?_ ?_
    | refine LeO.bind ?_ (fun _ => ?_)
theorem impl_SplitByte.mono : ∀ a0 a1 k, LeO (impl_SplitByte.f k a0 a1) (impl_SplitByte.f (k + 1) a0 a1) := by
 intro a0 a1 k
 have ih0 := impl_SplitByte.mono_l k
 unfold impl_SplitByte.f
 repeat' first
  | (with_reducible exact ih0 _ _ _ _ _)
  | (with_reducible exact LeO.refl _)
  | (with_reducible exact LeO.none _)
  | (with_reducible refine LeO.ite ?_ ?_)
  | (with_reducible refine LeO.bind ?_ (fun _ => ?_))
  | exact ih0 _ _ _ _ _
  | exact LeO.none _
  | refine LeO.ite ?_ ?_
  | refine LeO.bind ?_ (fun _ => ?_)
theorem impl_SplitByte.calls (k : Nat) (a0 : ByteArray) (a1 : Int) (r : List ByteArray) (w : World) (h : impl_SplitByte.f k a0 a1 = some r) :
 Calls Tryz.prog 86 #[.string a0, .int .u8 a1] w fun e w' => ∃ v0_ : Value, e = .returned (v0_) ∧ Kd.R Kd.string 9 w' w.heap.size (fun _ => True) v0_ r ∧ Below w.heap.size w w' := by
 have HB := Aside0.mk (Below.refl w.heap.size w)
 have H := h
 clear h
 unfold impl_SplitByte.f at H
 obtain ⟨y684, hy684⟩ : ∃ y_ : List ByteArray, y_ = (([] : List ByteArray)) := ⟨_, rfl⟩
 replace H : (impl_SplitByte.l0 k a0 a1 y684 0 0) = some r := by subst hy684; exact H
 have Ny684 := Aside0.mk hy684
 clear hy684
 have H' := Aside0.mk H
 clear H
 go_enter Tryz.func86, Tryz.ntmps86
 go_wp2_with (first | ((with_reducible refine gate_dst (N := 8) rfl ?_); refine Kd.R_lit Kd.string _ 9 ?hg (N := 8) ?hd (xs := ([] : List ByteArray)) (inner := []) (ok := fun _ => True) (okp := fun _ => True) ?hr ?hp (fun _ hk => hk) trivial (Below.refl _ _) (Nat.le_refl _) (by simp) ?_; (case hd => rfl); (case hg => rfl); (case hr => first | (go_simp; done) | (go_simp; rfl)); (case hp => exact (Reps.none _ _)); intro v685 w3 ho4 hb hg_ hnew_; clear hg_ hnew_; (first | rw [← Ny684.out] at ho4 | (simp only [Int.reduceToNat] at ho4; rw [← Ny684.out] at ho4)); have HO686 := Aside0.mk (Kd.R_lower ho4 (below_size (bl_ HB.out))); replace HB := bo_ HB hb; clear hb ho4))
 go_loopg [5, 6, 7] k (fun kq v5 v6 v7 w' => ∃ (x5_1 : List ByteArray) (x6_1 : Int) (x7_1 : Int), v6 = .int .i64 x6_1 ∧ v7 = .int .i64 x7_1 ∧ Aside0 (impl_SplitByte.l0 kq a0 a1 x5_1 x6_1 x7_1 = some r) ∧ Aside0 (kq ≤ k) ∧ Aside0 (Kd.R Kd.string 9 w' w.heap.size (fun _ => True) v5 x5_1) ∧ Aside0 (Below w.heap.size w w'))
 case atStart => exact ⟨(y684), (0), (0), rs_, rs_, H', ⟨Nat.le_refl _⟩, ⟨re_ HO686.out⟩, ⟨bl_ HB.out⟩⟩
 case round =>
  clear H'
  try clear p2
  obtain ⟨x5_1, x6_1, x7_1, rfl, rfl, HA, HK1, HO_5, HB⟩ := hrel
  cases gk with
  | zero => exact absurd HA.out (by simp [impl_SplitByte.l0])
  | succ k1 =>
   have H := HA.out
   clear HA
   simp only [impl_SplitByte.l0] at H
   by_cases c5 : x7_1 < (a0.size : Int)
   · rw [if_pos c5] at H
     have c5b0 : decide (x7_1 < (a0.size : Int)) = true := decide_eq_true c5
     clear c5
     by_cases c6 : 0 ≤ x7_1
     · rw [if_pos c6] at H
       have c6b0 : decide (0 ≤ x7_1) = true := decide_eq_true c6
       clear c6
       by_cases c8 : (bt a0 x7_1) = a1
       · rw [if_pos c8] at H
         have c8b0 : ((bt a0 x7_1) == a1) = true := beq_iff_eq.mpr c8
         have c8b1 : ((bt a0 x7_1) != a1) = false := bne_eq_false_iff_eq.mpr c8
         clear c8
         by_cases c9 : 0 ≤ x6_1
         · rw [if_pos c9] at H
           have c9b0 := eq_true c9
           have c9b1 : decide (0 ≤ x6_1) = true := decide_eq_true c9
           clear c9
           by_cases c10 : x6_1 ≤ x7_1
           · rw [if_pos c10] at H
             have c10b0 := eq_true c10
             have c10b1 : decide (x6_1 ≤ x7_1) = true := decide_eq_true c10
             clear c10
             by_cases c11 : x7_1 ≤ (a0.size : Int)
             · rw [if_pos c11] at H
               have c11b0 := eq_true c11
               have c11b1 : decide (x7_1 ≤ (a0.size : Int)) = true := decide_eq_true c11
               clear c11
               by_cases c12 : x5_1.length < 8796093022208
               · rw [if_pos c12] at H
                 have LMc12 := Aside0.mk c12
                 clear c12
                 obtain ⟨y687, hy687⟩ : ∃ y_ : List ByteArray, y_ = (x5_1 ++ [a0.extract (x6_1 : Int).toNat (x7_1 : Int).toNat]) := ⟨_, rfl⟩
                 replace H : (impl_SplitByte.l0 k1 a0 a1 y687 (wrap64 (x7_1 + 1)) (wrap64 (x7_1 + 1))) = some r := by subst hy687; exact H
                 have Ny687 := Aside0.mk hy687
                 clear hy687
                 have H' := Aside0.mk H
                 clear H
                 have p7 : 0 ≤ (x7_1 : Int) := od_
                 have q7 : x7_1 < (a0.size : Int) := od_
                 have hx7 := bt_at a0 x7_1
                 replace p7 := eq_true p7
                 replace q7 := eq_true q7
                 go_wp2_with (first | ((with_reducible refine gate_builtin (b := .append) (xs := #[.tmp 20, .tmp 25]) rfl ?_); at_builtin; refine Kd.R_append Kd.string (w0 := w) w.heap.size rfl (.tmp 20) (.tmp 25) 40 9 (.string ⟨#[]⟩) 16 rfl Tryz.underlying40 info9 rfl (by decide) (by omega) u5 x5_1 (a0.extract (x6_1 : Int).toNat (x7_1 : Int).toNat) [.string (a0.extract (x6_1 : Int).toNat (x7_1 : Int).toNat)] (fun _ => True) (fun _ => False) rfl rfl ?aP (fun _ hk => hk.elim) ?aF ?aO ?aB ?aS ?aL ?_; (case aP => exact rfl); (case aB => exact (bl_ HB.out)); (case aF => exact (fun _ _ => trivial)); (case aO => exact (re_ HO_5.out)); (case aS => exact (below_size (bl_ HB.out))); (case aL => have := LMc12.out; omega); intro v688 w13 ho hb hg hat; rw [← Ny687.out] at ho; replace HB := Aside0.mk (hb); have HO689 := Aside0.mk (ho); clear HO_5; clear ho hb hg hat))
                 go_roundg k1
                 case measure => have := HK1.out; omega
                 case rel => exact ⟨(y687), (wrap64 (x7_1 + 1)), (wrap64 (x7_1 + 1)), rs_, rs_, H', ⟨by have := HK1.out; omega⟩, ⟨re_ HO689.out⟩, ⟨bl_ HB.out⟩⟩
               · rw [if_neg c12] at H
                 cases H
             · rw [if_neg c11] at H
               cases H
           · rw [if_neg c10] at H
             cases H
         · rw [if_neg c9] at H
           cases H
       · rw [if_neg c8] at H
         have c8b0 : ((bt a0 x7_1) == a1) = false := beq_eq_false_iff_ne.mpr c8
         have c8b1 : ((bt a0 x7_1) != a1) = true := bne_iff_ne.mpr c8
         have H' := Aside0.mk H
         clear H
         have p7 : 0 ≤ (x7_1 : Int) := od_
         have q7 : x7_1 < (a0.size : Int) := od_
         have hx7 := bt_at a0 x7_1
         replace p7 := eq_true p7
         replace q7 := eq_true q7
         go_wp2
         go_roundg k1
         case measure => have := HK1.out; omega
         case rel => exact ⟨(x5_1), (x6_1), (wrap64 (x7_1 + 1)), rs_, rs_, H', ⟨by have := HK1.out; omega⟩, ⟨re_ HO_5.out⟩, ⟨bl_ HB.out⟩⟩
     · rw [if_neg c6] at H
       cases H
   · rw [if_neg c5] at H
     have c5b0 : decide (x7_1 < (a0.size : Int)) = false := decide_eq_false c5
     clear c5
     by_cases c14 : 0 ≤ x6_1
     · rw [if_pos c14] at H
       have c14b0 := eq_true c14
       have c14b1 : decide (0 ≤ x6_1) = true := decide_eq_true c14
       clear c14
       by_cases c15 : x6_1 ≤ (a0.size : Int)
       · rw [if_pos c15] at H
         have c15b0 := eq_true c15
         have c15b1 : decide (x6_1 ≤ (a0.size : Int)) = true := decide_eq_true c15
         clear c15
         by_cases c16 : x5_1.length < 8796093022208
         · rw [if_pos c16] at H
           have LMc16 := Aside0.mk c16
           clear c16
           obtain ⟨y690, hy690⟩ : ∃ y_ : List ByteArray, y_ = (x5_1 ++ [a0.extract (x6_1 : Int).toNat a0.size]) := ⟨_, rfl⟩
           replace H : (some y690) = some r := by subst hy690; exact H
           have Ny690 := Aside0.mk hy690
           clear hy690
           obtain rfl := Option.some.inj H
           go_wp2_with (first | ((with_reducible refine gate_builtin (b := .append) (xs := #[.tmp 29, .tmp 33]) rfl ?_); at_builtin; refine Kd.R_append Kd.string (w0 := w) w.heap.size rfl (.tmp 29) (.tmp 33) 40 9 (.string ⟨#[]⟩) 16 rfl Tryz.underlying40 info9 rfl (by decide) (by omega) u5 x5_1 (a0.extract (x6_1 : Int).toNat a0.size) [.string (a0.extract (x6_1 : Int).toNat a0.size)] (fun _ => True) (fun _ => False) rfl rfl ?aP (fun _ hk => hk.elim) ?aF ?aO ?aB ?aS ?aL ?_; (case aP => exact rfl); (case aB => exact (bl_ HB.out)); (case aF => exact (fun _ _ => trivial)); (case aO => exact (re_ HO_5.out)); (case aS => exact (below_size (bl_ HB.out))); (case aL => have := LMc16.out; omega); intro v691 w17 ho hb hg hat; rw [← Ny690.out] at ho; replace HB := Aside0.mk (hb); have HO692 := Aside0.mk (ho); clear HO_5; clear ho hb hg hat))
           go_ret
           exact ⟨_, rf_, re_ HO692.out, bl_ HB.out⟩
         · rw [if_neg c16] at H
           cases H
       · rw [if_neg c15] at H
         cases H
     · rw [if_neg c14] at H
       cases H
def stringslite_TrimPrefix.f (a0 : ByteArray) (a1 : ByteArray) : Option (ByteArray) := (stringslite_HasPrefix.f a0 a1).bind fun t693 => (if t693 = true then (if 0 ≤ (a1.size : Int) then (if (a1.size : Int) ≤ (a0.size : Int) then (some (a0.extract ((a1.size : Int) : Int).toNat a0.size)) else (none)) else (none)) else (some a0))
theorem stringslite_TrimPrefix.calls (a0 : ByteArray) (a1 : ByteArray) (r : ByteArray) (w : World) (h : stringslite_TrimPrefix.f a0 a1 = some r) :
 Calls Tryz.prog 121 #[.string a0, .string a1] w fun e w' => e = .returned (.string r) ∧ Drawn0 w w' := by
 have H := h
 clear h
 unfold stringslite_TrimPrefix.f at H
 obtain ⟨t693, A3, H⟩ := ob_ H
 by_cases c4 : t693 = true
 · subst c4
   rw [if_pos rfl] at H
   by_cases c5 : 0 ≤ (a1.size : Int)
   · rw [if_pos c5] at H
     have c5b0 := eq_true c5
     have c5b1 : decide (0 ≤ (a1.size : Int)) = true := decide_eq_true c5
     clear c5
     by_cases c6 : (a1.size : Int) ≤ (a0.size : Int)
     · rw [if_pos c6] at H
       have c6b0 := eq_true c6
       have c6b1 : decide ((a1.size : Int) ≤ (a0.size : Int)) = true := decide_eq_true c6
       clear c6
       obtain rfl := Option.some.inj H
       go_enter Tryz.func121, Tryz.ntmps121
       go_wp2_with (first | ((with_reducible refine gate_callee (f := 106) rfl ?_); refine gL_ (some 7) Tryz.func106 #[.string a0, .string a1] ?_; (with_reducible refine (stringslite_HasPrefix.calls a0 a1 true _ A3.out).mono ?_); rintro e w' ⟨rfl, ⟨nd, rfl⟩⟩; refine ⟨_, rfl, ?_⟩))
       go_ret
       exact ⟨by first | rfl | (simp; done) | (simp [*]; done), by repeat (first | exact Drawn0.refl _ | apply Drawn0.step)⟩
     · rw [if_neg c6] at H
       cases H
   · rw [if_neg c5] at H
     cases H
 · replace c4 := Bool.eq_false_iff.mpr c4
   subst c4
   rw [if_neg (show ¬ (false = true) by decide)] at H
   obtain rfl := Option.some.inj H
   go_enter Tryz.func121, Tryz.ntmps121
   go_wp2_with (first | ((with_reducible refine gate_callee (f := 106) rfl ?_); refine gL_ (some 7) Tryz.func106 #[.string a0, .string a1] ?_; (with_reducible refine (stringslite_HasPrefix.calls a0 a1 false _ A3.out).mono ?_); rintro e w' ⟨rfl, ⟨nd, rfl⟩⟩; refine ⟨_, rfl, ?_⟩))
   go_ret
   exact ⟨by first | rfl | (simp; done) | (simp [*]; done), by repeat (first | exact Drawn0.refl _ | apply Drawn0.step)⟩
def strings_TrimPrefix.f (a0 : ByteArray) (a1 : ByteArray) : Option (ByteArray) := (stringslite_TrimPrefix.f a0 a1).bind fun t694 => (some t694)
theorem strings_TrimPrefix.calls (a0 : ByteArray) (a1 : ByteArray) (r : ByteArray) (w : World) (h : strings_TrimPrefix.f a0 a1 = some r) :
 Calls Tryz.prog 114 #[.string a0, .string a1] w fun e w' => e = .returned (.string r) ∧ Drawn0 w w' := by
 have H := h
 clear h
 unfold strings_TrimPrefix.f at H
 obtain ⟨t694, A3, H⟩ := ob_ H
 obtain rfl := Option.some.inj H
 go_enter Tryz.func114, Tryz.ntmps114
 go_wp2_with (first | ((with_reducible refine gate_callee (f := 121) rfl ?_); refine gL_ (some 7) Tryz.func121 #[.string a0, .string a1] ?_; (with_reducible refine (stringslite_TrimPrefix.calls a0 a1 t694 _ A3.out).mono ?_); rintro e w' ⟨rfl, ⟨nd, rfl⟩⟩; refine ⟨_, rfl, ?_⟩))
 go_ret
 exact ⟨by first | rfl | (simp; done) | (simp [*]; done), by repeat (first | exact Drawn0.refl _ | apply Drawn0.step)⟩
mutual
def impl_parsed.j0 : Nat → ByteArray → ByteArray → Bool → Option (Int × Bool)
 | 0, _, _, _ => none
 | k + 1, x0, x6, x19 => if x19 = true then (some (0, false)) else (impl_parsed.l0 k x0 x6 0 0)
def impl_parsed.l0 : Nat → ByteArray → ByteArray → Int → Int → Option (Int × Bool)
 | 0, _, _, _, _ => none
 | k + 1, x0, x6, x7, x8 => if x8 < (x6.size : Int) then (if 0 ≤ x8 then (if (bt x6 x8) < 48 then (some (0, false)) else (if (bt x6 x8) > 57 then (some (0, false)) else (impl_parsed.l0 k x0 x6 (wrap64 ((wrap64 (10 * x7)) + (((bt x6 x8) - 48) % 256))) (wrap64 (x8 + 1))))) else (none)) else (if (x6.size : Int) < (x0.size : Int) then ((impl_FormatInt.f k (wrap64 (-x7))).bind fun t696 => (if t696.toList = x0.toList then (some (wrap64 (-x7), true)) else (some (0, false)))) else ((impl_FormatInt.f k x7).bind fun t697 => (if t697.toList = x0.toList then (some (x7, true)) else (some (0, false)))))
end
def impl_parsed.f (k : Nat) (a0 : ByteArray) (a1 : Int) : Option (Int × Bool) := (strings_TrimPrefix.f a0 (⟨#[45]⟩ : ByteArray)).bind fun t695 => (if (t695.size : Int) = 0 then (impl_parsed.j0 k a0 t695 true) else (impl_parsed.j0 k a0 t695 (decide ((t695.size : Int) > a1))))
theorem impl_parsed.mono_l : ∀ k, (∀ y0 y1 y2, LeO (impl_parsed.j0 k y0 y1 y2) (impl_parsed.j0 (k + 1) y0 y1 y2)) ∧ (∀ y0 y1 y2 y3, LeO (impl_parsed.l0 k y0 y1 y2 y3) (impl_parsed.l0 (k + 1) y0 y1 y2 y3))
 | 0 => ⟨fun _ _ _ r h => by simp [impl_parsed.j0] at h, fun _ _ _ _ r h => by simp [impl_parsed.l0] at h⟩
 | k + 1 => by
  obtain ⟨ih0, ih1⟩ := impl_parsed.mono_l k
  refine ⟨?_, ?_⟩
  · intro y0 y1 y2
    unfold impl_parsed.j0
    repeat' first
    | (with_reducible exact ih0 _ _ _)
    | (with_reducible exact ih1 _ _ _ _)
    | (with_reducible exact impl_FormatInt.mono _ _)
    | (with_reducible exact LeO.refl _)
    | (with_reducible exact LeO.none _)
    | (with_reducible refine LeO.ite ?_ ?_)
    | (with_reducible refine LeO.bind ?_ (fun _ => ?_))
    | exact ih0 _ _ _
    | exact ih1 _ _ _ _
    | exact LeO.none _
    | refine LeO.ite ?_ ?_
    | refine LeO.bind ?_ (fun _ => ?_)
  · intro y0 y1 y2 y3
    unfold impl_parsed.l0
    repeat' first
    | (with_reducible exact ih0 _ _ _)
    | (with_reducible exact ih1 _ _ _ _)
    | (with_reducible exact impl_FormatInt.mono _ _)
    | (with_reducible exact LeO.refl _)
    | (with_reducible exact LeO.none _)
    | (with_reducible refine LeO.ite ?_ ?_)
    | (with_reducible refine LeO.bind ?_ (fun _ => ?_))
    | exact ih0 _ _ _
    | exact ih1 _ _ _ _
    | exact LeO.none _
    | refine LeO.ite ?_ ?_
    | refine LeO.bind ?_ (fun _ => ?_)
theorem impl_parsed.mono : ∀ a0 a1 k, LeO (impl_parsed.f k a0 a1) (impl_parsed.f (k + 1) a0 a1) := by
 intro a0 a1 k
 obtain ⟨ih0, ih1⟩ := impl_parsed.mono_l k
 unfold impl_parsed.f
 repeat' first
  | (with_reducible exact ih0 _ _ _)
  | (with_reducible exact ih1 _ _ _ _)
  | (with_reducible exact impl_FormatInt.mono _ _)
  | (with_reducible exact LeO.refl _)
  | (with_reducible exact LeO.none _)
  | (with_reducible refine LeO.ite ?_ ?_)
  | (with_reducible refine LeO.bind ?_ (fun _ => ?_))
  | exact ih0 _ _ _
  | exact ih1 _ _ _ _
  | exact LeO.none _
  | refine LeO.ite ?_ ?_
  | refine LeO.bind ?_ (fun _ => ?_)
theorem impl_parsed.calls (k : Nat) (a0 : ByteArray) (a1 : Int) (r1 : Int) (r2 : Bool) (w : World) (h : impl_parsed.f k a0 a1 = some (r1, r2)) :
 Calls Tryz.prog 108 #[.string a0, .int .i64 a1] w fun e w' => e = .returned (.tuple #[.int .i64 r1, .bool r2]) ∧ Below w.heap.size w w' := by
 have HB := Aside0.mk (Below.refl w.heap.size w)
 have H := h
 clear h
 unfold impl_parsed.f at H
 obtain ⟨t695, A3, H⟩ := ob_ H
 have HC4 := Aside0.mk H
 clear H
 go_enter Tryz.func108, Tryz.ntmps108
 go_upto_region 2 with (first | ((with_reducible refine gate_callee (f := 114) rfl ?_); refine gL_ (some 10) Tryz.func114 #[.string a0, .string (⟨#[45]⟩ : ByteArray)] ?_; (with_reducible refine (strings_TrimPrefix.calls a0 (⟨#[45]⟩ : ByteArray) t695 _ A3.out).mono ?_); rintro e w' ⟨rfl, ⟨nd, rfl⟩⟩; refine ⟨_, rfl, ?_⟩))
 (try simp only [Act.put, z1_, z2_, z3_])
 go_cut [19] (fun v19 wc => ∃ (kq : Nat) (x19_3 : Bool), v19 = .bool x19_3 ∧ Aside0 (impl_parsed.j0 kq a0 t695 x19_3 = some (r1, r2)) ∧ Aside0 (kq ≤ k) ∧ Aside0 (Below w.heap.size w wc))
 case first =>
  have H := HC4.out
  clear HC4
  by_cases c5 : (t695.size : Int) = 0
  · rw [if_pos c5] at H
    have c5b0 : ((t695.size : Int) == 0) = true := beq_iff_eq.mpr c5
    have c5b1 : ((t695.size : Int) != 0) = false := bne_eq_false_iff_eq.mpr c5
    clear c5
    (first | rw [c5b0] | (simp only [i64_w, i32_w]; rw [c5b0]) | skip)
    have H' := Aside0.mk H
    clear H
    go_wp2
    go_meet
    case rel => exact ⟨_, (true), rs_, H', ⟨by first | omega | exact Nat.le_refl _⟩, ⟨bl_ HB.out⟩⟩
  · rw [if_neg c5] at H
    have c5b0 : ((t695.size : Int) == 0) = false := beq_eq_false_iff_ne.mpr c5
    have c5b1 : ((t695.size : Int) != 0) = true := bne_iff_ne.mpr c5
    (first | rw [c5b0] | (simp only [i64_w, i32_w]; rw [c5b0]) | skip)
    have H' := Aside0.mk H
    clear H
    go_wp2
    go_meet
    case rel => exact ⟨_, (decide ((t695.size : Int) > a1)), rs_, H', ⟨by first | omega | exact Nat.le_refl _⟩, ⟨bl_ HB.out⟩⟩
 case rest =>
  clear HC4
  try clear c1
  try clear p2
  try clear c5
  try clear c5b0
  try clear c5b1
  obtain ⟨kq, x19_3, rfl, HA, HJ3, HB⟩ := hcut
  cases kq with
  | zero => exact absurd HA.out (by simp [impl_parsed.j0])
  | succ kj3 =>
   have H := HA.out
   clear HA
   simp only [impl_parsed.j0] at H
   by_cases c6 : x19_3 = true
   · subst c6
     rw [if_pos rfl] at H
     simp only [Option.some.injEq, Prod.mk.injEq] at H
     obtain ⟨rfl, rfl⟩ := H
     go_wp2
     go_ret2
     exact ⟨rf_, bl_ HB.out⟩
   · replace c6 := Bool.eq_false_iff.mpr c6
     subst c6
     rw [if_neg (show ¬ (false = true) by decide)] at H
     have H' := Aside0.mk H
     clear H
     go_wp2
     go_loopg [7, 8] kj3 (fun kq v7 v8 w' => ∃ (x7_2 : Int) (x8_2 : Int), v7 = .int .i64 x7_2 ∧ v8 = .int .i64 x8_2 ∧ Aside0 (impl_parsed.l0 kq a0 t695 x7_2 x8_2 = some (r1, r2)) ∧ Aside0 (kq ≤ kj3) ∧ Aside0 (Below w.heap.size w w'))
     case atStart => exact ⟨(0), (0), rs_, rs_, H', ⟨Nat.le_refl _⟩, ⟨bl_ HB.out⟩⟩
     case round =>
      clear H'
      try clear c1
      try clear p2
      try clear c5
      try clear c5b0
      try clear c5b1
      try clear c6
      try clear p2
      obtain ⟨x7_2, x8_2, rfl, rfl, HA, HK2, HB⟩ := hrel
      cases gk with
      | zero => exact absurd HA.out (by simp [impl_parsed.l0])
      | succ k2 =>
       have H := HA.out
       clear HA
       simp only [impl_parsed.l0] at H
       by_cases c7 : x8_2 < (t695.size : Int)
       · rw [if_pos c7] at H
         have c7b0 : decide (x8_2 < (t695.size : Int)) = true := decide_eq_true c7
         clear c7
         by_cases c8 : 0 ≤ x8_2
         · rw [if_pos c8] at H
           have c8b0 : decide (0 ≤ x8_2) = true := decide_eq_true c8
           clear c8
           by_cases c10 : (bt t695 x8_2) < 48
           · rw [if_pos c10] at H
             have c10b0 : decide ((bt t695 x8_2) < 48) = true := decide_eq_true c10
             clear c10
             simp only [Option.some.injEq, Prod.mk.injEq] at H
             obtain ⟨rfl, rfl⟩ := H
             have p9 : 0 ≤ (x8_2 : Int) := od_
             have q9 : x8_2 < (t695.size : Int) := od_
             have hx9 := bt_at t695 x8_2
             replace p9 := eq_true p9
             replace q9 := eq_true q9
             go_wp2
             go_ret2
             exact ⟨rf_, bl_ HB.out⟩
           · rw [if_neg c10] at H
             have c10b0 : decide ((bt t695 x8_2) < 48) = false := decide_eq_false c10
             clear c10
             by_cases c12 : (bt t695 x8_2) > 57
             · rw [if_pos c12] at H
               have c12b0 : decide (57 < (bt t695 x8_2)) = true := decide_eq_true c12
               clear c12
               simp only [Option.some.injEq, Prod.mk.injEq] at H
               obtain ⟨rfl, rfl⟩ := H
               have p9 : 0 ≤ (x8_2 : Int) := od_
               have q9 : x8_2 < (t695.size : Int) := od_
               have hx9 := bt_at t695 x8_2
               replace p9 := eq_true p9
               replace q9 := eq_true q9
               have p11 : 0 ≤ (x8_2 : Int) := od_
               have q11 : x8_2 < (t695.size : Int) := od_
               have hx11 := bt_at t695 x8_2
               replace p11 := eq_true p11
               replace q11 := eq_true q11
               go_wp2
               go_ret2
               exact ⟨rf_, bl_ HB.out⟩
             · rw [if_neg c12] at H
               have c12b0 : decide (57 < (bt t695 x8_2)) = false := decide_eq_false c12
               clear c12
               have H' := Aside0.mk H
               clear H
               have p9 : 0 ≤ (x8_2 : Int) := od_
               have q9 : x8_2 < (t695.size : Int) := od_
               have hx9 := bt_at t695 x8_2
               replace p9 := eq_true p9
               replace q9 := eq_true q9
               have p11 : 0 ≤ (x8_2 : Int) := od_
               have q11 : x8_2 < (t695.size : Int) := od_
               have hx11 := bt_at t695 x8_2
               replace p11 := eq_true p11
               replace q11 := eq_true q11
               have p13 : 0 ≤ (x8_2 : Int) := od_
               have q13 : x8_2 < (t695.size : Int) := od_
               have hx13 := bt_at t695 x8_2
               replace p13 := eq_true p13
               replace q13 := eq_true q13
               go_wp2
               go_roundg k2
               case measure => have := HJ3.out; have := HK2.out; omega
               case rel => exact ⟨(wrap64 ((wrap64 (10 * x7_2)) + (((bt t695 x8_2) - 48) % 256))), (wrap64 (x8_2 + 1)), rs_, rs_, H', ⟨by have := HJ3.out; have := HK2.out; omega⟩, ⟨bl_ HB.out⟩⟩
         · rw [if_neg c8] at H
           cases H
       · rw [if_neg c7] at H
         have c7b0 : decide (x8_2 < (t695.size : Int)) = false := decide_eq_false c7
         clear c7
         by_cases c14 : (t695.size : Int) < (a0.size : Int)
         · rw [if_pos c14] at H
           have c14b0 : decide ((t695.size : Int) < (a0.size : Int)) = true := decide_eq_true c14
           have c14b1 : decide (t695.size < a0.size) = true := decide_eq_true (Int.ofNat_lt.mp c14)
           clear c14
           obtain ⟨t696, A15, H⟩ := ob_ H
           by_cases c16 : t696.toList = a0.toList
           · rw [if_pos c16] at H
             have c16b0 : (t696.toList == a0.toList) = true := beq_iff_eq.mpr c16
             have c16b1 : (t696.toList != a0.toList) = false := bne_eq_false_iff_eq.mpr c16
             clear c16
             simp only [Option.some.injEq, Prod.mk.injEq] at H
             obtain ⟨rfl, rfl⟩ := H
             go_wp2_with (first | ((with_reducible refine gate_callee (f := 26) rfl ?_); refine gL_ (some 52) Tryz.func26 #[.int .i64 (wrap64 (-x7_2))] ?_; (with_reducible refine (impl_FormatInt.calls k2 (wrap64 (-x7_2)) t696 _ A15.out).mono ?_); rintro e w17 ⟨rfl, hb⟩; refine ⟨_, rfl, ?_⟩; replace HB := bo_ HB hb; (try clear hb)))
             go_ret2
             exact ⟨rf_, bl_ HB.out⟩
           · rw [if_neg c16] at H
             have c16b0 : (t696.toList == a0.toList) = false := beq_eq_false_iff_ne.mpr c16
             have c16b1 : (t696.toList != a0.toList) = true := bne_iff_ne.mpr c16
             simp only [Option.some.injEq, Prod.mk.injEq] at H
             obtain ⟨rfl, rfl⟩ := H
             go_wp2_with (first | ((with_reducible refine gate_callee (f := 26) rfl ?_); refine gL_ (some 52) Tryz.func26 #[.int .i64 (wrap64 (-x7_2))] ?_; (with_reducible refine (impl_FormatInt.calls k2 (wrap64 (-x7_2)) t696 _ A15.out).mono ?_); rintro e w18 ⟨rfl, hb⟩; refine ⟨_, rfl, ?_⟩; replace HB := bo_ HB hb; (try clear hb)))
             go_ret2
             exact ⟨rf_, bl_ HB.out⟩
         · rw [if_neg c14] at H
           have c14b0 : decide ((t695.size : Int) < (a0.size : Int)) = false := decide_eq_false c14
           have c14b1 : decide (t695.size < a0.size) = false := decide_eq_false (fun h => c14 (Int.ofNat_lt.mpr h))
           clear c14
           obtain ⟨t697, A19, H⟩ := ob_ H
           by_cases c20 : t697.toList = a0.toList
           · rw [if_pos c20] at H
             have c20b0 : (t697.toList == a0.toList) = true := beq_iff_eq.mpr c20
             have c20b1 : (t697.toList != a0.toList) = false := bne_eq_false_iff_eq.mpr c20
             clear c20
             simp only [Option.some.injEq, Prod.mk.injEq] at H
             obtain ⟨rfl, rfl⟩ := H
             go_wp2_with (first | ((with_reducible refine gate_callee (f := 26) rfl ?_); refine gL_ (some 52) Tryz.func26 #[.int .i64 x7_2] ?_; (with_reducible refine (impl_FormatInt.calls k2 x7_2 t697 _ A19.out).mono ?_); rintro e w21 ⟨rfl, hb⟩; refine ⟨_, rfl, ?_⟩; replace HB := bo_ HB hb; (try clear hb)))
             go_ret2
             exact ⟨rf_, bl_ HB.out⟩
           · rw [if_neg c20] at H
             have c20b0 : (t697.toList == a0.toList) = false := beq_eq_false_iff_ne.mpr c20
             have c20b1 : (t697.toList != a0.toList) = true := bne_iff_ne.mpr c20
             simp only [Option.some.injEq, Prod.mk.injEq] at H
             obtain ⟨rfl, rfl⟩ := H
             go_wp2_with (first | ((with_reducible refine gate_callee (f := 26) rfl ?_); refine gL_ (some 52) Tryz.func26 #[.int .i64 x7_2] ?_; (with_reducible refine (impl_FormatInt.calls k2 x7_2 t697 _ A19.out).mono ?_); rintro e w22 ⟨rfl, hb⟩; refine ⟨_, rfl, ?_⟩; replace HB := bo_ HB hb; (try clear hb)))
             go_ret2
             exact ⟨rf_, bl_ HB.out⟩
def impl_ParseInt.f (k : Nat) (a0 : ByteArray) : Option (Int × Bool) := (impl_parsed.f k a0 12).bind fun bt698 => (some (bt698.1, bt698.2))
theorem impl_ParseInt.mono : ∀ a0 k, LeO (impl_ParseInt.f k a0) (impl_ParseInt.f (k + 1) a0) := by
 intro a0 k
 unfold impl_ParseInt.f
 repeat' first
  | (with_reducible exact impl_parsed.mono _ _ _)
  | (with_reducible exact LeO.refl _)
  | (with_reducible exact LeO.none _)
  | (with_reducible refine LeO.ite ?_ ?_)
  | (with_reducible refine LeO.bind ?_ (fun _ => ?_))
  | exact LeO.none _
  | refine LeO.ite ?_ ?_
  | refine LeO.bind ?_ (fun _ => ?_)
theorem impl_ParseInt.calls (k : Nat) (a0 : ByteArray) (r1 : Int) (r2 : Bool) (w : World) (h : impl_ParseInt.f k a0 = some (r1, r2)) :
 Calls Tryz.prog 87 #[.string a0] w fun e w' => e = .returned (.tuple #[.int .i64 r1, .bool r2]) ∧ Below w.heap.size w w' := by
 have HB := Aside0.mk (Below.refl w.heap.size w)
 have H := h
 clear h
 unfold impl_ParseInt.f at H
 obtain ⟨⟨t698, t699⟩, A2, H⟩ := ob_ H
 (try dsimp only at H)
 simp only [Option.some.injEq, Prod.mk.injEq] at H
 obtain ⟨rfl, rfl⟩ := H
 go_enter Tryz.func87, Tryz.ntmps87
 go_wp2_with (first | ((with_reducible refine gate_callee (f := 108) rfl ?_); refine gL_ (some 5) Tryz.func108 #[.string a0, .int .i64 12] ?_; (with_reducible refine (impl_parsed.calls k a0 12 t698 t699 _ A2.out).mono ?_); rintro e w3 ⟨rfl, hb⟩; refine ⟨_, rfl, ?_⟩; replace HB := bo_ HB hb; (try clear hb)))
 go_ret2
 exact ⟨rf_, bl_ HB.out⟩
def impl_ParseList.l0 : Nat → List Int → List ByteArray → Int → Int → Option (List Int × Bool)
 | 0, _, _, _, _ => none
 | k + 1, x4, x14, x15, x16 => if x16 < x15 then (if 0 ≤ x16 then (if x16 < (x14.length : Int) then ((impl_ParseInt.f k (rdOf ByteArray.empty x14 x16)).bind fun bt707 => (if bt707.2 = true then (if x4.length < 17592186044416 then (impl_ParseList.l0 k (x4 ++ [bt707.1]) x14 x15 (wrap64 (x16 + 1))) else (none)) else (some (([] : List Int), false)))) else (none)) else (none)) else (some (x4, true))
def impl_ParseList.f (k : Nat) (a0 : ByteArray) : Option (List Int × Bool) := (some (([] : List Int) : List Int)).bind fun y700 => (if a0.toList = ([110, 111, 110, 101] : List UInt8) then (some (y700, true)) else ((impl_SplitByte.f k a0 44).bind fun t703 => (impl_ParseList.l0 k y700 t703 (t703.length : Int) 0)))
theorem impl_ParseList.mono_l : ∀ k, (∀ y0 y1 y2 y3, LeO (impl_ParseList.l0 k y0 y1 y2 y3) (impl_ParseList.l0 (k + 1) y0 y1 y2 y3))
 | 0 => fun _ _ _ _ r h => by simp [impl_ParseList.l0] at h
 | k + 1 => by
  have ih0 := impl_ParseList.mono_l k
  · intro y0 y1 y2 y3
    unfold impl_ParseList.l0
    repeat' first
    | (with_reducible exact ih0 _ _ _ _)
    | (with_reducible exact impl_ParseInt.mono _ _)
    | (with_reducible exact impl_SplitByte.mono _ _ _)
    | (with_reducible exact LeO.refl _)
    | (with_reducible exact LeO.none _)
    | (with_reducible refine LeO.ite ?_ ?_)
    | (with_reducible refine LeO.bind ?_ (fun _ => ?_))
    | exact ih0 _ _ _ _
    | exact LeO.none _
    | refine LeO.ite ?_ ?_
    | refine LeO.bind ?_ (fun _ => ?_)
theorem impl_ParseList.mono : ∀ a0 k, LeO (impl_ParseList.f k a0) (impl_ParseList.f (k + 1) a0) := by
 intro a0 k
 have ih0 := impl_ParseList.mono_l k
 unfold impl_ParseList.f
 repeat' first
  | (with_reducible exact ih0 _ _ _ _)
  | (with_reducible exact impl_ParseInt.mono _ _)
  | (with_reducible exact impl_SplitByte.mono _ _ _)
  | (with_reducible exact LeO.refl _)
  | (with_reducible exact LeO.none _)
  | (with_reducible refine LeO.ite ?_ ?_)
  | (with_reducible refine LeO.bind ?_ (fun _ => ?_))
  | exact ih0 _ _ _ _
  | exact LeO.none _
  | refine LeO.ite ?_ ?_
  | refine LeO.bind ?_ (fun _ => ?_)
theorem impl_ParseList.calls (k : Nat) (a0 : ByteArray) (r1 : List Int) (r2 : Bool) (w : World) (h : impl_ParseList.f k a0 = some (r1, r2)) :
 Calls Tryz.prog 46 #[.string a0] w fun e w' => ∃ v0_ : Value, e = .returned (.tuple #[v0_, .bool r2]) ∧ Kd.R (Kd.int .i64) 3 w' w.heap.size (fun _ => True) v0_ r1 ∧ Below w.heap.size w w' := by
 have HB := Aside0.mk (Below.refl w.heap.size w)
 have H := h
 clear h
 unfold impl_ParseList.f at H
 obtain ⟨y700, hy700⟩ : ∃ y_ : List Int, y_ = (([] : List Int)) := ⟨_, rfl⟩
 replace H : (if a0.toList = ([110, 111, 110, 101] : List UInt8) then (some (y700, true)) else ((impl_SplitByte.f k a0 44).bind fun t703 => (impl_ParseList.l0 k y700 t703 (t703.length : Int) 0))) = some (r1, r2) := by subst hy700; exact H
 have Ny700 := Aside0.mk hy700
 clear hy700
 by_cases c2 : a0.toList = ([110, 111, 110, 101] : List UInt8)
 · rw [if_pos c2] at H
   have c2b0 : (a0.toList == ([110, 111, 110, 101] : List UInt8)) = true := beq_iff_eq.mpr c2
   have c2b1 : (a0.toList != ([110, 111, 110, 101] : List UInt8)) = false := bne_eq_false_iff_eq.mpr c2
   clear c2
   simp only [Option.some.injEq, Prod.mk.injEq] at H
   obtain ⟨rfl, rfl⟩ := H
   go_enter Tryz.func46, Tryz.ntmps46
   go_wp2_with (first | ((with_reducible refine gate_dst (N := 9) rfl ?_); refine Kd.R_lit (Kd.int .i64) _ 3 ?hg (N := 9) ?hd (xs := ([] : List Int)) (inner := []) (ok := fun _ => True) (okp := fun _ => True) ?hr ?hp (fun _ hk => hk) trivial (Below.refl _ _) (Nat.le_refl _) (by simp) ?_; (case hd => rfl); (case hg => rfl); (case hr => first | (go_simp; done) | (go_simp; rfl)); (case hp => exact (Reps.none _ _)); intro v701 w3 ho4 hb hg_ hnew_; clear hg_ hnew_; (first | rw [← Ny700.out] at ho4 | (simp only [Int.reduceToNat] at ho4; rw [← Ny700.out] at ho4)); have HO702 := Aside0.mk (Kd.R_lower ho4 (below_size (bl_ HB.out))); replace HB := bo_ HB hb; clear hb ho4))
   go_ret2
   exact ⟨_, rf_, re_ HO702.out, bl_ HB.out⟩
 · rw [if_neg c2] at H
   have c2b0 : (a0.toList == ([110, 111, 110, 101] : List UInt8)) = false := beq_eq_false_iff_ne.mpr c2
   have c2b1 : (a0.toList != ([110, 111, 110, 101] : List UInt8)) = true := bne_iff_ne.mpr c2
   obtain ⟨t703, A5, H⟩ := ob_ H
   have H' := Aside0.mk H
   clear H
   go_enter Tryz.func46, Tryz.ntmps46
   go_wp2_with (first | ((with_reducible refine gate_dst (N := 9) rfl ?_); refine Kd.R_lit (Kd.int .i64) _ 3 ?hg (N := 9) ?hd (xs := ([] : List Int)) (inner := []) (ok := fun _ => True) (okp := fun _ => True) ?hr ?hp (fun _ hk => hk) trivial (Below.refl _ _) (Nat.le_refl _) (by simp) ?_; (case hd => rfl); (case hg => rfl); (case hr => first | (go_simp; done) | (go_simp; rfl)); (case hp => exact (Reps.none _ _)); intro v701 w6 ho7 hb hg_ hnew_; clear hg_ hnew_; (first | rw [← Ny700.out] at ho7 | (simp only [Int.reduceToNat] at ho7; rw [← Ny700.out] at ho7)); have HO702 := Aside0.mk (Kd.R_lower ho7 (below_size (bl_ HB.out))); replace HB := bo_ HB hb; clear hb ho7) | ((with_reducible refine gate_callee (f := 86) rfl ?_); refine gL_ (some 14) Tryz.func86 #[.string a0, .int .u8 44] ?_; (with_reducible refine (impl_SplitByte.calls k a0 44 t703 _ A5.out).mono ?_); rintro e w8 ⟨v704, rfl, ho0, hb⟩; refine ⟨_, rfl, ?_⟩; replace HO702 := Aside0.mk (Kd.R_below (re_ HO702.out) hb); have HO705 := Aside0.mk (Kd.R_lower ho0 (below_size (bl_ HB.out))); replace HB := bo_ HB hb; (try clear hb); (try clear ho0); obtain ⟨Ao9, co9, eo9⟩ := Kd.R_slice HO705.out; subst eo9))
   go_loopg [4, 16] k (fun kq v4 v16 w' => ∃ (x4_1 : List Int) (x16_1 : Int), v16 = .int .i64 x16_1 ∧ Aside0 (impl_ParseList.l0 kq x4_1 t703 (t703.length : Int) x16_1 = some (r1, r2)) ∧ Aside0 (kq ≤ k) ∧ Aside0 (Kd.R (Kd.int .i64) 3 w' w.heap.size (fun _ => True) v4 x4_1) ∧ Aside0 (Kd.R Kd.string 9 w' w.heap.size (fun _ => True) (.slice Ao9 t703.length co9) t703) ∧ Aside0 (Below w.heap.size w w'))
   case atStart => exact ⟨(y700), (0), rs_, H', ⟨Nat.le_refl _⟩, ⟨re_ HO702.out⟩, ⟨re_ HO705.out⟩, ⟨bl_ HB.out⟩⟩
   case round =>
    clear H'
    try clear c2
    try clear c2b0
    try clear c2b1
    try clear p2
    try clear c4
    try clear c8
    obtain ⟨x4_1, x16_1, rfl, HA, HK1, HO_4, HO_14, HB⟩ := hrel
    cases gk with
    | zero => exact absurd HA.out (by simp [impl_ParseList.l0])
    | succ k1 =>
     have H := HA.out
     clear HA
     simp only [impl_ParseList.l0] at H
     by_cases c10 : x16_1 < (t703.length : Int)
     · rw [if_pos c10] at H
       have c10b0 : decide (x16_1 < (t703.length : Int)) = true := decide_eq_true c10
       clear c10
       by_cases c11 : 0 ≤ x16_1
       · rw [if_pos c11] at H
         have c11b0 : decide (0 ≤ x16_1) = true := decide_eq_true c11
         clear c11
         by_cases c12 : x16_1 < (t703.length : Int)
         · rw [if_pos c12] at H
           have c12b0 : decide (x16_1 < (t703.length : Int)) = true := decide_eq_true c12
           clear c12
           obtain ⟨⟨t707, t708⟩, A13, H⟩ := ob_ H
           (try dsimp only at H)
           by_cases c14 : t708 = true
           · subst c14
             rw [if_pos rfl] at H
             by_cases c15 : x4_1.length < 17592186044416
             · rw [if_pos c15] at H
               have LMc15 := Aside0.mk c15
               clear c15
               obtain ⟨y709, hy709⟩ : ∃ y_ : List Int, y_ = (x4_1 ++ [t707]) := ⟨_, rfl⟩
               replace H : (impl_ParseList.l0 k1 y709 t703 (t703.length : Int) (wrap64 (x16_1 + 1))) = some (r1, r2) := by subst hy709; exact H
               have Ny709 := Aside0.mk hy709
               clear hy709
               have H' := Aside0.mk H
               clear H
               have p706 : 0 ≤ (x16_1 : Int) := od_
               have q706 : x16_1 < (t703.length : Int) := od_
               obtain ⟨ad706, e706, hx706_0⟩ := Kd.at_string (Kd.R_reads' HO_14.out).2.2 x16_1 p706 q706
               cases e706
               replace p706 := eq_true p706
               replace q706 := eq_true q706
               go_wp2_with (first | ((with_reducible refine gate_callee (f := 87) rfl ?_); refine gL_ (some 22) Tryz.func87 #[.string (rdOf ByteArray.empty t703 x16_1)] ?_; (with_reducible refine (impl_ParseInt.calls k1 (rdOf ByteArray.empty t703 x16_1) t707 true _ A13.out).mono ?_); rintro e w16 ⟨rfl, hb⟩; refine ⟨_, rfl, ?_⟩; replace HO_4 := Aside0.mk (Kd.R_below (re_ HO_4.out) hb); replace HO_14 := Aside0.mk (Kd.R_below (re_ HO_14.out) hb); replace HB := bo_ HB hb; (try clear hb)) | ((with_reducible refine gate_builtin (b := .append) (xs := #[.tmp 27, .tmp 29]) rfl ?_); at_builtin; refine Kd.R_append (Kd.int .i64) (w0 := w) w.heap.size rfl (.tmp 27) (.tmp 29) 27 3 (.int .i64 0) 8 rfl Tryz.underlying27 info3 rfl (by decide) (by omega) u4 x4_1 t707 [.int .i64 t707] (fun _ => True) (fun _ => False) rfl rfl ?aP (fun _ hk => hk.elim) ?aF ?aO ?aB ?aS ?aL ?_; (case aP => exact rfl); (case aB => exact (bl_ HB.out)); (case aF => exact (fun _ _ => trivial)); (case aO => exact (re_ HO_4.out)); (case aS => exact (below_size (bl_ HB.out))); (case aL => have := LMc15.out; omega); intro v710 w17 ho hb hg hat; rw [← Ny709.out] at ho; replace HO_14 := Aside0.mk (Kd.R_over' (re_ HO_14.out) (Kd.R_typed (re_ HO_4.out)) (by decide) hg); replace HB := Aside0.mk (hb); have HO711 := Aside0.mk (ho); clear HO_4; clear ho hb hg hat))
               go_roundg k1
               case measure => have := HK1.out; omega
               case rel => exact ⟨(y709), (wrap64 (x16_1 + 1)), rs_, H', ⟨by have := HK1.out; omega⟩, ⟨re_ HO711.out⟩, ⟨re_ HO_14.out⟩, ⟨bl_ HB.out⟩⟩
             · rw [if_neg c15] at H
               cases H
           · replace c14 := Bool.eq_false_iff.mpr c14
             subst c14
             rw [if_neg (show ¬ (false = true) by decide)] at H
             simp only [Option.some.injEq, Prod.mk.injEq] at H
             obtain ⟨rfl, rfl⟩ := H
             have p706 : 0 ≤ (x16_1 : Int) := od_
             have q706 : x16_1 < (t703.length : Int) := od_
             obtain ⟨ad706, e706, hx706_0⟩ := Kd.at_string (Kd.R_reads' HO_14.out).2.2 x16_1 p706 q706
             cases e706
             replace p706 := eq_true p706
             replace q706 := eq_true q706
             go_wp2_with (first | ((with_reducible refine gate_callee (f := 87) rfl ?_); refine gL_ (some 22) Tryz.func87 #[.string (rdOf ByteArray.empty t703 x16_1)] ?_; (with_reducible refine (impl_ParseInt.calls k1 (rdOf ByteArray.empty t703 x16_1) t707 false _ A13.out).mono ?_); rintro e w18 ⟨rfl, hb⟩; refine ⟨_, rfl, ?_⟩; replace HO_4 := Aside0.mk (Kd.R_below (re_ HO_4.out) hb); replace HO_14 := Aside0.mk (Kd.R_below (re_ HO_14.out) hb); replace HB := bo_ HB hb; (try clear hb)))
             go_ret2
             exact ⟨_, rf_, by first | exact Kd.R_nil _ _ _ _ _ | exact Kd.N_nil _ _ _ _ _ | exact Kd.V_nil _ _ _ _ _ | exact Kd.Q_nil _ _ _ _ _ | exact Kd.S_nil _ _ _ _ _, bl_ HB.out⟩
         · rw [if_neg c12] at H
           cases H
       · rw [if_neg c11] at H
         cases H
     · rw [if_neg c10] at H
       have c10b0 : decide (x16_1 < (t703.length : Int)) = false := decide_eq_false c10
       clear c10
       simp only [Option.some.injEq, Prod.mk.injEq] at H
       obtain ⟨rfl, rfl⟩ := H
       go_wp2
       go_ret2
       exact ⟨_, rf_, re_ HO_4.out, bl_ HB.out⟩
end Go.Proofs.YteaiehpgigaoaaaGreatDoor.PB
end
