-- Bundled by shake.py from this session's printed and written texts; Lean checks it.
import Derived.Test.YteaiehpgigaoaaaGreatDoorZFnExamplesx1
import Derived.Test.YteaiehpgigaoaaaGreatDoorZFnExamplesx2
import Derived.Test.YteaiehpgigaoaaaGreatDoorZFnExamplesx3
section
namespace Go.Proofs.YteaiehpgigaoaaaGreatDoor.PB
open Go.RowKit Go.Proofs.YteaiehpgigaoaaaGreatDoorW.PrintWords Go.Proofs.YteaiehpgigaoaaaGreatDoorW.PrintLast Go.Proofs.YteaiehpgigaoaaaGreatDoorW.PrintMore
attribute [local go_sem] max2_int min2_int max_two min_two max_three min_three max_four min_four
set_option linter.unusedVariables false
set_option linter.unusedSimpArgs false
set_option maxHeartbeats 8000000
set_option maxRecDepth 100000
def spec_Join.l0 : Nat → List ByteArray → ByteArray → List Int → Int → Option (ByteArray)
 | 0, _, _, _, _ => none
 | k + 1, x0, x1, x5, x6 => if x6 < (x0.length : Int) then (if x6 > 0 then (if x5.length + x1.size < 140737488355328 then ((some (x5 ++ bytesOf x1 : List Int)).bind fun y245 => (if 0 ≤ x6 then (if y245.length + (rdOf ByteArray.empty x0 x6).size < 140737488355328 then (spec_Join.l0 k x0 x1 (y245 ++ bytesOf (rdOf ByteArray.empty x0 x6)) (wrap64 (x6 + 1))) else (none)) else (none))) else (none)) else (if 0 ≤ x6 then (if x5.length + (rdOf ByteArray.empty x0 x6).size < 140737488355328 then (spec_Join.l0 k x0 x1 (x5 ++ bytesOf (rdOf ByteArray.empty x0 x6)) (wrap64 (x6 + 1))) else (none)) else (none))) else (some (strOfNums x5))
def spec_Join.f (k : Nat) (l0 : List ByteArray) (a1 : ByteArray) : Option (ByteArray) := spec_Join.l0 k l0 a1 (([] : List Int)) 0
theorem spec_Join.mono_l : ∀ k, (∀ y0 y1 y2 y3, LeO (spec_Join.l0 k y0 y1 y2 y3) (spec_Join.l0 (k + 1) y0 y1 y2 y3))
 | 0 => fun _ _ _ _ r h => by simp [spec_Join.l0] at h
 | k + 1 => by
  have ih0 := spec_Join.mono_l k
  · intro y0 y1 y2 y3
    unfold spec_Join.l0
    repeat' first
    | (with_reducible exact ih0 _ _ _ _)
    | (with_reducible exact LeO.refl _)
    | (with_reducible exact LeO.none _)
    | (with_reducible refine LeO.ite ?_ ?_)
    | (with_reducible refine LeO.bind ?_ (fun _ => ?_))
    | exact ih0 _ _ _ _
    | exact LeO.none _
    | refine LeO.ite ?_ ?_
    | refine LeO.bind ?_ (fun _ => ?_)
theorem spec_Join.mono : ∀ a0 a1 k, LeO (spec_Join.f k a0 a1) (spec_Join.f (k + 1) a0 a1) := by
 intro a0 a1 k
 have ih0 := spec_Join.mono_l k
 unfold spec_Join.f
 repeat' first
  | (with_reducible exact ih0 _ _ _ _)
  | (with_reducible exact LeO.refl _)
  | (with_reducible exact LeO.none _)
  | (with_reducible refine LeO.ite ?_ ?_)
  | (with_reducible refine LeO.bind ?_ (fun _ => ?_))
  | exact ih0 _ _ _ _
  | exact LeO.none _
  | refine LeO.ite ?_ ?_
  | refine LeO.bind ?_ (fun _ => ?_)
theorem spec_Join.calls (k : Nat) (A0 : Option Addr) (c0 : Nat) (l0 : List ByteArray) (a1 : ByteArray) (r : ByteArray) (w : World) (hr0 : Kd.C Kd.string w A0 l0.length l0) (hc0 : l0.length ≤ c0) (h : spec_Join.f k l0 a1 = some r) :
 Calls Tryz.prog 78 #[.slice A0 l0.length c0, .string a1] w fun e w' => e = .returned (.string r) ∧ Below w.heap.size w w' := by
 have HR0 := Aside0.mk hr0
 have HC0 := Aside0.mk hc0
 clear hr0 hc0
 have HB := Aside0.mk (Below.refl w.heap.size w)
 have H := h
 clear h
 unfold spec_Join.f at H
 obtain ⟨y242, hy242⟩ : ∃ y_ : List Int, y_ = (([] : List Int)) := ⟨_, rfl⟩
 replace H : (spec_Join.l0 k l0 a1 y242 0) = some r := by subst hy242; exact H
 have Ny242 := Aside0.mk hy242
 clear hy242
 have H' := Aside0.mk H
 clear H
 go_enter Tryz.func78, Tryz.ntmps78
 go_wp2_with (first | ((with_reducible refine gate_dst (N := 7) rfl ?_); refine Kd.R_lit (Kd.int .u8) _ 5 ?hg (N := 7) ?hd (xs := ([] : List Int)) (inner := []) (ok := fun _ => True) (okp := fun _ => True) ?hr ?hp (fun _ hk => hk) trivial (Below.refl _ _) (Nat.le_refl _) (by simp) ?_; (case hd => rfl); (case hg => rfl); (case hr => first | (go_simp; done) | (go_simp; rfl)); (case hp => exact (Reps.none _ _)); intro v243 w3 ho4 hb hg_ hnew_; clear hg_ hnew_; (first | rw [← Ny242.out] at ho4 | (simp only [Int.reduceToNat] at ho4; rw [← Ny242.out] at ho4)); have HO244 := Aside0.mk (Kd.R_lower ho4 (below_size (bl_ HB.out))); replace HB := bo_ HB hb; clear hb ho4))
 go_loopg [5, 6] k (fun kq v5 v6 w' => ∃ (x5_1 : List Int) (x6_1 : Int), v6 = .int .i64 x6_1 ∧ Aside0 (spec_Join.l0 kq l0 a1 x5_1 x6_1 = some r) ∧ Aside0 (kq ≤ k) ∧ Aside0 (Kd.R (Kd.int .u8) 5 w' w.heap.size (fun _ => True) v5 x5_1) ∧ Aside0 (Below w.heap.size w w'))
 case atStart => exact ⟨(y242), (0), rs_, H', ⟨Nat.le_refl _⟩, ⟨re_ HO244.out⟩, ⟨bl_ HB.out⟩⟩
 case round =>
  clear H'
  try clear p2
  obtain ⟨x5_1, x6_1, rfl, HA, HK1, HO_5, HB⟩ := hrel
  cases gk with
  | zero => exact absurd HA.out (by simp [spec_Join.l0])
  | succ k1 =>
   have H := HA.out
   clear HA
   simp only [spec_Join.l0] at H
   by_cases c5 : x6_1 < (l0.length : Int)
   · rw [if_pos c5] at H
     have c5b0 : decide (x6_1 < (l0.length : Int)) = true := decide_eq_true c5
     clear c5
     by_cases c6 : x6_1 > 0
     · rw [if_pos c6] at H
       have c6b0 : decide (0 < x6_1) = true := decide_eq_true c6
       clear c6
       by_cases c7 : x5_1.length + a1.size < 140737488355328
       · rw [if_pos c7] at H
         have LMc7 := Aside0.mk c7
         clear c7
         obtain ⟨y245, hy245⟩ : ∃ y_ : List Int, y_ = (x5_1 ++ bytesOf a1) := ⟨_, rfl⟩
         replace H : (if 0 ≤ x6_1 then (if y245.length + (rdOf ByteArray.empty l0 x6_1).size < 140737488355328 then (spec_Join.l0 k1 l0 a1 (y245 ++ bytesOf (rdOf ByteArray.empty l0 x6_1)) (wrap64 (x6_1 + 1))) else (none)) else (none)) = some r := by subst hy245; exact H
         have Ny245 := Aside0.mk hy245
         clear hy245
         by_cases c8 : 0 ≤ x6_1
         · rw [if_pos c8] at H
           have c8b0 : decide (0 ≤ x6_1) = true := decide_eq_true c8
           clear c8
           by_cases c9 : y245.length + (rdOf ByteArray.empty l0 x6_1).size < 140737488355328
           · rw [if_pos c9] at H
             have LMc9 := Aside0.mk c9
             clear c9
             obtain ⟨y249, hy249⟩ : ∃ y_ : List Int, y_ = (y245 ++ bytesOf (rdOf ByteArray.empty l0 x6_1)) := ⟨_, rfl⟩
             replace H : (spec_Join.l0 k1 l0 a1 y249 (wrap64 (x6_1 + 1))) = some r := by subst hy249; exact H
             have Ny249 := Aside0.mk hy249
             clear hy249
             have H' := Aside0.mk H
             clear H
             go_wp2_with (first | (at_builtin; refine print_append_str (w0 := w) w.heap.size rfl (.tmp 16) _ 24 9 5 rfl Tryz.underlying24 Tryz.underlying9 info5 u5 x5_1 a1 rfl rfl ?aO ?aB ?aS ?aL ?_; (case aB => exact (bl_ HB.out)); (case aO => exact (Kd.own_of_R (re_ HO_5.out))); (case aS => exact (below_size (bl_ HB.out))); (case aL => have := LMc7.out; omega); intro v246 w10 ho0 hb hg; have ho := Kd.R_of_own (h1 := fun _ => rfl) (ok := fun _ => True) ho0 (fun _ _ => trivial); clear ho0; have hat := True.intro; rw [← Ny245.out] at ho; change Kd.R (Kd.int .u8) 5 w10 w.heap.size (fun _ => True) v246 y245 at ho; replace HB := Aside0.mk (hb); have HO247 := Aside0.mk (ho); clear HO_5; clear ho hb hg hat; have p248 : 0 ≤ (x6_1 : Int) := od_; have q248 : x6_1 < (l0.length : Int) := od_; obtain ⟨ad248, e248, hx248_0⟩ := Kd.at_string HR0.out x6_1 p248 q248; cases e248; (try replace hx248_0 := (HB.out.cell (World.block_lt_of_cell? w _ hx248_0)).trans hx248_0); replace p248 := eq_true p248; replace q248 := eq_true q248) | (at_builtin; refine print_append_str (w0 := w) w.heap.size rfl (.tmp 19) _ 24 9 5 rfl Tryz.underlying24 Tryz.underlying9 info5 v246 y245 (rdOf ByteArray.empty l0 x6_1) rfl rfl ?aO ?aB ?aS ?aL ?_; (case aB => exact (bl_ HB.out)); (case aO => exact (Kd.own_of_R (re_ HO247.out))); (case aS => exact (below_size (bl_ HB.out))); (case aL => have := LMc9.out; omega); intro v250 w11 ho0 hb hg; have ho := Kd.R_of_own (h1 := fun _ => rfl) (ok := fun _ => True) ho0 (fun _ _ => trivial); clear ho0; have hat := True.intro; rw [← Ny249.out] at ho; change Kd.R (Kd.int .u8) 5 w11 w.heap.size (fun _ => True) v250 y249 at ho; replace HB := Aside0.mk (hb); have HO251 := Aside0.mk (ho); clear HO247; clear ho hb hg hat))
             go_roundg k1
             case measure => have := HK1.out; omega
             case rel => exact ⟨(y249), (wrap64 (x6_1 + 1)), rs_, H', ⟨by have := HK1.out; omega⟩, ⟨re_ HO251.out⟩, ⟨bl_ HB.out⟩⟩
           · rw [if_neg c9] at H
             cases H
         · rw [if_neg c8] at H
           cases H
       · rw [if_neg c7] at H
         cases H
     · rw [if_neg c6] at H
       have c6b0 : decide (0 < x6_1) = false := decide_eq_false c6
       clear c6
       by_cases c12 : 0 ≤ x6_1
       · rw [if_pos c12] at H
         have c12b0 : decide (0 ≤ x6_1) = true := decide_eq_true c12
         clear c12
         by_cases c13 : x5_1.length + (rdOf ByteArray.empty l0 x6_1).size < 140737488355328
         · rw [if_pos c13] at H
           have LMc13 := Aside0.mk c13
           clear c13
           obtain ⟨y253, hy253⟩ : ∃ y_ : List Int, y_ = (x5_1 ++ bytesOf (rdOf ByteArray.empty l0 x6_1)) := ⟨_, rfl⟩
           replace H : (spec_Join.l0 k1 l0 a1 y253 (wrap64 (x6_1 + 1))) = some r := by subst hy253; exact H
           have Ny253 := Aside0.mk hy253
           clear hy253
           have H' := Aside0.mk H
           clear H
           have p252 : 0 ≤ (x6_1 : Int) := od_
           have q252 : x6_1 < (l0.length : Int) := od_
           obtain ⟨ad252, e252, hx252_0⟩ := Kd.at_string HR0.out x6_1 p252 q252
           cases e252
           (try replace hx252_0 := (HB.out.cell (World.block_lt_of_cell? w _ hx252_0)).trans hx252_0)
           replace p252 := eq_true p252
           replace q252 := eq_true q252
           go_wp2_with (first | (at_builtin; refine print_append_str (w0 := w) w.heap.size rfl (.tmp 19) _ 24 9 5 rfl Tryz.underlying24 Tryz.underlying9 info5 u5 x5_1 (rdOf ByteArray.empty l0 x6_1) rfl rfl ?aO ?aB ?aS ?aL ?_; (case aB => exact (bl_ HB.out)); (case aO => exact (Kd.own_of_R (re_ HO_5.out))); (case aS => exact (below_size (bl_ HB.out))); (case aL => have := LMc13.out; omega); intro v254 w14 ho0 hb hg; have ho := Kd.R_of_own (h1 := fun _ => rfl) (ok := fun _ => True) ho0 (fun _ _ => trivial); clear ho0; have hat := True.intro; rw [← Ny253.out] at ho; change Kd.R (Kd.int .u8) 5 w14 w.heap.size (fun _ => True) v254 y253 at ho; replace HB := Aside0.mk (hb); have HO255 := Aside0.mk (ho); clear HO_5; clear ho hb hg hat))
           go_roundg k1
           case measure => have := HK1.out; omega
           case rel => exact ⟨(y253), (wrap64 (x6_1 + 1)), rs_, H', ⟨by have := HK1.out; omega⟩, ⟨re_ HO255.out⟩, ⟨bl_ HB.out⟩⟩
         · rw [if_neg c13] at H
           cases H
       · rw [if_neg c12] at H
         cases H
   · rw [if_neg c5] at H
     have c5b0 : decide (x6_1 < (l0.length : Int)) = false := decide_eq_false c5
     clear c5
     obtain rfl := Option.some.inj H
     have hcv15 := own_string (P := Tryz.prog) Tryz.underlying24 Tryz.underlying5 Tryz.underlying9 (Kd.own_of_R HO_5.out)
     go_wp2
     go_ret
     exact ⟨rf_, bl_ HB.out⟩
def spec_ListText.l0 : Nat → List Int → List ByteArray → Int → Option (ByteArray)
 | 0, _, _, _ => none
 | k + 1, x0, x3, x4 => if x4 < (x0.length : Int) then (if 0 ≤ x4 then ((spec_FormatInt.f k (rd x0 x4)).bind fun t260 => (if x3.length < 8796093022208 then (spec_ListText.l0 k x0 (x3 ++ [t260]) (wrap64 (x4 + 1))) else (none))) else (none)) else ((spec_Join.f k x3 (⟨#[44]⟩ : ByteArray)).bind fun t264 => (some t264))
def spec_ListText.f (k : Nat) (l0 : List Int) : Option (ByteArray) := if (l0.length : Int) = 0 then (some (⟨#[110, 111, 110, 101]⟩ : ByteArray)) else (spec_ListText.l0 k l0 (([] : List ByteArray)) 0)
theorem spec_ListText.mono_l : ∀ k, (∀ y0 y1 y2, LeO (spec_ListText.l0 k y0 y1 y2) (spec_ListText.l0 (k + 1) y0 y1 y2))
 | 0 => fun _ _ _ r h => by simp [spec_ListText.l0] at h
 | k + 1 => by
  have ih0 := spec_ListText.mono_l k
  · intro y0 y1 y2
    unfold spec_ListText.l0
    repeat' first
    | (with_reducible exact ih0 _ _ _)
    | (with_reducible exact spec_FormatInt.mono _ _)
    | (with_reducible exact spec_Join.mono _ _ _)
    | (with_reducible exact LeO.refl _)
    | (with_reducible exact LeO.none _)
    | (with_reducible refine LeO.ite ?_ ?_)
    | (with_reducible refine LeO.bind ?_ (fun _ => ?_))
    | exact ih0 _ _ _
    | exact LeO.none _
    | refine LeO.ite ?_ ?_
    | refine LeO.bind ?_ (fun _ => ?_)
theorem spec_ListText.mono : ∀ a0 k, LeO (spec_ListText.f k a0) (spec_ListText.f (k + 1) a0) := by
 intro a0 k
 have ih0 := spec_ListText.mono_l k
 unfold spec_ListText.f
 repeat' first
  | (with_reducible exact ih0 _ _ _)
  | (with_reducible exact spec_FormatInt.mono _ _)
  | (with_reducible exact spec_Join.mono _ _ _)
  | (with_reducible exact LeO.refl _)
  | (with_reducible exact LeO.none _)
  | (with_reducible refine LeO.ite ?_ ?_)
  | (with_reducible refine LeO.bind ?_ (fun _ => ?_))
  | exact ih0 _ _ _
  | exact LeO.none _
  | refine LeO.ite ?_ ?_
  | refine LeO.bind ?_ (fun _ => ?_)
theorem spec_ListText.calls (k : Nat) (A0 : Option Addr) (c0 : Nat) (l0 : List Int) (r : ByteArray) (w : World) (hr0 : Kd.C (Kd.int .i64) w A0 l0.length l0) (hc0 : l0.length ≤ c0) (h : spec_ListText.f k l0 = some r) :
 Calls Tryz.prog 41 #[.slice A0 l0.length c0] w fun e w' => e = .returned (.string r) ∧ Below w.heap.size w w' := by
 have HR0 := Aside0.mk hr0
 have HC0 := Aside0.mk hc0
 clear hr0 hc0
 have HB := Aside0.mk (Below.refl w.heap.size w)
 have H := h
 clear h
 unfold spec_ListText.f at H
 by_cases c2 : (l0.length : Int) = 0
 · rw [if_pos c2] at H
   have c2b0 : ((l0.length : Int) == 0) = true := beq_iff_eq.mpr c2
   have c2b1 : ((l0.length : Int) != 0) = false := bne_eq_false_iff_eq.mpr c2
   clear c2
   obtain rfl := Option.some.inj H
   go_enter Tryz.func41, Tryz.ntmps41
   go_wp2
   go_ret
   exact ⟨rf_, bl_ HB.out⟩
 · rw [if_neg c2] at H
   have c2b0 : ((l0.length : Int) == 0) = false := beq_eq_false_iff_ne.mpr c2
   have c2b1 : ((l0.length : Int) != 0) = true := bne_iff_ne.mpr c2
   have c2b2 : ¬ (l0 = []) := fun h_ => c2 (by rw [h_]; rfl)
   obtain ⟨y256, hy256⟩ : ∃ y_ : List ByteArray, y_ = (([] : List ByteArray)) := ⟨_, rfl⟩
   replace H : (spec_ListText.l0 k l0 y256 0) = some r := by subst hy256; exact H
   have Ny256 := Aside0.mk hy256
   clear hy256
   have H' := Aside0.mk H
   clear H
   go_enter Tryz.func41, Tryz.ntmps41
   go_wp2_with (first | ((with_reducible refine gate_dst (N := 8) rfl ?_); refine Kd.R_lit Kd.string _ 9 ?hg (N := 8) ?hd (xs := ([] : List ByteArray)) (inner := []) (ok := fun _ => True) (okp := fun _ => True) ?hr ?hp (fun _ hk => hk) trivial (Below.refl _ _) (Nat.le_refl _) (by simp) ?_; (case hd => rfl); (case hg => rfl); (case hr => first | (go_simp; done) | (go_simp; rfl)); (case hp => exact (Reps.none _ _)); intro v257 w3 ho4 hb hg_ hnew_; clear hg_ hnew_; (first | rw [← Ny256.out] at ho4 | (simp only [Int.reduceToNat] at ho4; rw [← Ny256.out] at ho4)); have HO258 := Aside0.mk (Kd.R_lower ho4 (below_size (bl_ HB.out))); replace HB := bo_ HB hb; clear hb ho4))
   go_loopg [3, 4] k (fun kq v3 v4 w' => ∃ (x3_1 : List ByteArray) (x4_1 : Int), v4 = .int .i64 x4_1 ∧ Aside0 (spec_ListText.l0 kq l0 x3_1 x4_1 = some r) ∧ Aside0 (kq ≤ k) ∧ Aside0 (Kd.R Kd.string 9 w' w.heap.size (fun _ => True) v3 x3_1) ∧ Aside0 (Below w.heap.size w w'))
   case atStart => exact ⟨(y256), (0), rs_, H', ⟨Nat.le_refl _⟩, ⟨re_ HO258.out⟩, ⟨bl_ HB.out⟩⟩
   case round =>
    clear H'
    try clear c2
    try clear c2b0
    try clear c2b1
    try clear c2b2
    try clear p2
    try clear c4
    obtain ⟨x3_1, x4_1, rfl, HA, HK1, HO_3, HB⟩ := hrel
    cases gk with
    | zero => exact absurd HA.out (by simp [spec_ListText.l0])
    | succ k1 =>
     have H := HA.out
     clear HA
     simp only [spec_ListText.l0] at H
     by_cases c5 : x4_1 < (l0.length : Int)
     · rw [if_pos c5] at H
       have c5b0 : decide (x4_1 < (l0.length : Int)) = true := decide_eq_true c5
       clear c5
       by_cases c6 : 0 ≤ x4_1
       · rw [if_pos c6] at H
         have c6b0 : decide (0 ≤ x4_1) = true := decide_eq_true c6
         clear c6
         obtain ⟨t260, A7, H⟩ := ob_ H
         by_cases c8 : x3_1.length < 8796093022208
         · rw [if_pos c8] at H
           have LMc8 := Aside0.mk c8
           clear c8
           obtain ⟨y261, hy261⟩ : ∃ y_ : List ByteArray, y_ = (x3_1 ++ [t260]) := ⟨_, rfl⟩
           replace H : (spec_ListText.l0 k1 l0 y261 (wrap64 (x4_1 + 1))) = some r := by subst hy261; exact H
           have Ny261 := Aside0.mk hy261
           clear hy261
           have H' := Aside0.mk H
           clear H
           have p259 : 0 ≤ (x4_1 : Int) := od_
           have q259 : x4_1 < (l0.length : Int) := od_
           obtain ⟨ad259, e259, hx259_0⟩ := Kd.at_int HR0.out x4_1 p259 q259
           cases e259
           (try replace hx259_0 := (HB.out.cell (World.block_lt_of_cell? w _ hx259_0)).trans hx259_0)
           replace p259 := eq_true p259
           replace q259 := eq_true q259
           go_wp2_with (first | ((with_reducible refine gate_callee (f := 35) rfl ?_); refine gL_ (some 20) Tryz.func35 #[.int .i64 (rd l0 x4_1)] ?_; (with_reducible refine (spec_FormatInt.calls k1 (rd l0 x4_1) t260 _ A7.out).mono ?_); rintro e w9 ⟨rfl, hb⟩; refine ⟨_, rfl, ?_⟩; replace HO_3 := Aside0.mk (Kd.R_below (re_ HO_3.out) hb); replace HB := bo_ HB hb; (try clear hb)) | ((with_reducible refine gate_builtin (b := .append) (xs := #[.tmp 15, .tmp 21]) rfl ?_); at_builtin; refine Kd.R_append Kd.string (w0 := w) w.heap.size rfl (.tmp 15) (.tmp 21) 40 9 (.string ⟨#[]⟩) 16 rfl Tryz.underlying40 info9 rfl (by decide) (by omega) u3 x3_1 t260 [.string t260] (fun _ => True) (fun _ => False) rfl rfl ?aP (fun _ hk => hk.elim) ?aF ?aO ?aB ?aS ?aL ?_; (case aP => exact rfl); (case aB => exact (bl_ HB.out)); (case aF => exact (fun _ _ => trivial)); (case aO => exact (re_ HO_3.out)); (case aS => exact (below_size (bl_ HB.out))); (case aL => have := LMc8.out; omega); intro v262 w10 ho hb hg hat; rw [← Ny261.out] at ho; replace HB := Aside0.mk (hb); have HO263 := Aside0.mk (ho); clear HO_3; clear ho hb hg hat))
           go_roundg k1
           case measure => have := HK1.out; omega
           case rel => exact ⟨(y261), (wrap64 (x4_1 + 1)), rs_, H', ⟨by have := HK1.out; omega⟩, ⟨re_ HO263.out⟩, ⟨bl_ HB.out⟩⟩
         · rw [if_neg c8] at H
           cases H
       · rw [if_neg c6] at H
         cases H
     · rw [if_neg c5] at H
       have c5b0 : decide (x4_1 < (l0.length : Int)) = false := decide_eq_false c5
       clear c5
       obtain ⟨t264, A11, H⟩ := ob_ H
       obtain rfl := Option.some.inj H
       obtain ⟨Ao12, co12, eo12⟩ := Kd.R_slice HO_3.out
       subst eo12
       go_wp2_with (first | ((with_reducible refine gate_callee (f := 78) rfl ?_); refine gL_ (some 24) Tryz.func78 #[.slice Ao12 x3_1.length co12, .string (⟨#[44]⟩ : ByteArray)] ?_; (with_reducible refine (spec_Join.calls k1 _ _ x3_1 (⟨#[44]⟩ : ByteArray) t264 _ ?side1 ?side2 A11.out).mono ?_); (case side1 => exact ce_ ((Kd.R_reads' HO_3.out).2.2)); (case side2 => exact (Kd.R_reads' HO_3.out).2.1); rintro e w13 ⟨rfl, hb⟩; refine ⟨_, rfl, ?_⟩; replace HO_3 := Aside0.mk (Kd.R_below (re_ HO_3.out) hb); replace HB := bo_ HB hb; (try clear hb)))
       go_ret
       exact ⟨rf_, bl_ HB.out⟩
def spec_SemigroupText.f (k : Nat) (l0_0 : List Int) : Option (ByteArray) := (spec_IsSemigroup.f k l0_0).bind fun t266 => (if t266 = true then ((spec_ListText.f k l0_0).bind fun t267 => (if 1 + t267.size ≤ 9223372036854775807 then (if ((⟨#[60]⟩ : ByteArray) ++ t267).size + 1 ≤ 9223372036854775807 then (some (((⟨#[60]⟩ : ByteArray) ++ t267) ++ (⟨#[62]⟩ : ByteArray))) else (none)) else (none))) else (some (⟨#[]⟩ : ByteArray)))
theorem spec_SemigroupText.mono : ∀ a0 k, LeO (spec_SemigroupText.f k a0) (spec_SemigroupText.f (k + 1) a0) := by
 intro a0 k
 unfold spec_SemigroupText.f
 repeat' first
  | (with_reducible exact spec_IsSemigroup.mono _ _)
  | (with_reducible exact spec_ListText.mono _ _)
  | (with_reducible exact LeO.refl _)
  | (with_reducible exact LeO.none _)
  | (with_reducible refine LeO.ite ?_ ?_)
  | (with_reducible refine LeO.bind ?_ (fun _ => ?_))
  | exact LeO.none _
  | refine LeO.ite ?_ ?_
  | refine LeO.bind ?_ (fun _ => ?_)
theorem spec_SemigroupText.calls (k : Nat) (A0_0 : Option Addr) (c0_0 : Nat) (l0_0 : List Int) (r : ByteArray) (w : World) (hr0_0 : Kd.C (Kd.int .i64) w A0_0 l0_0.length l0_0) (hc0_0 : l0_0.length ≤ c0_0) (h : spec_SemigroupText.f k l0_0 = some r) :
 Calls Tryz.prog 20 #[.agg #[.slice A0_0 l0_0.length c0_0]] w fun e w' => e = .returned (.string r) ∧ Below w.heap.size w w' := by
 have hu29 := Tryz.underlying29
 have HR0_0 := Aside0.mk hr0_0
 have HC0_0 := Aside0.mk hc0_0
 clear hr0_0 hc0_0
 have HB := Aside0.mk (Below.refl w.heap.size w)
 have H := h
 clear h
 unfold spec_SemigroupText.f at H
 obtain ⟨t266, A2, H⟩ := ob_ H
 by_cases c3 : t266 = true
 · subst c3
   rw [if_pos rfl] at H
   obtain ⟨t267, A4, H⟩ := ob_ H
   by_cases c5 : 1 + t267.size ≤ 9223372036854775807
   · rw [if_pos c5] at H
     have c5b0 := eq_true c5
     have c5b1 : decide (1 + t267.size ≤ 9223372036854775807) = true := decide_eq_true c5
     try have c5b2 : (9223372036854775807 < 1 + t267.size) = False := eq_false (Nat.not_lt.2 c5)
     by_cases c6 : ((⟨#[60]⟩ : ByteArray) ++ t267).size + 1 ≤ 9223372036854775807
     · rw [if_pos c6] at H
       have c6b0 := eq_true c6
       have c6b1 : decide (((⟨#[60]⟩ : ByteArray) ++ t267).size + 1 ≤ 9223372036854775807) = true := decide_eq_true c6
       try have c6b2 : (9223372036854775807 < ((⟨#[60]⟩ : ByteArray) ++ t267).size + 1) = False := eq_false (Nat.not_lt.2 c6)
       have c6b3_ : (9223372036854775807 < 1 + t267.size + 1) = False := eq_false (by have h_ := c6; have e0_ : (⟨#[60]⟩ : ByteArray).size = 1 := rfl; simp only [ByteArray.size_append] at h_; omega)
       obtain rfl := Option.some.inj H
       go_enter Tryz.func20, Tryz.ntmps20
       go_wp2_with (first | ((with_reducible refine gate_dst (N := 1) rfl ?_); refine bx_ 1 #[.slice A0_0 l0_0.length c0_0] 29 ?_; intro gb265 hg w7 hbox hb; have BK265 := Aside0.mk (hbox); have GW265 := gw_ hg HB; have GE265 := gw_ hg HB; replace HB := bo_ HB hb; clear hb hbox hg; have hcz8_0 := cz_ BK265; have hfz8_0 := blk_frozen BK265.out 0) | ((with_reducible refine gate_callee (f := 34) rfl ?_); refine gL_ (some 4) Tryz.func34 #[.agg #[.slice A0_0 l0_0.length c0_0]] ?_; (with_reducible refine (spec_IsSemigroup.calls k _ _ l0_0 true _ ?side1 ?side2 A2.out).mono ?_); (case side1 => exact ch_ HR0_0 HB); (case side2 => exact HC0_0.out); rintro e w9 ⟨rfl, hb⟩; refine ⟨_, rfl, ?_⟩; replace BK265 := bk_ BK265 hb; replace HB := bp_ HB hb; (try clear hb); have hcz10_0 := cz_ BK265; have hfz10_0 := blk_frozen BK265.out 0) | ((with_reducible refine gate_callee (f := 41) rfl ?_); refine gL_ (some 8) Tryz.func41 #[.slice A0_0 l0_0.length c0_0] ?_; (with_reducible refine (spec_ListText.calls k _ _ l0_0 t267 _ ?side1 ?side2 A4.out).mono ?_); (case side1 => exact ch_ HR0_0 HB); (case side2 => exact HC0_0.out); rintro e w11 ⟨rfl, hb⟩; refine ⟨_, rfl, ?_⟩; replace BK265 := bk_ BK265 hb; replace HB := bp_ HB hb; (try clear hb)))
       go_ret
       exact ⟨rf_, bq_ HB⟩
     · rw [if_neg c6] at H
       cases H
   · rw [if_neg c5] at H
     cases H
 · replace c3 := Bool.eq_false_iff.mpr c3
   subst c3
   rw [if_neg (show ¬ (false = true) by decide)] at H
   obtain rfl := Option.some.inj H
   go_enter Tryz.func20, Tryz.ntmps20
   go_wp2_with (first | ((with_reducible refine gate_dst (N := 1) rfl ?_); refine bx_ 1 #[.slice A0_0 l0_0.length c0_0] 29 ?_; intro gb265 hg w12 hbox hb; have BK265 := Aside0.mk (hbox); have GW265 := gw_ hg HB; have GE265 := gw_ hg HB; replace HB := bo_ HB hb; clear hb hbox hg; have hcz13_0 := cz_ BK265; have hfz13_0 := blk_frozen BK265.out 0) | ((with_reducible refine gate_callee (f := 34) rfl ?_); refine gL_ (some 4) Tryz.func34 #[.agg #[.slice A0_0 l0_0.length c0_0]] ?_; (with_reducible refine (spec_IsSemigroup.calls k _ _ l0_0 false _ ?side1 ?side2 A2.out).mono ?_); (case side1 => exact ch_ HR0_0 HB); (case side2 => exact HC0_0.out); rintro e w14 ⟨rfl, hb⟩; refine ⟨_, rfl, ?_⟩; replace BK265 := bk_ BK265 hb; replace HB := bp_ HB hb; (try clear hb)))
   go_ret
   exact ⟨rf_, bq_ HB⟩
def spec_ParseSemigroup.f (k : Nat) (a0 : ByteArray) : Option (List Int × Bool) := if (a0.size : Int) < 2 then (some (([] : List Int), false)) else (if 1 ≤ (wrap64 ((a0.size : Int) - 1)) then (if (wrap64 ((a0.size : Int) - 1)) ≤ (a0.size : Int) then ((spec_ParseList.f k (a0.extract 1 ((wrap64 ((a0.size : Int) - 1)) : Int).toNat)).bind fun bt269 => (if bt269.2 = true then ((spec_SemigroupText.f k bt269.1).bind fun t274 => (if t274.toList = a0.toList then (some (bt269.1, true)) else (some (([] : List Int), false)))) else (some (([] : List Int), false)))) else (none)) else (none))
theorem spec_ParseSemigroup.mono : ∀ a0 k, LeO (spec_ParseSemigroup.f k a0) (spec_ParseSemigroup.f (k + 1) a0) := by
 intro a0 k
 unfold spec_ParseSemigroup.f
 repeat' first
  | (with_reducible exact spec_ParseList.mono _ _)
  | (with_reducible exact spec_SemigroupText.mono _ _)
  | (with_reducible exact LeO.refl _)
  | (with_reducible exact LeO.none _)
  | (with_reducible refine LeO.ite ?_ ?_)
  | (with_reducible refine LeO.bind ?_ (fun _ => ?_))
  | exact LeO.none _
  | refine LeO.ite ?_ ?_
  | refine LeO.bind ?_ (fun _ => ?_)
theorem spec_ParseSemigroup.calls (k : Nat) (a0 : ByteArray) (r1 : List Int) (r2 : Bool) (w : World) (h : spec_ParseSemigroup.f k a0 = some (r1, r2)) :
 Calls Tryz.prog 10 #[.string a0] w fun e w' => ∃ v0_ : Value, e = .returned (.tuple #[.agg #[v0_], .bool r2]) ∧ Kd.R (Kd.int .i64) 3 w' w.heap.size (fun _ => True) v0_ r1 ∧ Below w.heap.size w w' := by
 have hu29 := Tryz.underlying29
 have HB := Aside0.mk (Below.refl w.heap.size w)
 have H := h
 clear h
 unfold spec_ParseSemigroup.f at H
 by_cases c2 : (a0.size : Int) < 2
 · rw [if_pos c2] at H
   have c2b0 : decide ((a0.size : Int) < 2) = true := decide_eq_true c2
   have c2b1 : decide (a0.size < 2) = true := decide_eq_true (by omega)
   clear c2
   simp only [Option.some.injEq, Prod.mk.injEq] at H
   obtain ⟨rfl, rfl⟩ := H
   go_enter Tryz.func10, Tryz.ntmps10
   go_wp2_with (first | ((with_reducible refine gate_dst (N := 2) rfl ?_); refine bx_ 2 #[.slice none 0 0] 29 ?_; intro gb268 hg w3 hbox hb; have BK268 := Aside0.mk (hbox); have GW268 := gw_ hg HB; have GE268 := gw_ hg HB; replace HB := bo_ HB hb; clear hb hbox hg; have hcz4_0 := cz_ BK268; have hfz4_0 := blk_frozen BK268.out 0))
   refine bodyPost_ret (results_ct rfl _ _ gb268 29 #[.slice none 0 0] (0, 0) _ rfl (by (with_reducible repeat (first | refine blk_drewN ?_ _ | refine blk_drew ?_ | refine blk_alloc ?_ _)); refine blk_put (cs := #[.slice none 0 0]) ?_ 0 _ rfl; (with_reducible repeat (first | refine blk_drewN ?_ _ | refine blk_drew ?_ | refine blk_alloc ?_ _)); exact BK268.out) Tryz.underlying29 rfl (by kernel_rfl)) rfl ?_
   exact ⟨_, rf_, by first | exact Kd.R_nil _ _ _ _ _ | exact Kd.N_nil _ _ _ _ _ | exact Kd.V_nil _ _ _ _ _ | exact Kd.Q_nil _ _ _ _ _ | exact Kd.S_nil _ _ _ _ _, bq_ HB⟩
 · rw [if_neg c2] at H
   have c2b0 : decide ((a0.size : Int) < 2) = false := decide_eq_false c2
   have c2b1 : decide (a0.size < 2) = false := decide_eq_false (by omega)
   clear c2
   by_cases c5 : 1 ≤ (wrap64 ((a0.size : Int) - 1))
   · rw [if_pos c5] at H
     have c5b0 := eq_true c5
     have c5b1 : decide (1 ≤ (wrap64 ((a0.size : Int) - 1))) = true := decide_eq_true c5
     clear c5
     by_cases c6 : (wrap64 ((a0.size : Int) - 1)) ≤ (a0.size : Int)
     · rw [if_pos c6] at H
       have c6b0 := eq_true c6
       have c6b1 : decide ((wrap64 ((a0.size : Int) - 1)) ≤ (a0.size : Int)) = true := decide_eq_true c6
       clear c6
       obtain ⟨⟨t269, t270⟩, A7, H⟩ := ob_ H
       (try dsimp only at H)
       by_cases c8 : t270 = true
       · subst c8
         rw [if_pos rfl] at H
         obtain ⟨t274, A9, H⟩ := ob_ H
         by_cases c10 : t274.toList = a0.toList
         · rw [if_pos c10] at H
           have c10b0 : (t274.toList == a0.toList) = true := beq_iff_eq.mpr c10
           have c10b1 : (t274.toList != a0.toList) = false := bne_eq_false_iff_eq.mpr c10
           clear c10
           simp only [Option.some.injEq, Prod.mk.injEq] at H
           obtain ⟨rfl, rfl⟩ := H
           go_enter Tryz.func10, Tryz.ntmps10
           go_wp2_with (first | ((with_reducible refine gate_dst (N := 2) rfl ?_); refine bx_ 2 #[.slice none 0 0] 29 ?_; intro gb268 hg w11 hbox hb; have BK268 := Aside0.mk (hbox); have GW268 := gw_ hg HB; have GE268 := gw_ hg HB; replace HB := bo_ HB hb; clear hb hbox hg) | ((with_reducible refine gate_callee (f := 19) rfl ?_); refine gL_ (some 17) Tryz.func19 #[.string (a0.extract 1 ((wrap64 ((a0.size : Int) - 1)) : Int).toNat)] ?_; (with_reducible refine (spec_ParseList.calls k (a0.extract 1 ((wrap64 ((a0.size : Int) - 1)) : Int).toNat) t269 true _ A7.out).mono ?_); rintro e w12 ⟨v271, rfl, ho0, hb⟩; refine ⟨_, rfl, ?_⟩; have HO272 := Aside0.mk (Kd.R_lower ho0 (below_size (bq_ HB))); replace BK268 := bk_ BK268 hb; replace HB := bp_ HB hb; (try clear hb); (try clear ho0); obtain ⟨Ao13, co13, eo13⟩ := Kd.R_slice HO272.out; subst eo13) | ((with_reducible refine gate_dst (N := 6) rfl ?_); refine bx_ 6 #[.slice none 0 0] 29 ?_; intro gb273 hg w14 hbox hb; replace HO272 := Aside0.mk (Kd.R_below (re_ HO272.out) hb); have BK273 := Aside0.mk (hbox); have GW273 := gq_ hg (bq_ HB); have GE273 := gq_ hg (bq_ HB); replace HB := bp_ HB hb; have NB268_273 := nl_ hg BK268; have NB273_268 := ng_ hg BK268; replace BK268 := bk_ BK268 hb; clear hb hbox hg; have hnb15 := NB273_268.out; have hnc15 := NB268_273.out; have hcz16_0 := cz_ BK273; have hfz16_0 := blk_frozen BK273.out 0) | (go_at_call 20; (with_reducible refine (spec_SemigroupText.calls k _ _ t269 t274 _ ?side1 ?side2 A9.out).mono ?_); (case side1 => refine (Kd.R_reads' (e := 3) (base := w.heap.size) (ok := fun k_ => True) (n := t269.length) (c := co13) ?_).2.2; exact (by (with_reducible repeat (first | apply Kd.R_alloc | apply Kd.R_drewN | apply Kd.R_drew)); exact (Kd.R_mono (Kd.R_far (p := ⟨gb273, 0, none⟩) (Kd.R_types HO272.out BK273.out (by decide)) (fun _ hk => hk.2) (.slice Ao13 t269.length co13)) (fun _ h_ => h_.1)))); (case side2 => exact (Kd.R_reads' HO272.out).2.1); rintro e w17 ⟨rfl, hb⟩; replace HO272 := Aside0.mk (Kd.R_below (by (with_reducible repeat (first | apply Kd.R_alloc | apply Kd.R_drewN | apply Kd.R_drew)); exact (Kd.R_mono (Kd.R_far (p := ⟨gb273, 0, none⟩) (Kd.R_types HO272.out BK273.out (by decide)) (fun _ hk => hk.2) (.slice Ao13 t269.length co13)) (fun _ h_ => h_.1))) hb); replace BK268 := Aside0.mk (blk_below (g := gb268) (o := .cells #[.slice none 0 0] 29 (0, 0)) (by (with_reducible repeat (first | refine blk_drewN ?_ _ | refine blk_drew ?_ | refine blk_alloc ?_ _)); refine blk_far ?_ NB268_273.out _; (with_reducible repeat (first | refine blk_drewN ?_ _ | refine blk_drew ?_ | refine blk_alloc ?_ _)); exact BK268.out) hb); replace BK273 := Aside0.mk (blk_below (g := gb273) (o := .cells #[.slice Ao13 t269.length co13] 29 (0, 0)) (by (with_reducible repeat (first | refine blk_drewN ?_ _ | refine blk_drew ?_ | refine blk_alloc ?_ _)); refine blk_put (cs := #[.slice none 0 0]) ?_ 0 _ rfl; (with_reducible repeat (first | refine blk_drewN ?_ _ | refine blk_drew ?_ | refine blk_alloc ?_ _)); exact BK273.out) hb); replace HB := bp_ HB hb; (try clear hb); have hcz18_0 := cz_ BK273; have hfz18_0 := blk_frozen BK273.out 0; have hcz19_0 := cz_ BK268; have hfz19_0 := blk_frozen BK268.out 0))
           refine bodyPost_ret (results_ct rfl _ _ gb268 29 #[.slice Ao13 t269.length co13] (0, 0) _ rfl (by (with_reducible repeat (first | refine blk_drewN ?_ _ | refine blk_drew ?_ | refine blk_alloc ?_ _)); refine blk_put (cs := #[.slice none 0 0]) ?_ 0 _ rfl; (with_reducible repeat (first | refine blk_drewN ?_ _ | refine blk_drew ?_ | refine blk_alloc ?_ _)); exact BK268.out) Tryz.underlying29 rfl (by kernel_rfl)) rfl ?_
           exact ⟨_, rf_, by (with_reducible repeat (first | apply Kd.R_alloc | apply Kd.R_drewN | apply Kd.R_drew)); exact Kd.R_mono (Kd.R_far (p := ⟨gb268, 0, none⟩) (Kd.R_types HO272.out BK268.out (by decide)) (fun _ hk => hk.2) (.slice Ao13 t269.length co13)) (fun _ hk => trivial), bq_ HB⟩
         · rw [if_neg c10] at H
           have c10b0 : (t274.toList == a0.toList) = false := beq_eq_false_iff_ne.mpr c10
           have c10b1 : (t274.toList != a0.toList) = true := bne_iff_ne.mpr c10
           simp only [Option.some.injEq, Prod.mk.injEq] at H
           obtain ⟨rfl, rfl⟩ := H
           go_enter Tryz.func10, Tryz.ntmps10
           go_wp2_with (first | ((with_reducible refine gate_dst (N := 2) rfl ?_); refine bx_ 2 #[.slice none 0 0] 29 ?_; intro gb268 hg w20 hbox hb; have BK268 := Aside0.mk (hbox); have GW268 := gw_ hg HB; have GE268 := gw_ hg HB; replace HB := bo_ HB hb; clear hb hbox hg) | ((with_reducible refine gate_callee (f := 19) rfl ?_); refine gL_ (some 17) Tryz.func19 #[.string (a0.extract 1 ((wrap64 ((a0.size : Int) - 1)) : Int).toNat)] ?_; (with_reducible refine (spec_ParseList.calls k (a0.extract 1 ((wrap64 ((a0.size : Int) - 1)) : Int).toNat) t269 true _ A7.out).mono ?_); rintro e w21 ⟨v271, rfl, ho0, hb⟩; refine ⟨_, rfl, ?_⟩; have HO272 := Aside0.mk (Kd.R_lower ho0 (below_size (bq_ HB))); replace BK268 := bk_ BK268 hb; replace HB := bp_ HB hb; (try clear hb); (try clear ho0); obtain ⟨Ao22, co22, eo22⟩ := Kd.R_slice HO272.out; subst eo22) | ((with_reducible refine gate_dst (N := 6) rfl ?_); refine bx_ 6 #[.slice none 0 0] 29 ?_; intro gb273 hg w23 hbox hb; replace HO272 := Aside0.mk (Kd.R_below (re_ HO272.out) hb); have BK273 := Aside0.mk (hbox); have GW273 := gq_ hg (bq_ HB); have GE273 := gq_ hg (bq_ HB); replace HB := bp_ HB hb; have NB268_273 := nl_ hg BK268; have NB273_268 := ng_ hg BK268; replace BK268 := bk_ BK268 hb; clear hb hbox hg; have hnb24 := NB273_268.out; have hnc24 := NB268_273.out; have hcz25_0 := cz_ BK273; have hfz25_0 := blk_frozen BK273.out 0) | (go_at_call 20; (with_reducible refine (spec_SemigroupText.calls k _ _ t269 t274 _ ?side1 ?side2 A9.out).mono ?_); (case side1 => refine (Kd.R_reads' (e := 3) (base := w.heap.size) (ok := fun k_ => True) (n := t269.length) (c := co22) ?_).2.2; exact (by (with_reducible repeat (first | apply Kd.R_alloc | apply Kd.R_drewN | apply Kd.R_drew)); exact (Kd.R_mono (Kd.R_far (p := ⟨gb273, 0, none⟩) (Kd.R_types HO272.out BK273.out (by decide)) (fun _ hk => hk.2) (.slice Ao22 t269.length co22)) (fun _ h_ => h_.1)))); (case side2 => exact (Kd.R_reads' HO272.out).2.1); rintro e w26 ⟨rfl, hb⟩; replace HO272 := Aside0.mk (Kd.R_below (by (with_reducible repeat (first | apply Kd.R_alloc | apply Kd.R_drewN | apply Kd.R_drew)); exact (Kd.R_mono (Kd.R_far (p := ⟨gb273, 0, none⟩) (Kd.R_types HO272.out BK273.out (by decide)) (fun _ hk => hk.2) (.slice Ao22 t269.length co22)) (fun _ h_ => h_.1))) hb); replace BK268 := Aside0.mk (blk_below (g := gb268) (o := .cells #[.slice none 0 0] 29 (0, 0)) (by (with_reducible repeat (first | refine blk_drewN ?_ _ | refine blk_drew ?_ | refine blk_alloc ?_ _)); refine blk_far ?_ NB268_273.out _; (with_reducible repeat (first | refine blk_drewN ?_ _ | refine blk_drew ?_ | refine blk_alloc ?_ _)); exact BK268.out) hb); replace BK273 := Aside0.mk (blk_below (g := gb273) (o := .cells #[.slice Ao22 t269.length co22] 29 (0, 0)) (by (with_reducible repeat (first | refine blk_drewN ?_ _ | refine blk_drew ?_ | refine blk_alloc ?_ _)); refine blk_put (cs := #[.slice none 0 0]) ?_ 0 _ rfl; (with_reducible repeat (first | refine blk_drewN ?_ _ | refine blk_drew ?_ | refine blk_alloc ?_ _)); exact BK273.out) hb); replace HB := bp_ HB hb; (try clear hb); have hcz27_0 := cz_ BK268; have hfz27_0 := blk_frozen BK268.out 0))
           refine bodyPost_ret (results_ct rfl _ _ gb268 29 #[.slice none 0 0] (0, 0) _ rfl (by (with_reducible repeat (first | refine blk_drewN ?_ _ | refine blk_drew ?_ | refine blk_alloc ?_ _)); refine blk_put (cs := #[.slice none 0 0]) ?_ 0 _ rfl; (with_reducible repeat (first | refine blk_drewN ?_ _ | refine blk_drew ?_ | refine blk_alloc ?_ _)); exact BK268.out) Tryz.underlying29 rfl (by kernel_rfl)) rfl ?_
           exact ⟨_, rf_, by first | exact Kd.R_nil _ _ _ _ _ | exact Kd.N_nil _ _ _ _ _ | exact Kd.V_nil _ _ _ _ _ | exact Kd.Q_nil _ _ _ _ _ | exact Kd.S_nil _ _ _ _ _, bq_ HB⟩
       · replace c8 := Bool.eq_false_iff.mpr c8
         subst c8
         rw [if_neg (show ¬ (false = true) by decide)] at H
         simp only [Option.some.injEq, Prod.mk.injEq] at H
         obtain ⟨rfl, rfl⟩ := H
         go_enter Tryz.func10, Tryz.ntmps10
         go_wp2_with (first | ((with_reducible refine gate_dst (N := 2) rfl ?_); refine bx_ 2 #[.slice none 0 0] 29 ?_; intro gb268 hg w28 hbox hb; have BK268 := Aside0.mk (hbox); have GW268 := gw_ hg HB; have GE268 := gw_ hg HB; replace HB := bo_ HB hb; clear hb hbox hg) | ((with_reducible refine gate_callee (f := 19) rfl ?_); refine gL_ (some 17) Tryz.func19 #[.string (a0.extract 1 ((wrap64 ((a0.size : Int) - 1)) : Int).toNat)] ?_; (with_reducible refine (spec_ParseList.calls k (a0.extract 1 ((wrap64 ((a0.size : Int) - 1)) : Int).toNat) t269 false _ A7.out).mono ?_); rintro e w29 ⟨v271, rfl, ho0, hb⟩; refine ⟨_, rfl, ?_⟩; have HO272 := Aside0.mk (Kd.R_lower ho0 (below_size (bq_ HB))); replace BK268 := bk_ BK268 hb; replace HB := bp_ HB hb; (try clear hb); (try clear ho0); obtain ⟨Ao30, co30, eo30⟩ := Kd.R_slice HO272.out; subst eo30) | ((with_reducible refine gate_dst (N := 6) rfl ?_); refine bx_ 6 #[.slice none 0 0] 29 ?_; intro gb273 hg w31 hbox hb; replace HO272 := Aside0.mk (Kd.R_below (re_ HO272.out) hb); have BK273 := Aside0.mk (hbox); have GW273 := gq_ hg (bq_ HB); have GE273 := gq_ hg (bq_ HB); replace HB := bp_ HB hb; have NB268_273 := nl_ hg BK268; have NB273_268 := ng_ hg BK268; replace BK268 := bk_ BK268 hb; clear hb hbox hg; have hnb32 := NB273_268.out; have hnc32 := NB268_273.out; have hcz33_0 := cz_ BK273; have hfz33_0 := blk_frozen BK273.out 0; have hcz34_0 := cz_ BK268; have hfz34_0 := blk_frozen BK268.out 0))
         refine bodyPost_ret (results_ct rfl _ _ gb268 29 #[.slice none 0 0] (0, 0) _ rfl (by (with_reducible repeat (first | refine blk_drewN ?_ _ | refine blk_drew ?_ | refine blk_alloc ?_ _)); refine blk_put (cs := #[.slice none 0 0]) ?_ 0 _ rfl; (with_reducible repeat (first | refine blk_drewN ?_ _ | refine blk_drew ?_ | refine blk_alloc ?_ _)); refine blk_far ?_ NB268_273.out _; (with_reducible repeat (first | refine blk_drewN ?_ _ | refine blk_drew ?_ | refine blk_alloc ?_ _)); exact BK268.out) Tryz.underlying29 rfl (by kernel_rfl)) rfl ?_
         exact ⟨_, rf_, by first | exact Kd.R_nil _ _ _ _ _ | exact Kd.N_nil _ _ _ _ _ | exact Kd.V_nil _ _ _ _ _ | exact Kd.Q_nil _ _ _ _ _ | exact Kd.S_nil _ _ _ _ _, bq_ HB⟩
     · rw [if_neg c6] at H
       cases H
   · rw [if_neg c5] at H
     cases H
def spec_ExampleText.f (a0 : Int) : Option (ByteArray) := if a0 = 1 then (some (⟨#[60, 51, 44, 53, 62]⟩ : ByteArray)) else (if a0 = 2 then (some (⟨#[60, 52, 44, 54, 44, 57, 62]⟩ : ByteArray)) else (if a0 = 3 then (some (⟨#[60, 54, 44, 57, 44, 50, 48, 62]⟩ : ByteArray)) else (if a0 = 4 then (some (⟨#[60, 51, 44, 52, 44, 53, 62]⟩ : ByteArray)) else (if a0 = 5 then (some (⟨#[60, 49, 62]⟩ : ByteArray)) else (if a0 = 6 then (some (⟨#[60, 53, 44, 55, 44, 57, 44, 49, 49, 62]⟩ : ByteArray)) else (some (⟨#[]⟩ : ByteArray)))))))
theorem spec_ExampleText.calls (a0 : Int) (r : ByteArray) (w : World) (h : spec_ExampleText.f a0 = some r) :
 Calls Tryz.prog 12 #[.int .i64 a0] w fun e w' => e = .returned (.string r) ∧ Drawn0 w w' := by
 have H := h
 clear h
 unfold spec_ExampleText.f at H
 by_cases c2 : a0 = 1
 · rw [if_pos c2] at H
   have c2b0 : (a0 == 1) = true := beq_iff_eq.mpr c2
   have c2b1 : (a0 != 1) = false := bne_eq_false_iff_eq.mpr c2
   clear c2
   obtain rfl := Option.some.inj H
   go_enter Tryz.func12, Tryz.ntmps12
   go_wp2
   go_ret
   exact ⟨by first | rfl | (simp; done) | (simp [*]; done), by repeat (first | exact Drawn0.refl _ | apply Drawn0.step)⟩
 · rw [if_neg c2] at H
   have c2b0 : (a0 == 1) = false := beq_eq_false_iff_ne.mpr c2
   have c2b1 : (a0 != 1) = true := bne_iff_ne.mpr c2
   by_cases c3 : a0 = 2
   · rw [if_pos c3] at H
     have c3b0 : (a0 == 2) = true := beq_iff_eq.mpr c3
     have c3b1 : (a0 != 2) = false := bne_eq_false_iff_eq.mpr c3
     clear c3
     obtain rfl := Option.some.inj H
     go_enter Tryz.func12, Tryz.ntmps12
     go_wp2
     go_ret
     exact ⟨by first | rfl | (simp; done) | (simp [*]; done), by repeat (first | exact Drawn0.refl _ | apply Drawn0.step)⟩
   · rw [if_neg c3] at H
     have c3b0 : (a0 == 2) = false := beq_eq_false_iff_ne.mpr c3
     have c3b1 : (a0 != 2) = true := bne_iff_ne.mpr c3
     by_cases c4 : a0 = 3
     · rw [if_pos c4] at H
       have c4b0 : (a0 == 3) = true := beq_iff_eq.mpr c4
       have c4b1 : (a0 != 3) = false := bne_eq_false_iff_eq.mpr c4
       clear c4
       obtain rfl := Option.some.inj H
       go_enter Tryz.func12, Tryz.ntmps12
       go_wp2
       go_ret
       exact ⟨by first | rfl | (simp; done) | (simp [*]; done), by repeat (first | exact Drawn0.refl _ | apply Drawn0.step)⟩
     · rw [if_neg c4] at H
       have c4b0 : (a0 == 3) = false := beq_eq_false_iff_ne.mpr c4
       have c4b1 : (a0 != 3) = true := bne_iff_ne.mpr c4
       by_cases c5 : a0 = 4
       · rw [if_pos c5] at H
         have c5b0 : (a0 == 4) = true := beq_iff_eq.mpr c5
         have c5b1 : (a0 != 4) = false := bne_eq_false_iff_eq.mpr c5
         clear c5
         obtain rfl := Option.some.inj H
         go_enter Tryz.func12, Tryz.ntmps12
         go_wp2
         go_ret
         exact ⟨by first | rfl | (simp; done) | (simp [*]; done), by repeat (first | exact Drawn0.refl _ | apply Drawn0.step)⟩
       · rw [if_neg c5] at H
         have c5b0 : (a0 == 4) = false := beq_eq_false_iff_ne.mpr c5
         have c5b1 : (a0 != 4) = true := bne_iff_ne.mpr c5
         by_cases c6 : a0 = 5
         · rw [if_pos c6] at H
           have c6b0 : (a0 == 5) = true := beq_iff_eq.mpr c6
           have c6b1 : (a0 != 5) = false := bne_eq_false_iff_eq.mpr c6
           clear c6
           obtain rfl := Option.some.inj H
           go_enter Tryz.func12, Tryz.ntmps12
           go_wp2
           go_ret
           exact ⟨by first | rfl | (simp; done) | (simp [*]; done), by repeat (first | exact Drawn0.refl _ | apply Drawn0.step)⟩
         · rw [if_neg c6] at H
           have c6b0 : (a0 == 5) = false := beq_eq_false_iff_ne.mpr c6
           have c6b1 : (a0 != 5) = true := bne_iff_ne.mpr c6
           by_cases c7 : a0 = 6
           · rw [if_pos c7] at H
             have c7b0 : (a0 == 6) = true := beq_iff_eq.mpr c7
             have c7b1 : (a0 != 6) = false := bne_eq_false_iff_eq.mpr c7
             clear c7
             obtain rfl := Option.some.inj H
             go_enter Tryz.func12, Tryz.ntmps12
             go_wp2
             go_ret
             exact ⟨by first | rfl | (simp; done) | (simp [*]; done), by repeat (first | exact Drawn0.refl _ | apply Drawn0.step)⟩
           · rw [if_neg c7] at H
             have c7b0 : (a0 == 6) = false := beq_eq_false_iff_ne.mpr c7
             have c7b1 : (a0 != 6) = true := bne_iff_ne.mpr c7
             obtain rfl := Option.some.inj H
             go_enter Tryz.func12, Tryz.ntmps12
             go_wp2
             go_ret
             exact ⟨by first | rfl | (simp; done) | (simp [*]; done), by repeat (first | exact Drawn0.refl _ | apply Drawn0.step)⟩
def spec_l4Gaps.l0 : Nat → List Int → List Bool → Int → Option (List Int)
 | 0, _, _, _ => none
 | k + 1, x3, x4, x5 => if x5 < 200 then (if 0 ≤ x5 then (if x5 < (x4.length : Int) then (if rdOf false x4 x5 = true then (spec_l4Gaps.l0 k x3 x4 (wrap64 (x5 + 1))) else (if x3.length < 17592186044416 then (spec_l4Gaps.l0 k (x3 ++ [x5]) x4 (wrap64 (x5 + 1))) else (none))) else (none)) else (none)) else (some x3)
def spec_l4Gaps.f (k : Nat) (l0_0 : List Int) : Option (List Int) := (spec_l3Table.f k l0_0 200).bind fun t279 => (spec_l4Gaps.l0 k (([] : List Int)) t279 1)
theorem spec_l4Gaps.calls (k : Nat) (A0_0 : Option Addr) (c0_0 : Nat) (l0_0 : List Int) (r : List Int) (w : World) (hr0_0 : Kd.C (Kd.int .i64) w A0_0 l0_0.length l0_0) (hc0_0 : l0_0.length ≤ c0_0) (h : spec_l4Gaps.f k l0_0 = some r) :
 Calls Tryz.prog 73 #[.agg #[.slice A0_0 l0_0.length c0_0]] w fun e w' => ∃ v0_ : Value, e = .returned (v0_) ∧ Kd.R (Kd.int .i64) 3 w' w.heap.size (fun _ => True) v0_ r ∧ Below w.heap.size w w' := by
 have hu29 := Tryz.underlying29
 have HR0_0 := Aside0.mk hr0_0
 have HC0_0 := Aside0.mk hc0_0
 clear hr0_0 hc0_0
 have HB := Aside0.mk (Below.refl w.heap.size w)
 have H := h
 clear h
 unfold spec_l4Gaps.f at H
 obtain ⟨y276, hy276⟩ : ∃ y_ : List Int, y_ = (([] : List Int)) := ⟨_, rfl⟩
 replace H : ((spec_l3Table.f k l0_0 200).bind fun t279 => (spec_l4Gaps.l0 k y276 t279 1)) = some r := by subst hy276; exact H
 have Ny276 := Aside0.mk hy276
 clear hy276
 obtain ⟨t279, A2, H⟩ := ob_ H
 have H' := Aside0.mk H
 clear H
 go_enter Tryz.func73, Tryz.ntmps73
 go_wp2_with (first | ((with_reducible refine gate_dst (N := 1) rfl ?_); refine bx_ 1 #[.slice A0_0 l0_0.length c0_0] 29 ?_; intro gb275 hg w3 hbox hb; have BK275 := Aside0.mk (hbox); have GW275 := gw_ hg HB; have GE275 := gw_ hg HB; replace HB := bo_ HB hb; clear hb hbox hg) | ((with_reducible refine gate_dst (N := 6) rfl ?_); refine Kd.R_lit (Kd.int .i64) _ 3 ?hg (N := 6) ?hd (xs := ([] : List Int)) (inner := []) (ok := fun _ => True) (okp := fun _ => True) ?hr ?hp (fun _ hk => hk) trivial (Below.refl _ _) (Nat.le_refl _) (by simp) ?_; (case hd => rfl); (case hg => rfl); (case hr => first | (go_simp; done) | (go_simp; rfl)); (case hp => exact (Reps.none _ _)); intro v277 w4 ho5 hb hg_ hnew_; clear hg_ hnew_; (first | rw [← Ny276.out] at ho5 | (simp only [Int.reduceToNat] at ho5; rw [← Ny276.out] at ho5)); have HO278 := Aside0.mk (Kd.R_lower ho5 (below_size (bq_ HB))); replace BK275 := bk_ BK275 hb; replace HB := bp_ HB hb; clear hb ho5; have hcz6_0 := cz_ BK275; have hfz6_0 := blk_frozen BK275.out 0) | ((with_reducible refine gate_callee (f := 101) rfl ?_); refine gL_ (some 9) Tryz.func101 #[.slice A0_0 l0_0.length c0_0, .int .i64 200] ?_; (with_reducible refine (spec_l3Table.calls k _ _ l0_0 200 t279 _ ?side1 ?side2 A2.out).mono ?_); (case side1 => exact ch_ HR0_0 HB); (case side2 => exact HC0_0.out); rintro e w7 ⟨v280, rfl, ho0, hb⟩; refine ⟨_, rfl, ?_⟩; replace HO278 := Aside0.mk (Kd.R_below (re_ HO278.out) hb); have HO281 := Aside0.mk (Kd.R_lower ho0 (below_size (bq_ HB))); replace BK275 := bk_ BK275 hb; replace HB := bp_ HB hb; (try clear hb); (try clear ho0)))
 go_loopg [3, 5] k (fun kq v3 v5 w' => ∃ (x3_1 : List Int) (x5_1 : Int), v5 = .int .i64 x5_1 ∧ Aside0 (spec_l4Gaps.l0 kq x3_1 t279 x5_1 = some r) ∧ Aside0 (kq ≤ k) ∧ Aside0 (Kd.R (Kd.int .i64) 3 w' w.heap.size (fun _ => True) v3 x3_1) ∧ Aside0 (Kd.R Kd.bool 4 w' w.heap.size (fun _ => True) v280 t279) ∧ Aside0 (w'.heap[gb275]? = some (.cells #[(.slice A0_0 l0_0.length c0_0)] 29 (0, 0))) ∧ Aside0 (Below w.heap.size w w'))
 case atStart => exact ⟨(y276), (1), rs_, H', ⟨Nat.le_refl _⟩, ⟨re_ HO278.out⟩, ⟨re_ HO281.out⟩, ⟨be_ BK275.out⟩, ⟨bq_ HB⟩⟩
 case round =>
  clear H'
  try clear c1
  try clear p2
  try clear c7
  try clear hcz6_0
  try clear hfz6_0
  obtain ⟨x3_1, x5_1, rfl, HA, HK1, HO_3, HO_4, BK275, HB⟩ := hrel
  cases gk with
  | zero => exact absurd HA.out (by simp [spec_l4Gaps.l0])
  | succ k1 =>
   have H := HA.out
   clear HA
   simp only [spec_l4Gaps.l0] at H
   by_cases c8 : x5_1 < 200
   · rw [if_pos c8] at H
     have c8b0 : decide (x5_1 < 200) = true := decide_eq_true c8
     clear c8
     by_cases c9 : 0 ≤ x5_1
     · rw [if_pos c9] at H
       have c9b0 : decide (0 ≤ x5_1) = true := decide_eq_true c9
       clear c9
       by_cases c10 : x5_1 < (t279.length : Int)
       · rw [if_pos c10] at H
         have c10b0 : decide (x5_1 < (t279.length : Int)) = true := decide_eq_true c10
         clear c10
         obtain ⟨bq11, hbq11⟩ : ∃ b_ : Bool, b_ = (rdOf false t279 x5_1) := ⟨_, rfl⟩
         replace H : (if bq11 = true then (spec_l4Gaps.l0 k1 x3_1 t279 (wrap64 (x5_1 + 1))) else (if x3_1.length < 17592186044416 then (spec_l4Gaps.l0 k1 (x3_1 ++ [x5_1]) t279 (wrap64 (x5_1 + 1))) else (none))) = some r := by rw [← hbq11] at H; exact H
         have Nbq11 := Aside0.mk hbq11
         clear hbq11
         by_cases c12 : bq11 = true
         · subst c12
           rw [if_pos rfl] at H
           have H' := Aside0.mk H
           clear H
           obtain ⟨Ao13, co13, eo13⟩ := Kd.R_slice HO_4.out
           subst eo13
           have p282 : 0 ≤ (x5_1 : Int) := od_
           have q282 : x5_1 < (t279.length : Int) := od_
           obtain ⟨ad282, e282, hx282_0⟩ := Kd.at_bool (Kd.R_reads' HO_4.out).2.2 x5_1 p282 q282
           (try rw [← Nbq11.out] at hx282_0)
           cases e282
           replace p282 := eq_true p282
           replace q282 := eq_true q282
           go_wp2
           go_roundg k1
           case measure => have := HK1.out; omega
           case rel => exact ⟨(x3_1), (wrap64 (x5_1 + 1)), rs_, H', ⟨by have := HK1.out; omega⟩, ⟨re_ HO_3.out⟩, ⟨re_ HO_4.out⟩, ⟨be_ BK275.out⟩, ⟨bq_ HB⟩⟩
         · replace c12 := Bool.eq_false_iff.mpr c12
           subst c12
           rw [if_neg (show ¬ (false = true) by decide)] at H
           by_cases c14 : x3_1.length < 17592186044416
           · rw [if_pos c14] at H
             have LMc14 := Aside0.mk c14
             clear c14
             obtain ⟨y283, hy283⟩ : ∃ y_ : List Int, y_ = (x3_1 ++ [x5_1]) := ⟨_, rfl⟩
             replace H : (spec_l4Gaps.l0 k1 y283 t279 (wrap64 (x5_1 + 1))) = some r := by subst hy283; exact H
             have Ny283 := Aside0.mk hy283
             clear hy283
             have H' := Aside0.mk H
             clear H
             obtain ⟨Ao15, co15, eo15⟩ := Kd.R_slice HO_4.out
             subst eo15
             have p282 : 0 ≤ (x5_1 : Int) := od_
             have q282 : x5_1 < (t279.length : Int) := od_
             obtain ⟨ad282, e282, hx282_0⟩ := Kd.at_bool (Kd.R_reads' HO_4.out).2.2 x5_1 p282 q282
             (try rw [← Nbq11.out] at hx282_0)
             cases e282
             replace p282 := eq_true p282
             replace q282 := eq_true q282
             go_wp2_with (first | ((with_reducible refine gate_builtin (b := .append) (xs := #[.tmp 19, .tmp 21]) rfl ?_); at_builtin; refine Kd.R_append (Kd.int .i64) (w0 := w) w.heap.size rfl (.tmp 19) (.tmp 21) 27 3 (.int .i64 0) 8 rfl Tryz.underlying27 info3 rfl (by decide) (by omega) u3 x3_1 x5_1 [.int .i64 x5_1] (fun _ => True) (fun _ => False) rfl rfl ?aP (fun _ hk => hk.elim) ?aF ?aO ?aB ?aS ?aL ?_; (case aP => exact rfl); (case aB => exact (bq_ HB)); (case aF => exact (fun _ _ => trivial)); (case aO => exact (re_ HO_3.out)); (case aS => exact (below_size (bq_ HB))); (case aL => have := LMc14.out; omega); intro v284 w16 ho hb hg hat; rw [← Ny283.out] at ho; replace HO_4 := Aside0.mk (Kd.R_over' (re_ HO_4.out) (Kd.R_typed (re_ HO_3.out)) (by decide) hg); replace BK275 := Aside0.mk (blk_grown (be_ BK275.out) hg (Kd.R_ne HO_3.out BK275.out (by decide))); replace HB := Aside0.mk (hb); have HO285 := Aside0.mk (ho); clear HO_3; clear ho hb hg hat))
             go_roundg k1
             case measure => have := HK1.out; omega
             case rel => exact ⟨(y283), (wrap64 (x5_1 + 1)), rs_, H', ⟨by have := HK1.out; omega⟩, ⟨re_ HO285.out⟩, ⟨re_ HO_4.out⟩, ⟨be_ BK275.out⟩, ⟨bq_ HB⟩⟩
           · rw [if_neg c14] at H
             cases H
       · rw [if_neg c10] at H
         cases H
     · rw [if_neg c9] at H
       cases H
   · rw [if_neg c8] at H
     have c8b0 : decide (x5_1 < 200) = false := decide_eq_false c8
     clear c8
     obtain rfl := Option.some.inj H
     go_wp2
     go_ret
     exact ⟨_, rf_, re_ HO_3.out, bq_ HB⟩
def spec_Gaps.f (k : Nat) (l0_0 : List Int) : Option (List Int) := (spec_IsSemigroup.f k l0_0).bind fun t287 => (if t287 = true then ((spec_l4Gaps.f k l0_0).bind fun t288 => (some t288)) else (some (([] : List Int))))
theorem spec_Gaps.calls (k : Nat) (A0_0 : Option Addr) (c0_0 : Nat) (l0_0 : List Int) (r : List Int) (w : World) (hr0_0 : Kd.C (Kd.int .i64) w A0_0 l0_0.length l0_0) (hc0_0 : l0_0.length ≤ c0_0) (h : spec_Gaps.f k l0_0 = some r) :
 Calls Tryz.prog 72 #[.agg #[.slice A0_0 l0_0.length c0_0]] w fun e w' => ∃ v0_ : Value, e = .returned (v0_) ∧ Kd.R (Kd.int .i64) 3 w' w.heap.size (fun _ => True) v0_ r ∧ Below w.heap.size w w' := by
 have hu29 := Tryz.underlying29
 have HR0_0 := Aside0.mk hr0_0
 have HC0_0 := Aside0.mk hc0_0
 clear hr0_0 hc0_0
 have HB := Aside0.mk (Below.refl w.heap.size w)
 have H := h
 clear h
 unfold spec_Gaps.f at H
 obtain ⟨t287, A2, H⟩ := ob_ H
 by_cases c3 : t287 = true
 · subst c3
   rw [if_pos rfl] at H
   obtain ⟨t288, A4, H⟩ := ob_ H
   obtain rfl := Option.some.inj H
   go_enter Tryz.func72, Tryz.ntmps72
   go_wp2_with (first | ((with_reducible refine gate_dst (N := 1) rfl ?_); refine bx_ 1 #[.slice A0_0 l0_0.length c0_0] 29 ?_; intro gb286 hg w5 hbox hb; have BK286 := Aside0.mk (hbox); have GW286 := gw_ hg HB; have GE286 := gw_ hg HB; replace HB := bo_ HB hb; clear hb hbox hg; have hcz6_0 := cz_ BK286; have hfz6_0 := blk_frozen BK286.out 0) | ((with_reducible refine gate_callee (f := 34) rfl ?_); refine gL_ (some 4) Tryz.func34 #[.agg #[.slice A0_0 l0_0.length c0_0]] ?_; (with_reducible refine (spec_IsSemigroup.calls k _ _ l0_0 true _ ?side1 ?side2 A2.out).mono ?_); (case side1 => exact ch_ HR0_0 HB); (case side2 => exact HC0_0.out); rintro e w7 ⟨rfl, hb⟩; refine ⟨_, rfl, ?_⟩; replace BK286 := bk_ BK286 hb; replace HB := bp_ HB hb; (try clear hb); have hcz8_0 := cz_ BK286; have hfz8_0 := blk_frozen BK286.out 0) | ((with_reducible refine gate_callee (f := 73) rfl ?_); refine gL_ (some 8) Tryz.func73 #[.agg #[.slice A0_0 l0_0.length c0_0]] ?_; (with_reducible refine (spec_l4Gaps.calls k _ _ l0_0 t288 _ ?side1 ?side2 A4.out).mono ?_); (case side1 => exact ch_ HR0_0 HB); (case side2 => exact HC0_0.out); rintro e w9 ⟨v289, rfl, ho0, hb⟩; refine ⟨_, rfl, ?_⟩; have HO290 := Aside0.mk (Kd.R_lower ho0 (below_size (bq_ HB))); replace BK286 := bk_ BK286 hb; replace HB := bp_ HB hb; (try clear hb); (try clear ho0)))
   go_ret
   exact ⟨_, rf_, re_ HO290.out, bq_ HB⟩
 · replace c3 := Bool.eq_false_iff.mpr c3
   subst c3
   rw [if_neg (show ¬ (false = true) by decide)] at H
   obtain ⟨y291, hy291⟩ : ∃ y_ : List Int, y_ = (([] : List Int)) := ⟨_, rfl⟩
   replace H : (some y291) = some r := by subst hy291; exact H
   have Ny291 := Aside0.mk hy291
   clear hy291
   obtain rfl := Option.some.inj H
   go_enter Tryz.func72, Tryz.ntmps72
   go_wp2_with (first | ((with_reducible refine gate_dst (N := 1) rfl ?_); refine bx_ 1 #[.slice A0_0 l0_0.length c0_0] 29 ?_; intro gb286 hg w10 hbox hb; have BK286 := Aside0.mk (hbox); have GW286 := gw_ hg HB; have GE286 := gw_ hg HB; replace HB := bo_ HB hb; clear hb hbox hg; have hcz11_0 := cz_ BK286; have hfz11_0 := blk_frozen BK286.out 0) | ((with_reducible refine gate_callee (f := 34) rfl ?_); refine gL_ (some 4) Tryz.func34 #[.agg #[.slice A0_0 l0_0.length c0_0]] ?_; (with_reducible refine (spec_IsSemigroup.calls k _ _ l0_0 false _ ?side1 ?side2 A2.out).mono ?_); (case side1 => exact ch_ HR0_0 HB); (case side2 => exact HC0_0.out); rintro e w12 ⟨rfl, hb⟩; refine ⟨_, rfl, ?_⟩; replace BK286 := bk_ BK286 hb; replace HB := bp_ HB hb; (try clear hb)) | ((with_reducible refine gate_dst (N := 6) rfl ?_); refine Kd.R_lit (Kd.int .i64) _ 3 ?hg (N := 6) ?hd (xs := ([] : List Int)) (inner := []) (ok := fun _ => True) (okp := fun _ => True) ?hr ?hp (fun _ hk => hk) trivial (Below.refl _ _) (Nat.le_refl _) (by simp) ?_; (case hd => rfl); (case hg => rfl); (case hr => first | (go_simp; done) | (go_simp; rfl)); (case hp => exact (Reps.none _ _)); intro v292 w13 ho14 hb hg_ hnew_; clear hg_ hnew_; (first | rw [← Ny291.out] at ho14 | (simp only [Int.reduceToNat] at ho14; rw [← Ny291.out] at ho14)); have HO293 := Aside0.mk (Kd.R_lower ho14 (below_size (bq_ HB))); replace BK286 := bk_ BK286 hb; replace HB := bp_ HB hb; clear hb ho14))
   go_ret
   exact ⟨_, rf_, re_ HO293.out, bq_ HB⟩
def spec_FrobeniusOf.f (k : Nat) (l0_0 : List Int) : Option (Int) := (spec_Gaps.f k l0_0).bind fun t295 => (if (t295.length : Int) = 0 then (some (-1)) else (if 0 ≤ (wrap64 ((t295.length : Int) - 1)) then (if (wrap64 ((t295.length : Int) - 1)) < (t295.length : Int) then (some (rd t295 (wrap64 ((t295.length : Int) - 1)))) else (none)) else (none)))
theorem spec_FrobeniusOf.calls (k : Nat) (A0_0 : Option Addr) (c0_0 : Nat) (l0_0 : List Int) (r : Int) (w : World) (hr0_0 : Kd.C (Kd.int .i64) w A0_0 l0_0.length l0_0) (hc0_0 : l0_0.length ≤ c0_0) (h : spec_FrobeniusOf.f k l0_0 = some r) :
 Calls Tryz.prog 36 #[.agg #[.slice A0_0 l0_0.length c0_0]] w fun e w' => e = .returned (.int .i64 r) ∧ Below w.heap.size w w' := by
 have hu29 := Tryz.underlying29
 have HR0_0 := Aside0.mk hr0_0
 have HC0_0 := Aside0.mk hc0_0
 clear hr0_0 hc0_0
 have HB := Aside0.mk (Below.refl w.heap.size w)
 have H := h
 clear h
 unfold spec_FrobeniusOf.f at H
 obtain ⟨t295, A2, H⟩ := ob_ H
 by_cases c3 : (t295.length : Int) = 0
 · rw [if_pos c3] at H
   have c3b0 : ((t295.length : Int) == 0) = true := beq_iff_eq.mpr c3
   have c3b1 : ((t295.length : Int) != 0) = false := bne_eq_false_iff_eq.mpr c3
   clear c3
   obtain rfl := Option.some.inj H
   go_enter Tryz.func36, Tryz.ntmps36
   go_wp2_with (first | ((with_reducible refine gate_dst (N := 1) rfl ?_); refine bx_ 1 #[.slice A0_0 l0_0.length c0_0] 29 ?_; intro gb294 hg w4 hbox hb; have BK294 := Aside0.mk (hbox); have GW294 := gw_ hg HB; have GE294 := gw_ hg HB; replace HB := bo_ HB hb; clear hb hbox hg; have hcz5_0 := cz_ BK294; have hfz5_0 := blk_frozen BK294.out 0) | ((with_reducible refine gate_callee (f := 72) rfl ?_); refine gL_ (some 5) Tryz.func72 #[.agg #[.slice A0_0 l0_0.length c0_0]] ?_; (with_reducible refine (spec_Gaps.calls k _ _ l0_0 t295 _ ?side1 ?side2 A2.out).mono ?_); (case side1 => exact ch_ HR0_0 HB); (case side2 => exact HC0_0.out); rintro e w6 ⟨v296, rfl, ho0, hb⟩; refine ⟨_, rfl, ?_⟩; have HO297 := Aside0.mk (Kd.R_lower ho0 (below_size (bq_ HB))); replace BK294 := bk_ BK294 hb; replace HB := bp_ HB hb; (try clear hb); (try clear ho0); obtain ⟨Ao7, co7, eo7⟩ := Kd.R_slice HO297.out; subst eo7))
   go_ret
   exact ⟨rf_, bq_ HB⟩
 · rw [if_neg c3] at H
   have c3b0 : ((t295.length : Int) == 0) = false := beq_eq_false_iff_ne.mpr c3
   have c3b1 : ((t295.length : Int) != 0) = true := bne_iff_ne.mpr c3
   have c3b2 : ¬ (t295 = []) := fun h_ => c3 (by rw [h_]; rfl)
   obtain ⟨ji8, hji8⟩ : ∃ j_ : Int, (wrap64 ((t295.length : Int) - 1)) = j_ := ⟨_, rfl⟩
   replace H : (if 0 ≤ (ji8) then (if (ji8) < (t295.length : Int) then (some (rd t295 (ji8))) else (none)) else (none)) = some r := by first | (rw [hji8] at H; exact H) | (simp only [hji8] at H ⊢; exact H)
   (try rw [hji8] at A2)
   have hji8w : (IntKind.i64.wrap ((t295.length : Int) - 1)) = ji8 := (i64_w _).trans hji8
   by_cases c9 : 0 ≤ (ji8)
   · rw [if_pos c9] at H
     have c9b0 : decide (0 ≤ (ji8)) = true := decide_eq_true c9
     clear c9
     by_cases c10 : (ji8) < (t295.length : Int)
     · rw [if_pos c10] at H
       have c10b0 : decide ((ji8) < (t295.length : Int)) = true := decide_eq_true c10
       clear c10
       obtain rfl := Option.some.inj H
       go_enter Tryz.func36, Tryz.ntmps36
       go_wp2_with (first | ((with_reducible refine gate_dst (N := 1) rfl ?_); refine bx_ 1 #[.slice A0_0 l0_0.length c0_0] 29 ?_; intro gb294 hg w11 hbox hb; have BK294 := Aside0.mk (hbox); have GW294 := gw_ hg HB; have GE294 := gw_ hg HB; replace HB := bo_ HB hb; clear hb hbox hg; have hcz12_0 := cz_ BK294; have hfz12_0 := blk_frozen BK294.out 0) | ((with_reducible refine gate_callee (f := 72) rfl ?_); refine gL_ (some 5) Tryz.func72 #[.agg #[.slice A0_0 l0_0.length c0_0]] ?_; (with_reducible refine (spec_Gaps.calls k _ _ l0_0 t295 _ ?side1 ?side2 A2.out).mono ?_); (case side1 => exact ch_ HR0_0 HB); (case side2 => exact HC0_0.out); rintro e w13 ⟨v296, rfl, ho0, hb⟩; refine ⟨_, rfl, ?_⟩; have HO297 := Aside0.mk (Kd.R_lower ho0 (below_size (bq_ HB))); replace BK294 := bk_ BK294 hb; replace HB := bp_ HB hb; (try clear hb); (try clear ho0); obtain ⟨Ao14, co14, eo14⟩ := Kd.R_slice HO297.out; subst eo14; have p298 : 0 ≤ ((ji8) : Int) := od_; have q298 : (ji8) < (t295.length : Int) := od_; obtain ⟨ad298, e298, hx298_0⟩ := Kd.at_int (Kd.R_reads' HO297.out).2.2 (ji8) p298 q298; cases e298; replace p298 := eq_true p298; replace q298 := eq_true q298))
       go_ret
       exact ⟨by first | rfl | (simp [errW_none, errW_some] <;> rfl) | (simp only [← hji8]; first | rfl | (simp [errW_none, errW_some] <;> rfl)) | (simp [*, errW_none, errW_some] <;> rfl), bq_ HB⟩
     · rw [if_neg c10] at H
       cases H
   · rw [if_neg c9] at H
     cases H
def spec_GenusOf.f (k : Nat) (l0_0 : List Int) : Option (Int) := (spec_IsSemigroup.f k l0_0).bind fun t300 => (if t300 = true then ((spec_l4Gaps.f k l0_0).bind fun t301 => (some (t301.length : Int))) else (some (-1)))
theorem spec_GenusOf.calls (k : Nat) (A0_0 : Option Addr) (c0_0 : Nat) (l0_0 : List Int) (r : Int) (w : World) (hr0_0 : Kd.C (Kd.int .i64) w A0_0 l0_0.length l0_0) (hc0_0 : l0_0.length ≤ c0_0) (h : spec_GenusOf.f k l0_0 = some r) :
 Calls Tryz.prog 37 #[.agg #[.slice A0_0 l0_0.length c0_0]] w fun e w' => e = .returned (.int .i64 r) ∧ Below w.heap.size w w' := by
 have hu29 := Tryz.underlying29
 have HR0_0 := Aside0.mk hr0_0
 have HC0_0 := Aside0.mk hc0_0
 clear hr0_0 hc0_0
 have HB := Aside0.mk (Below.refl w.heap.size w)
 have H := h
 clear h
 unfold spec_GenusOf.f at H
 obtain ⟨t300, A2, H⟩ := ob_ H
 by_cases c3 : t300 = true
 · subst c3
   rw [if_pos rfl] at H
   obtain ⟨t301, A4, H⟩ := ob_ H
   obtain rfl := Option.some.inj H
   go_enter Tryz.func37, Tryz.ntmps37
   go_wp2_with (first | ((with_reducible refine gate_dst (N := 1) rfl ?_); refine bx_ 1 #[.slice A0_0 l0_0.length c0_0] 29 ?_; intro gb299 hg w5 hbox hb; have BK299 := Aside0.mk (hbox); have GW299 := gw_ hg HB; have GE299 := gw_ hg HB; replace HB := bo_ HB hb; clear hb hbox hg; have hcz6_0 := cz_ BK299; have hfz6_0 := blk_frozen BK299.out 0) | ((with_reducible refine gate_callee (f := 34) rfl ?_); refine gL_ (some 4) Tryz.func34 #[.agg #[.slice A0_0 l0_0.length c0_0]] ?_; (with_reducible refine (spec_IsSemigroup.calls k _ _ l0_0 true _ ?side1 ?side2 A2.out).mono ?_); (case side1 => exact ch_ HR0_0 HB); (case side2 => exact HC0_0.out); rintro e w7 ⟨rfl, hb⟩; refine ⟨_, rfl, ?_⟩; replace BK299 := bk_ BK299 hb; replace HB := bp_ HB hb; (try clear hb); have hcz8_0 := cz_ BK299; have hfz8_0 := blk_frozen BK299.out 0) | ((with_reducible refine gate_callee (f := 73) rfl ?_); refine gL_ (some 7) Tryz.func73 #[.agg #[.slice A0_0 l0_0.length c0_0]] ?_; (with_reducible refine (spec_l4Gaps.calls k _ _ l0_0 t301 _ ?side1 ?side2 A4.out).mono ?_); (case side1 => exact ch_ HR0_0 HB); (case side2 => exact HC0_0.out); rintro e w9 ⟨v302, rfl, ho0, hb⟩; refine ⟨_, rfl, ?_⟩; have HO303 := Aside0.mk (Kd.R_lower ho0 (below_size (bq_ HB))); replace BK299 := bk_ BK299 hb; replace HB := bp_ HB hb; (try clear hb); (try clear ho0); obtain ⟨Ao10, co10, eo10⟩ := Kd.R_slice HO303.out; subst eo10))
   go_ret
   exact ⟨rf_, bq_ HB⟩
 · replace c3 := Bool.eq_false_iff.mpr c3
   subst c3
   rw [if_neg (show ¬ (false = true) by decide)] at H
   obtain rfl := Option.some.inj H
   go_enter Tryz.func37, Tryz.ntmps37
   go_wp2_with (first | ((with_reducible refine gate_dst (N := 1) rfl ?_); refine bx_ 1 #[.slice A0_0 l0_0.length c0_0] 29 ?_; intro gb299 hg w11 hbox hb; have BK299 := Aside0.mk (hbox); have GW299 := gw_ hg HB; have GE299 := gw_ hg HB; replace HB := bo_ HB hb; clear hb hbox hg; have hcz12_0 := cz_ BK299; have hfz12_0 := blk_frozen BK299.out 0) | ((with_reducible refine gate_callee (f := 34) rfl ?_); refine gL_ (some 4) Tryz.func34 #[.agg #[.slice A0_0 l0_0.length c0_0]] ?_; (with_reducible refine (spec_IsSemigroup.calls k _ _ l0_0 false _ ?side1 ?side2 A2.out).mono ?_); (case side1 => exact ch_ HR0_0 HB); (case side2 => exact HC0_0.out); rintro e w13 ⟨rfl, hb⟩; refine ⟨_, rfl, ?_⟩; replace BK299 := bk_ BK299 hb; replace HB := bp_ HB hb; (try clear hb)))
   go_ret
   exact ⟨rf_, bq_ HB⟩
def spec_HasNumber.l0 : Nat → List Int → Int → Int → Option (Bool)
 | 0, _, _, _ => none
 | k + 1, x0, x1, x5 => if x5 < (x0.length : Int) then (if 0 ≤ x5 then (if (rd x0 x5) = x1 then (some true) else (spec_HasNumber.l0 k x0 x1 (wrap64 (x5 + 1)))) else (none)) else (some false)
def spec_HasNumber.f (k : Nat) (l0 : List Int) (a1 : Int) : Option (Bool) := spec_HasNumber.l0 k l0 a1 0
theorem spec_HasNumber.calls (k : Nat) (A0 : Option Addr) (c0 : Nat) (l0 : List Int) (a1 : Int) (r : Bool) (w : World) (hr0 : Kd.C (Kd.int .i64) w A0 l0.length l0) (hc0 : l0.length ≤ c0) (h : spec_HasNumber.f k l0 a1 = some r) :
 Calls Tryz.prog 102 #[.slice A0 l0.length c0, .int .i64 a1] w fun e w' => e = .returned (.bool r) ∧ Drawn0 w w' := by
 have HR0 := Aside0.mk hr0
 have HC0 := Aside0.mk hc0
 clear hr0 hc0
 have H := h
 clear h
 unfold spec_HasNumber.f at H
 have H' := Aside0.mk H
 clear H
 go_enter Tryz.func102, Tryz.ntmps102
 go_wp2
 go_loopg [5] k (fun kq v5 w' => ∃ (x5_1 : Int), v5 = .int .i64 x5_1 ∧ Aside0 (spec_HasNumber.l0 kq l0 a1 x5_1 = some r) ∧ Aside0 (kq ≤ k) ∧ Drawn0 w w')
 case atStart => exact ⟨(0), rs_, H', ⟨Nat.le_refl _⟩, by repeat (first | exact Drawn0.refl _ | apply Drawn0.step)⟩
 case round =>
  clear H'
  try clear c1
  try clear p2
  obtain ⟨x5_1, rfl, HA, HK1, ⟨m1, rfl⟩⟩ := hrel
  cases gk with
  | zero => exact absurd HA.out (by simp [spec_HasNumber.l0])
  | succ k1 =>
   have H := HA.out
   clear HA
   simp only [spec_HasNumber.l0] at H
   by_cases c3 : x5_1 < (l0.length : Int)
   · rw [if_pos c3] at H
     have c3b0 : decide (x5_1 < (l0.length : Int)) = true := decide_eq_true c3
     clear c3
     by_cases c4 : 0 ≤ x5_1
     · rw [if_pos c4] at H
       have c4b0 : decide (0 ≤ x5_1) = true := decide_eq_true c4
       clear c4
       by_cases c5 : (rd l0 x5_1) = a1
       · rw [if_pos c5] at H
         have c5b0 : ((rd l0 x5_1) == a1) = true := beq_iff_eq.mpr c5
         have c5b1 : ((rd l0 x5_1) != a1) = false := bne_eq_false_iff_eq.mpr c5
         clear c5
         obtain rfl := Option.some.inj H
         have p304 : 0 ≤ (x5_1 : Int) := od_
         have q304 : x5_1 < (l0.length : Int) := od_
         obtain ⟨ad304, e304, hx304_0⟩ := Kd.at_int HR0.out x5_1 p304 q304
         cases e304
         replace p304 := eq_true p304
         replace q304 := eq_true q304
         go_wp2
         go_ret
         exact ⟨by first | rfl | (simp; done) | (simp [*]; done), by repeat (first | exact Drawn0.refl _ | apply Drawn0.step)⟩
       · rw [if_neg c5] at H
         have c5b0 : ((rd l0 x5_1) == a1) = false := beq_eq_false_iff_ne.mpr c5
         have c5b1 : ((rd l0 x5_1) != a1) = true := bne_iff_ne.mpr c5
         have H' := Aside0.mk H
         clear H
         have p304 : 0 ≤ (x5_1 : Int) := od_
         have q304 : x5_1 < (l0.length : Int) := od_
         obtain ⟨ad304, e304, hx304_0⟩ := Kd.at_int HR0.out x5_1 p304 q304
         cases e304
         replace p304 := eq_true p304
         replace q304 := eq_true q304
         go_wp2
         go_roundg k1
         case measure => have := HK1.out; omega
         case rel => exact ⟨(wrap64 (x5_1 + 1)), rs_, H', ⟨by have := HK1.out; omega⟩, by repeat (first | exact Drawn0.refl _ | apply Drawn0.step)⟩
     · rw [if_neg c4] at H
       cases H
   · rw [if_neg c3] at H
     have c3b0 : decide (x5_1 < (l0.length : Int)) = false := decide_eq_false c3
     clear c3
     obtain rfl := Option.some.inj H
     go_wp2
     go_ret
     exact ⟨by first | rfl | (simp; done) | (simp [*]; done), by repeat (first | exact Drawn0.refl _ | apply Drawn0.step)⟩
mutual
def spec_PseudoFrobenius.l0 : Nat → List Int → List Int → Int → List Int → Option (List Int)
 | 0, _, _, _, _ => none
 | k + 1, x3, x4, x5, x306000 => if x5 < (x4.length : Int) then (spec_PseudoFrobenius.l1 k x3 x4 x5 true 0 x306000) else (some x3)
def spec_PseudoFrobenius.l1 : Nat → List Int → List Int → Int → Bool → Int → List Int → Option (List Int)
 | 0, _, _, _, _, _, _ => none
 | k + 1, x3, x4, x5, x6, x7, x306000 => if x7 < (x306000.length : Int) then (if x6 = true then (if 0 ≤ x5 then (if x5 < (x4.length : Int) then (if 0 ≤ x7 then ((spec_HasNumber.f k x4 (wrap64 ((rd x4 x5) + (rd x306000 x7)))).bind fun t314 => (spec_PseudoFrobenius.l1 k x3 x4 x5 (!t314) (wrap64 (x7 + 1)) x306000)) else (none)) else (none)) else (none)) else (spec_PseudoFrobenius.l1 k x3 x4 x5 false (wrap64 (x7 + 1)) x306000)) else (if x6 = true then (if 0 ≤ x5 then (if x5 < (x4.length : Int) then (if x3.length < 17592186044416 then (spec_PseudoFrobenius.l0 k (x3 ++ [rd x4 x5]) x4 (wrap64 (x5 + 1)) x306000) else (none)) else (none)) else (none)) else (spec_PseudoFrobenius.l0 k x3 x4 (wrap64 (x5 + 1)) x306000))
end
def spec_PseudoFrobenius.f (k : Nat) (l0_0 : List Int) : Option (List Int) := (spec_Gaps.f k l0_0).bind fun t309 => (spec_PseudoFrobenius.l0 k (([] : List Int)) t309 0 l0_0)
theorem spec_PseudoFrobenius.calls (k : Nat) (A0_0 : Option Addr) (c0_0 : Nat) (l0_0 : List Int) (r : List Int) (w : World) (hr0_0 : Kd.C (Kd.int .i64) w A0_0 l0_0.length l0_0) (hc0_0 : l0_0.length ≤ c0_0) (h : spec_PseudoFrobenius.f k l0_0 = some r) :
 Calls Tryz.prog 75 #[.agg #[.slice A0_0 l0_0.length c0_0]] w fun e w' => ∃ v0_ : Value, e = .returned (v0_) ∧ Kd.R (Kd.int .i64) 3 w' w.heap.size (fun _ => True) v0_ r ∧ Below w.heap.size w w' := by
 have hu29 := Tryz.underlying29
 have HR0_0 := Aside0.mk hr0_0
 have HC0_0 := Aside0.mk hc0_0
 clear hr0_0 hc0_0
 have HB := Aside0.mk (Below.refl w.heap.size w)
 have H := h
 clear h
 unfold spec_PseudoFrobenius.f at H
 obtain ⟨y306, hy306⟩ : ∃ y_ : List Int, y_ = (([] : List Int)) := ⟨_, rfl⟩
 replace H : ((spec_Gaps.f k l0_0).bind fun t309 => (spec_PseudoFrobenius.l0 k y306 t309 0 l0_0)) = some r := by subst hy306; exact H
 have Ny306 := Aside0.mk hy306
 clear hy306
 obtain ⟨t309, A2, H⟩ := ob_ H
 have H' := Aside0.mk H
 clear H
 go_enter Tryz.func75, Tryz.ntmps75
 go_wp2_with (first | ((with_reducible refine gate_dst (N := 1) rfl ?_); refine bx_ 1 #[.slice A0_0 l0_0.length c0_0] 29 ?_; intro gb305 hg w3 hbox hb; have BK305 := Aside0.mk (hbox); have GW305 := gw_ hg HB; have GE305 := gw_ hg HB; replace HB := bo_ HB hb; clear hb hbox hg) | ((with_reducible refine gate_dst (N := 8) rfl ?_); refine Kd.R_lit (Kd.int .i64) _ 3 ?hg (N := 8) ?hd (xs := ([] : List Int)) (inner := []) (ok := fun _ => True) (okp := fun _ => True) ?hr ?hp (fun _ hk => hk) trivial (Below.refl _ _) (Nat.le_refl _) (by simp) ?_; (case hd => rfl); (case hg => rfl); (case hr => first | (go_simp; done) | (go_simp; rfl)); (case hp => exact (Reps.none _ _)); intro v307 w4 ho5 hb hg_ hnew_; clear hg_ hnew_; (first | rw [← Ny306.out] at ho5 | (simp only [Int.reduceToNat] at ho5; rw [← Ny306.out] at ho5)); have HO308 := Aside0.mk (Kd.R_lower ho5 (below_size (bq_ HB))); replace BK305 := bk_ BK305 hb; replace HB := bp_ HB hb; clear hb ho5; have hcz6_0 := cz_ BK305; have hfz6_0 := blk_frozen BK305.out 0) | (go_at_call 72; (with_reducible refine (spec_Gaps.calls k _ _ l0_0 t309 _ ?side1 ?side2 A2.out).mono ?_); (case side1 => exact ch_ HR0_0 HB); (case side2 => exact HC0_0.out); rintro e w7 ⟨v310, rfl, ho0, hb⟩; have HO311 := Aside0.mk (Kd.R_lower (Kd.R_new' ho0 (Kd.R_lt (re_ HO308.out))) (below_size (bq_ HB))); replace HO308 := Aside0.mk (Kd.R_elder' (re_ HO308.out) (Kd.R_base ho0) hb); replace BK305 := bk_ BK305 hb; replace HB := bp_ HB hb; (try clear hb); (try clear ho0)))
 repeat (go_quiet (first | ((with_reducible refine gate_dst (N := 1) rfl ?_); refine bx_ 1 #[.slice A0_0 l0_0.length c0_0] 29 ?_; intro gb305 hg w3 hbox hb; have BK305 := Aside0.mk (hbox); have GW305 := gw_ hg HB; have GE305 := gw_ hg HB; replace HB := bo_ HB hb; clear hb hbox hg) | ((with_reducible refine gate_dst (N := 8) rfl ?_); refine Kd.R_lit (Kd.int .i64) _ 3 ?hg (N := 8) ?hd (xs := ([] : List Int)) (inner := []) (ok := fun _ => True) (okp := fun _ => True) ?hr ?hp (fun _ hk => hk) trivial (Below.refl _ _) (Nat.le_refl _) (by simp) ?_; (case hd => rfl); (case hg => rfl); (case hr => first | (go_simp; done) | (go_simp; rfl)); (case hp => exact (Reps.none _ _)); intro v307 w4 ho5 hb hg_ hnew_; clear hg_ hnew_; (first | rw [← Ny306.out] at ho5 | (simp only [Int.reduceToNat] at ho5; rw [← Ny306.out] at ho5)); have HO308 := Aside0.mk (Kd.R_lower ho5 (below_size (bq_ HB))); replace BK305 := bk_ BK305 hb; replace HB := bp_ HB hb; clear hb ho5; have hcz6_0 := cz_ BK305; have hfz6_0 := blk_frozen BK305.out 0) | (go_at_call 72; (with_reducible refine (spec_Gaps.calls k _ _ l0_0 t309 _ ?side1 ?side2 A2.out).mono ?_); (case side1 => exact ch_ HR0_0 HB); (case side2 => exact HC0_0.out); rintro e w7 ⟨v310, rfl, ho0, hb⟩; have HO311 := Aside0.mk (Kd.R_lower (Kd.R_new' ho0 (Kd.R_lt (re_ HO308.out))) (below_size (bq_ HB))); replace HO308 := Aside0.mk (Kd.R_elder' (re_ HO308.out) (Kd.R_base ho0) hb); replace BK305 := bk_ BK305 hb; replace HB := bp_ HB hb; (try clear hb); (try clear ho0))); try go_wp2_with (first | ((with_reducible refine gate_dst (N := 1) rfl ?_); refine bx_ 1 #[.slice A0_0 l0_0.length c0_0] 29 ?_; intro gb305 hg w3 hbox hb; have BK305 := Aside0.mk (hbox); have GW305 := gw_ hg HB; have GE305 := gw_ hg HB; replace HB := bo_ HB hb; clear hb hbox hg) | ((with_reducible refine gate_dst (N := 8) rfl ?_); refine Kd.R_lit (Kd.int .i64) _ 3 ?hg (N := 8) ?hd (xs := ([] : List Int)) (inner := []) (ok := fun _ => True) (okp := fun _ => True) ?hr ?hp (fun _ hk => hk) trivial (Below.refl _ _) (Nat.le_refl _) (by simp) ?_; (case hd => rfl); (case hg => rfl); (case hr => first | (go_simp; done) | (go_simp; rfl)); (case hp => exact (Reps.none _ _)); intro v307 w4 ho5 hb hg_ hnew_; clear hg_ hnew_; (first | rw [← Ny306.out] at ho5 | (simp only [Int.reduceToNat] at ho5; rw [← Ny306.out] at ho5)); have HO308 := Aside0.mk (Kd.R_lower ho5 (below_size (bq_ HB))); replace BK305 := bk_ BK305 hb; replace HB := bp_ HB hb; clear hb ho5; have hcz6_0 := cz_ BK305; have hfz6_0 := blk_frozen BK305.out 0) | (go_at_call 72; (with_reducible refine (spec_Gaps.calls k _ _ l0_0 t309 _ ?side1 ?side2 A2.out).mono ?_); (case side1 => exact ch_ HR0_0 HB); (case side2 => exact HC0_0.out); rintro e w7 ⟨v310, rfl, ho0, hb⟩; have HO311 := Aside0.mk (Kd.R_lower (Kd.R_new' ho0 (Kd.R_lt (re_ HO308.out))) (below_size (bq_ HB))); replace HO308 := Aside0.mk (Kd.R_elder' (re_ HO308.out) (Kd.R_base ho0) hb); replace BK305 := bk_ BK305 hb; replace HB := bp_ HB hb; (try clear hb); (try clear ho0))))
 go_loopg [3, 5] k (fun kq v3 v5 w' => ∃ (x3_1 : List Int) (x5_1 : Int), v5 = .int .i64 x5_1 ∧ Aside0 (spec_PseudoFrobenius.l0 kq x3_1 t309 x5_1 l0_0 = some r) ∧ Aside0 (kq ≤ k) ∧ Aside0 (Kd.R (Kd.int .i64) 3 w' w.heap.size (fun k_ => some k_ ≠ (v310 : Value).ownBlock) v3 x3_1) ∧ Aside0 (Kd.R (Kd.int .i64) 3 w' w.heap.size (fun k_ => some k_ ≠ (v3 : Value).ownBlock) v310 t309) ∧ Aside0 (w'.heap[gb305]? = some (.cells #[(.slice A0_0 l0_0.length c0_0)] 29 (0, 0))) ∧ Aside0 (Below w.heap.size w w'))
 case atStart => exact ⟨(y306), (0), rs_, H', ⟨Nat.le_refl _⟩, ⟨by (with_reducible repeat (first | apply Kd.R_alloc | apply Kd.R_drewN | apply Kd.R_drew)); exact Kd.R_mono HO308.out (fun _ hk => hk.2)⟩, ⟨by (with_reducible repeat (first | apply Kd.R_alloc | apply Kd.R_drewN | apply Kd.R_drew)); exact Kd.R_mono HO311.out (fun _ hk => hk.2)⟩, ⟨be_ BK305.out⟩, ⟨bq_ HB⟩⟩
 case round =>
  clear H'
  try clear p2
  try clear c7
  try clear hcz6_0
  try clear hfz6_0
  obtain ⟨x3_1, x5_1, rfl, HA, HK1, HO_3, HO_4, BK305, HB⟩ := hrel
  cases gk with
  | zero => exact absurd HA.out (by simp [spec_PseudoFrobenius.l0])
  | succ k1 =>
   have H := HA.out
   clear HA
   simp only [spec_PseudoFrobenius.l0] at H
   by_cases c8 : x5_1 < (t309.length : Int)
   · rw [if_pos c8] at H
     have c8b0 : decide (x5_1 < (t309.length : Int)) = true := decide_eq_true c8
     clear c8
     have H' := Aside0.mk H
     clear H
     obtain ⟨Ao9, co9, eo9⟩ := Kd.R_slice HO_4.out
     subst eo9
     go_wp2
     repeat (go_quiet (fail); try go_wp2)
     go_loopg [6, 7] k1 (fun kq v6 v7 w' => ∃ (x6_2 : Bool) (x7_2 : Int), v6 = .bool x6_2 ∧ v7 = .int .i64 x7_2 ∧ Aside0 (spec_PseudoFrobenius.l1 kq x3_1 t309 x5_1 x6_2 x7_2 l0_0 = some r) ∧ Aside0 (kq ≤ k1) ∧ Aside0 (Kd.R (Kd.int .i64) 3 w' w.heap.size (fun k_ => some k_ ≠ ((.slice Ao9 t309.length co9) : Value).ownBlock) u3 x3_1) ∧ Aside0 (Kd.R (Kd.int .i64) 3 w' w.heap.size (fun k_ => some k_ ≠ (u3 : Value).ownBlock) (.slice Ao9 t309.length co9) t309) ∧ Aside0 (w'.heap[gb305]? = some (.cells #[(.slice A0_0 l0_0.length c0_0)] 29 (0, 0))) ∧ Aside0 (Below w.heap.size w w'))
     case atStart => exact ⟨(true), (0), rs_, rs_, H', ⟨Nat.le_refl _⟩, ⟨re_ HO_3.out⟩, ⟨re_ HO_4.out⟩, ⟨be_ BK305.out⟩, ⟨bq_ HB⟩⟩
     case round =>
      clear H'
      try clear p2
      try clear c7
      try clear c8
      try clear c8b0
      try clear hcz6_0
      try clear hfz6_0
      try clear p2
      obtain ⟨x6_2, x7_2, rfl, rfl, HA, HK2, HO_3, HO_4, BK305, HB⟩ := hrel
      cases gk with
      | zero => exact absurd HA.out (by simp [spec_PseudoFrobenius.l1])
      | succ k2 =>
       have H := HA.out
       clear HA
       simp only [spec_PseudoFrobenius.l1] at H
       by_cases c10 : x7_2 < (l0_0.length : Int)
       · rw [if_pos c10] at H
         have c10b0 : decide (x7_2 < (l0_0.length : Int)) = true := decide_eq_true c10
         clear c10
         by_cases c11 : x6_2 = true
         · subst c11
           rw [if_pos rfl] at H
           by_cases c12 : 0 ≤ x5_1
           · rw [if_pos c12] at H
             have c12b0 : decide (0 ≤ x5_1) = true := decide_eq_true c12
             clear c12
             by_cases c13 : x5_1 < (t309.length : Int)
             · rw [if_pos c13] at H
               have c13b0 : decide (x5_1 < (t309.length : Int)) = true := decide_eq_true c13
               clear c13
               by_cases c14 : 0 ≤ x7_2
               · rw [if_pos c14] at H
                 have c14b0 : decide (0 ≤ x7_2) = true := decide_eq_true c14
                 clear c14
                 obtain ⟨t314, A15, H⟩ := ob_ H
                 have H' := Aside0.mk H
                 clear H
                 have hcz16_0 := cz_ BK305
                 have hfz16_0 := blk_frozen BK305.out 0
                 have p312 : 0 ≤ (x5_1 : Int) := od_
                 have q312 : x5_1 < (t309.length : Int) := od_
                 obtain ⟨ad312, e312, hx312_0⟩ := Kd.at_int (Kd.R_reads' HO_4.out).2.2 x5_1 p312 q312
                 cases e312
                 replace p312 := eq_true p312
                 replace q312 := eq_true q312
                 have p313 : 0 ≤ (x7_2 : Int) := od_
                 have q313 : x7_2 < (l0_0.length : Int) := od_
                 obtain ⟨ad313, e313, hx313_0⟩ := Kd.at_int HR0_0.out x7_2 p313 q313
                 cases e313
                 (try replace hx313_0 := (HB.out.cell (World.block_lt_of_cell? w _ hx313_0)).trans hx313_0)
                 replace p313 := eq_true p313
                 replace q313 := eq_true q313
                 go_wp2_with (first | (go_at_call 102; (with_reducible refine (spec_HasNumber.calls k2 _ _ t309 (wrap64 ((rd t309 x5_1) + (rd l0_0 x7_2))) t314 _ ?side1 ?side2 A15.out).mono ?_); (case side1 => exact ce_ ((Kd.R_reads' HO_4.out).2.2)); (case side2 => exact (Kd.R_reads' HO_4.out).2.1); rintro e w' ⟨rfl, ⟨nd, rfl⟩⟩; (try first | exact ⟨rfl, _, World.drewN_drewN _ _ _⟩ | exact ⟨rfl, _, Eq.trans (World.drewN_drewN _ _ _) (congrArg (World.drewN _) (Nat.add_assoc _ _ _))⟩)))
                 repeat (go_quiet (first | (go_at_call 102; (with_reducible refine (spec_HasNumber.calls k2 _ _ t309 (wrap64 ((rd t309 x5_1) + (rd l0_0 x7_2))) t314 _ ?side1 ?side2 A15.out).mono ?_); (case side1 => exact ce_ ((Kd.R_reads' HO_4.out).2.2)); (case side2 => exact (Kd.R_reads' HO_4.out).2.1); rintro e w' ⟨rfl, ⟨nd, rfl⟩⟩; (try first | exact ⟨rfl, _, World.drewN_drewN _ _ _⟩ | exact ⟨rfl, _, Eq.trans (World.drewN_drewN _ _ _) (congrArg (World.drewN _) (Nat.add_assoc _ _ _))⟩))); try go_wp2_with (first | (go_at_call 102; (with_reducible refine (spec_HasNumber.calls k2 _ _ t309 (wrap64 ((rd t309 x5_1) + (rd l0_0 x7_2))) t314 _ ?side1 ?side2 A15.out).mono ?_); (case side1 => exact ce_ ((Kd.R_reads' HO_4.out).2.2)); (case side2 => exact (Kd.R_reads' HO_4.out).2.1); rintro e w' ⟨rfl, ⟨nd, rfl⟩⟩; (try first | exact ⟨rfl, _, World.drewN_drewN _ _ _⟩ | exact ⟨rfl, _, Eq.trans (World.drewN_drewN _ _ _) (congrArg (World.drewN _) (Nat.add_assoc _ _ _))⟩))))
                 go_roundg k2
                 case measure => have := HK1.out; have := HK2.out; omega
                 case rel => exact ⟨(!t314), (wrap64 (x7_2 + 1)), rs_, rs_, H', ⟨by have := HK1.out; have := HK2.out; omega⟩, ⟨re_ HO_3.out⟩, ⟨re_ HO_4.out⟩, ⟨be_ BK305.out⟩, ⟨bq_ HB⟩⟩
               · rw [if_neg c14] at H
                 cases H
             · rw [if_neg c13] at H
               cases H
           · rw [if_neg c12] at H
             cases H
         · replace c11 := Bool.eq_false_iff.mpr c11
           subst c11
           rw [if_neg (show ¬ (false = true) by decide)] at H
           have H' := Aside0.mk H
           clear H
           have hcz17_0 := cz_ BK305
           have hfz17_0 := blk_frozen BK305.out 0
           go_wp2
           repeat (go_quiet (fail); try go_wp2)
           go_roundg k2
           case measure => have := HK1.out; have := HK2.out; omega
           case rel => exact ⟨(false), (wrap64 (x7_2 + 1)), rs_, rs_, H', ⟨by have := HK1.out; have := HK2.out; omega⟩, ⟨re_ HO_3.out⟩, ⟨re_ HO_4.out⟩, ⟨be_ BK305.out⟩, ⟨bq_ HB⟩⟩
       · rw [if_neg c10] at H
         have c10b0 : decide (x7_2 < (l0_0.length : Int)) = false := decide_eq_false c10
         clear c10
         by_cases c18 : x6_2 = true
         · subst c18
           rw [if_pos rfl] at H
           by_cases c19 : 0 ≤ x5_1
           · rw [if_pos c19] at H
             have c19b0 : decide (0 ≤ x5_1) = true := decide_eq_true c19
             clear c19
             by_cases c20 : x5_1 < (t309.length : Int)
             · rw [if_pos c20] at H
               have c20b0 : decide (x5_1 < (t309.length : Int)) = true := decide_eq_true c20
               clear c20
               by_cases c21 : x3_1.length < 17592186044416
               · rw [if_pos c21] at H
                 have LMc21 := Aside0.mk c21
                 clear c21
                 obtain ⟨y316, hy316⟩ : ∃ y_ : List Int, y_ = (x3_1 ++ [rd t309 x5_1]) := ⟨_, rfl⟩
                 replace H : (spec_PseudoFrobenius.l0 k2 y316 t309 (wrap64 (x5_1 + 1)) l0_0) = some r := by subst hy316; exact H
                 have Ny316 := Aside0.mk hy316
                 clear hy316
                 have H' := Aside0.mk H
                 clear H
                 have hcz22_0 := cz_ BK305
                 have hfz22_0 := blk_frozen BK305.out 0
                 have p315 : 0 ≤ (x5_1 : Int) := od_
                 have q315 : x5_1 < (t309.length : Int) := od_
                 obtain ⟨ad315, e315, hx315_0⟩ := Kd.at_int (Kd.R_reads' HO_4.out).2.2 x5_1 p315 q315
                 cases e315
                 replace p315 := eq_true p315
                 replace q315 := eq_true q315
                 go_wp2_with (first | ((with_reducible refine gate_builtin (b := .append) (xs := #[.tmp 41, .tmp 46]) rfl ?_); at_builtin; refine Kd.R_append (Kd.int .i64) (w0 := w) w.heap.size rfl (.tmp 41) (.tmp 46) 27 3 (.int .i64 0) 8 rfl Tryz.underlying27 info3 rfl (by decide) (by omega) u3 x3_1 (rd t309 x5_1) [.int .i64 (rd t309 x5_1)] (fun k_ => some k_ ≠ (.slice (some ad315) t309.length co9 : Value).ownBlock) (fun _ => False) rfl rfl ?aP (fun _ hk => hk.elim) ?aF ?aO ?aB ?aS ?aL ?_; (case aP => exact rfl); (case aB => exact (bq_ HB)); (case aF => exact (fun k_ hk => Kd.fresh' (Kd.R_lt (re_ HO_4.out)) k_ hk)); (case aO => exact (re_ HO_3.out)); (case aS => exact (below_size (bq_ HB))); (case aL => have := LMc21.out; omega); intro v317 w23 ho hb hg hat; rw [← Ny316.out] at ho; replace HO_4 := Aside0.mk (Kd.R_after (ok := (fun _ => True)) (by (with_reducible repeat (first | apply Kd.R_alloc | apply Kd.R_drewN | apply Kd.R_drew)); exact Kd.R_mono HO_4.out (fun _ hk => ⟨trivial, hk⟩)) hg hat); replace BK305 := Aside0.mk (blk_grown (be_ BK305.out) hg (Kd.R_ne HO_3.out BK305.out (by decide))); replace HB := Aside0.mk (hb); have HO318 := Aside0.mk (ho); clear HO_3; clear ho hb hg hat))
                 repeat (go_quiet (first | ((with_reducible refine gate_builtin (b := .append) (xs := #[.tmp 41, .tmp 46]) rfl ?_); at_builtin; refine Kd.R_append (Kd.int .i64) (w0 := w) w.heap.size rfl (.tmp 41) (.tmp 46) 27 3 (.int .i64 0) 8 rfl Tryz.underlying27 info3 rfl (by decide) (by omega) u3 x3_1 (rd t309 x5_1) [.int .i64 (rd t309 x5_1)] (fun k_ => some k_ ≠ (.slice (some ad315) t309.length co9 : Value).ownBlock) (fun _ => False) rfl rfl ?aP (fun _ hk => hk.elim) ?aF ?aO ?aB ?aS ?aL ?_; (case aP => exact rfl); (case aB => exact (bq_ HB)); (case aF => exact (fun k_ hk => Kd.fresh' (Kd.R_lt (re_ HO_4.out)) k_ hk)); (case aO => exact (re_ HO_3.out)); (case aS => exact (below_size (bq_ HB))); (case aL => have := LMc21.out; omega); intro v317 w23 ho hb hg hat; rw [← Ny316.out] at ho; replace HO_4 := Aside0.mk (Kd.R_after (ok := (fun _ => True)) (by (with_reducible repeat (first | apply Kd.R_alloc | apply Kd.R_drewN | apply Kd.R_drew)); exact Kd.R_mono HO_4.out (fun _ hk => ⟨trivial, hk⟩)) hg hat); replace BK305 := Aside0.mk (blk_grown (be_ BK305.out) hg (Kd.R_ne HO_3.out BK305.out (by decide))); replace HB := Aside0.mk (hb); have HO318 := Aside0.mk (ho); clear HO_3; clear ho hb hg hat)); try go_wp2_with (first | ((with_reducible refine gate_builtin (b := .append) (xs := #[.tmp 41, .tmp 46]) rfl ?_); at_builtin; refine Kd.R_append (Kd.int .i64) (w0 := w) w.heap.size rfl (.tmp 41) (.tmp 46) 27 3 (.int .i64 0) 8 rfl Tryz.underlying27 info3 rfl (by decide) (by omega) u3 x3_1 (rd t309 x5_1) [.int .i64 (rd t309 x5_1)] (fun k_ => some k_ ≠ (.slice (some ad315) t309.length co9 : Value).ownBlock) (fun _ => False) rfl rfl ?aP (fun _ hk => hk.elim) ?aF ?aO ?aB ?aS ?aL ?_; (case aP => exact rfl); (case aB => exact (bq_ HB)); (case aF => exact (fun k_ hk => Kd.fresh' (Kd.R_lt (re_ HO_4.out)) k_ hk)); (case aO => exact (re_ HO_3.out)); (case aS => exact (below_size (bq_ HB))); (case aL => have := LMc21.out; omega); intro v317 w23 ho hb hg hat; rw [← Ny316.out] at ho; replace HO_4 := Aside0.mk (Kd.R_after (ok := (fun _ => True)) (by (with_reducible repeat (first | apply Kd.R_alloc | apply Kd.R_drewN | apply Kd.R_drew)); exact Kd.R_mono HO_4.out (fun _ hk => ⟨trivial, hk⟩)) hg hat); replace BK305 := Aside0.mk (blk_grown (be_ BK305.out) hg (Kd.R_ne HO_3.out BK305.out (by decide))); replace HB := Aside0.mk (hb); have HO318 := Aside0.mk (ho); clear HO_3; clear ho hb hg hat)))
                 go_roundg k2
                 case measure => have := HK1.out; have := HK2.out; omega
                 case rel => exact ⟨(y316), (wrap64 (x5_1 + 1)), rs_, H', ⟨by have := HK1.out; have := HK2.out; omega⟩, ⟨re_ HO318.out⟩, ⟨by (with_reducible repeat (first | apply Kd.R_alloc | apply Kd.R_drewN | apply Kd.R_drew)); exact Kd.R_mono HO_4.out (fun _ hk => hk.2)⟩, ⟨be_ BK305.out⟩, ⟨bq_ HB⟩⟩
               · rw [if_neg c21] at H
                 cases H
             · rw [if_neg c20] at H
               cases H
           · rw [if_neg c19] at H
             cases H
         · replace c18 := Bool.eq_false_iff.mpr c18
           subst c18
           rw [if_neg (show ¬ (false = true) by decide)] at H
           have H' := Aside0.mk H
           clear H
           have hcz24_0 := cz_ BK305
           have hfz24_0 := blk_frozen BK305.out 0
           go_wp2
           repeat (go_quiet (fail); try go_wp2)
           go_roundg k2
           case measure => have := HK1.out; have := HK2.out; omega
           case rel => exact ⟨(x3_1), (wrap64 (x5_1 + 1)), rs_, H', ⟨by have := HK1.out; have := HK2.out; omega⟩, ⟨re_ HO_3.out⟩, ⟨re_ HO_4.out⟩, ⟨be_ BK305.out⟩, ⟨bq_ HB⟩⟩
   · rw [if_neg c8] at H
     have c8b0 : decide (x5_1 < (t309.length : Int)) = false := decide_eq_false c8
     clear c8
     obtain rfl := Option.some.inj H
     obtain ⟨Ao25, co25, eo25⟩ := Kd.R_slice HO_4.out
     subst eo25
     go_wp2
     repeat (go_quiet (fail); try go_wp2)
     go_ret
     exact ⟨_, rf_, by (with_reducible repeat (first | apply Kd.R_alloc | apply Kd.R_drewN | apply Kd.R_drew)); exact Kd.R_mono HO_3.out (fun _ hk => trivial), bq_ HB⟩
def spec_TypeOf.f (k : Nat) (l0_0 : List Int) : Option (Int) := (spec_IsSemigroup.f k l0_0).bind fun t320 => (if t320 = true then ((spec_PseudoFrobenius.f k l0_0).bind fun t321 => ((spec_l1Max.f 1 (t321.length : Int)).bind fun t324 => (some t324))) else (some 0))
theorem spec_TypeOf.calls (k : Nat) (A0_0 : Option Addr) (c0_0 : Nat) (l0_0 : List Int) (r : Int) (w : World) (hr0_0 : Kd.C (Kd.int .i64) w A0_0 l0_0.length l0_0) (hc0_0 : l0_0.length ≤ c0_0) (h : spec_TypeOf.f k l0_0 = some r) :
 Calls Tryz.prog 38 #[.agg #[.slice A0_0 l0_0.length c0_0]] w fun e w' => e = .returned (.int .i64 r) ∧ Below w.heap.size w w' := by
 have hu29 := Tryz.underlying29
 have HR0_0 := Aside0.mk hr0_0
 have HC0_0 := Aside0.mk hc0_0
 clear hr0_0 hc0_0
 have HB := Aside0.mk (Below.refl w.heap.size w)
 have H := h
 clear h
 unfold spec_TypeOf.f at H
 obtain ⟨t320, A2, H⟩ := ob_ H
 by_cases c3 : t320 = true
 · subst c3
   rw [if_pos rfl] at H
   obtain ⟨t321, A4, H⟩ := ob_ H
   obtain ⟨t324, A5, H⟩ := ob_ H
   obtain rfl := Option.some.inj H
   go_enter Tryz.func38, Tryz.ntmps38
   go_wp2_with (first | ((with_reducible refine gate_dst (N := 1) rfl ?_); refine bx_ 1 #[.slice A0_0 l0_0.length c0_0] 29 ?_; intro gb319 hg w6 hbox hb; have BK319 := Aside0.mk (hbox); have GW319 := gw_ hg HB; have GE319 := gw_ hg HB; replace HB := bo_ HB hb; clear hb hbox hg; have hcz7_0 := cz_ BK319; have hfz7_0 := blk_frozen BK319.out 0) | ((with_reducible refine gate_callee (f := 34) rfl ?_); refine gL_ (some 4) Tryz.func34 #[.agg #[.slice A0_0 l0_0.length c0_0]] ?_; (with_reducible refine (spec_IsSemigroup.calls k _ _ l0_0 true _ ?side1 ?side2 A2.out).mono ?_); (case side1 => exact ch_ HR0_0 HB); (case side2 => exact HC0_0.out); rintro e w8 ⟨rfl, hb⟩; refine ⟨_, rfl, ?_⟩; replace BK319 := bk_ BK319 hb; replace HB := bp_ HB hb; (try clear hb); have hcz9_0 := cz_ BK319; have hfz9_0 := blk_frozen BK319.out 0) | ((with_reducible refine gate_callee (f := 75) rfl ?_); refine gL_ (some 7) Tryz.func75 #[.agg #[.slice A0_0 l0_0.length c0_0]] ?_; (with_reducible refine (spec_PseudoFrobenius.calls k _ _ l0_0 t321 _ ?side1 ?side2 A4.out).mono ?_); (case side1 => exact ch_ HR0_0 HB); (case side2 => exact HC0_0.out); rintro e w10 ⟨v322, rfl, ho0, hb⟩; refine ⟨_, rfl, ?_⟩; have HO323 := Aside0.mk (Kd.R_lower ho0 (below_size (bq_ HB))); replace BK319 := bk_ BK319 hb; replace HB := bp_ HB hb; (try clear hb); (try clear ho0); obtain ⟨Ao11, co11, eo11⟩ := Kd.R_slice HO323.out; subst eo11) | ((with_reducible refine gate_callee (f := 74) rfl ?_); refine gL_ (some 9) Tryz.func74 #[.int .i64 1, .int .i64 (t321.length : Int)] ?_; (with_reducible refine (spec_l1Max.calls 1 (t321.length : Int) t324 _ A5.out).mono ?_); rintro e w' ⟨rfl, ⟨nd, rfl⟩⟩; refine ⟨_, rfl, ?_⟩))
   go_ret
   exact ⟨rf_, bq_ HB⟩
 · replace c3 := Bool.eq_false_iff.mpr c3
   subst c3
   rw [if_neg (show ¬ (false = true) by decide)] at H
   obtain rfl := Option.some.inj H
   go_enter Tryz.func38, Tryz.ntmps38
   go_wp2_with (first | ((with_reducible refine gate_dst (N := 1) rfl ?_); refine bx_ 1 #[.slice A0_0 l0_0.length c0_0] 29 ?_; intro gb319 hg w12 hbox hb; have BK319 := Aside0.mk (hbox); have GW319 := gw_ hg HB; have GE319 := gw_ hg HB; replace HB := bo_ HB hb; clear hb hbox hg; have hcz13_0 := cz_ BK319; have hfz13_0 := blk_frozen BK319.out 0) | ((with_reducible refine gate_callee (f := 34) rfl ?_); refine gL_ (some 4) Tryz.func34 #[.agg #[.slice A0_0 l0_0.length c0_0]] ?_; (with_reducible refine (spec_IsSemigroup.calls k _ _ l0_0 false _ ?side1 ?side2 A2.out).mono ?_); (case side1 => exact ch_ HR0_0 HB); (case side2 => exact HC0_0.out); rintro e w14 ⟨rfl, hb⟩; refine ⟨_, rfl, ?_⟩; replace BK319 := bk_ BK319 hb; replace HB := bp_ HB hb; (try clear hb)))
   go_ret
   exact ⟨rf_, bq_ HB⟩
def spec_l3Has.f (k : Nat) (l0_0 : List Int) (a1 : Int) : Option (Bool) := if a1 < 0 then (some (decide (a1 > 0))) else (if a1 ≥ 200 then (some (decide (a1 > 0))) else ((spec_l3Table.f k l0_0 a1).bind fun t326 => (if 0 ≤ a1 then (if a1 < (t326.length : Int) then (some (rdOf false t326 a1)) else (none)) else (none))))
theorem spec_l3Has.calls (k : Nat) (A0_0 : Option Addr) (c0_0 : Nat) (l0_0 : List Int) (a1 : Int) (r : Bool) (w : World) (hr0_0 : Kd.C (Kd.int .i64) w A0_0 l0_0.length l0_0) (hc0_0 : l0_0.length ≤ c0_0) (h : spec_l3Has.f k l0_0 a1 = some r) :
 Calls Tryz.prog 104 #[.agg #[.slice A0_0 l0_0.length c0_0], .int .i64 a1] w fun e w' => e = .returned (.bool r) ∧ Below w.heap.size w w' := by
 have hu29 := Tryz.underlying29
 have HR0_0 := Aside0.mk hr0_0
 have HC0_0 := Aside0.mk hc0_0
 clear hr0_0 hc0_0
 have HB := Aside0.mk (Below.refl w.heap.size w)
 have H := h
 clear h
 unfold spec_l3Has.f at H
 by_cases c3 : a1 < 0
 · rw [if_pos c3] at H
   have c3b0 : decide (a1 < 0) = true := decide_eq_true c3
   clear c3
   obtain rfl := Option.some.inj H
   go_enter Tryz.func104, Tryz.ntmps104
   go_wp2_with (first | ((with_reducible refine gate_dst (N := 2) rfl ?_); refine bx_ 2 #[.slice A0_0 l0_0.length c0_0] 29 ?_; intro gb325 hg w4 hbox hb; have BK325 := Aside0.mk (hbox); have GW325 := gw_ hg HB; have GE325 := gw_ hg HB; replace HB := bo_ HB hb; clear hb hbox hg))
   go_ret
   exact ⟨rf_, bq_ HB⟩
 · rw [if_neg c3] at H
   have c3b0 : decide (a1 < 0) = false := decide_eq_false c3
   clear c3
   by_cases c5 : a1 ≥ 200
   · rw [if_pos c5] at H
     have c5b0 : decide (200 ≤ a1) = true := decide_eq_true c5
     clear c5
     obtain rfl := Option.some.inj H
     go_enter Tryz.func104, Tryz.ntmps104
     go_wp2_with (first | ((with_reducible refine gate_dst (N := 2) rfl ?_); refine bx_ 2 #[.slice A0_0 l0_0.length c0_0] 29 ?_; intro gb325 hg w6 hbox hb; have BK325 := Aside0.mk (hbox); have GW325 := gw_ hg HB; have GE325 := gw_ hg HB; replace HB := bo_ HB hb; clear hb hbox hg))
     go_ret
     exact ⟨rf_, bq_ HB⟩
   · rw [if_neg c5] at H
     have c5b0 : decide (200 ≤ a1) = false := decide_eq_false c5
     clear c5
     obtain ⟨t326, A7, H⟩ := ob_ H
     by_cases c8 : 0 ≤ a1
     · rw [if_pos c8] at H
       have c8b0 : decide (0 ≤ a1) = true := decide_eq_true c8
       clear c8
       by_cases c9 : a1 < (t326.length : Int)
       · rw [if_pos c9] at H
         have c9b0 : decide (a1 < (t326.length : Int)) = true := decide_eq_true c9
         clear c9
         obtain rfl := Option.some.inj H
         go_enter Tryz.func104, Tryz.ntmps104
         go_wp2_with (first | ((with_reducible refine gate_dst (N := 2) rfl ?_); refine bx_ 2 #[.slice A0_0 l0_0.length c0_0] 29 ?_; intro gb325 hg w10 hbox hb; have BK325 := Aside0.mk (hbox); have GW325 := gw_ hg HB; have GE325 := gw_ hg HB; replace HB := bo_ HB hb; clear hb hbox hg; have hcz11_0 := cz_ BK325; have hfz11_0 := blk_frozen BK325.out 0) | ((with_reducible refine gate_callee (f := 101) rfl ?_); refine gL_ (some 16) Tryz.func101 #[.slice A0_0 l0_0.length c0_0, .int .i64 a1] ?_; (with_reducible refine (spec_l3Table.calls k _ _ l0_0 a1 t326 _ ?side1 ?side2 A7.out).mono ?_); (case side1 => exact ch_ HR0_0 HB); (case side2 => exact HC0_0.out); rintro e w12 ⟨v327, rfl, ho0, hb⟩; refine ⟨_, rfl, ?_⟩; have HO328 := Aside0.mk (Kd.R_lower ho0 (below_size (bq_ HB))); replace BK325 := bk_ BK325 hb; replace HB := bp_ HB hb; (try clear hb); (try clear ho0); obtain ⟨Ao13, co13, eo13⟩ := Kd.R_slice HO328.out; subst eo13; have p329 : 0 ≤ (a1 : Int) := od_; have q329 : a1 < (t326.length : Int) := od_; obtain ⟨ad329, e329, hx329_0⟩ := Kd.at_bool (Kd.R_reads' HO328.out).2.2 a1 p329 q329; cases e329; replace p329 := eq_true p329; replace q329 := eq_true q329))
         go_ret
         exact ⟨rf_, bq_ HB⟩
       · rw [if_neg c9] at H
         cases H
     · rw [if_neg c8] at H
       cases H
end Go.Proofs.YteaiehpgigaoaaaGreatDoor.PB
end
