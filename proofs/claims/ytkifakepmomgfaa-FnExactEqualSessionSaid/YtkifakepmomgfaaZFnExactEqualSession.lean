-- Bundled by shake.py from this session's printed and written texts; Lean checks it.
import Derived.Below
import Derived.ChangeOld
import Derived.OpenShut
import Derived.ProofKit
import Derived.ShutString
import Derived.SizedLaws
import Derived.Test.YtkifakepmomgfaaRows
import Derived.Test.YtkifakepmomgfaaZFnExactEqualSessionx2
import Derived.WalkKit
section
namespace Go.Proofs.Ytkifakepmomgfaa.fnExactEqualSession
open Go.ChangeShapes Go.WideShapes Go.ChangeAt Go.RowKit Go.Proofs.YtkifakepmomgfaaW.PrintWords Go.Proofs.YtkifakepmomgfaaW.PrintLast Go.Proofs.YtkifakepmomgfaaW.PrintMore
open Go.ChangeMaps (open_string shut_string)
set_option linter.unusedVariables false
set_option linter.unusedSimpArgs false
theorem own : ownKnob Try.prog.godebug = none := by kernel_rfl
theorem laidOut : laidOutB Try.prog = true := by kernel_rfl
def IsRow (k : IntKind) (w : World) (a : Option Addr) (len cap : Nat) (zs : List Int) : Prop :=
  (a = none ∧ len = 0 ∧ cap = 0 ∧ zs = []) ∨
  ∃ x, a = some x ∧ len ≤ cap ∧ cap ≤ maxLen ∧ zs.length = cap ∧ (∀ i, i < zs.length → w.cell? (x.add i) = some (.int k (zs.getD i 0))) ∧ ∀ n ∈ zs, (Lit.int k n).wf = true
theorem walk (w : World) (a0a : Option Addr) (len0a cap0a : Nat) (z0a : List Int) (w0a : IsRow .i64 w a0a len0a cap0a z0a) (y0a : len0a * 8 ≤ 140737488351232) (a0b : Option Addr) (len0b cap0b : Nat) (z0b : List Int) (w0b : IsRow .i64 w a0b len0b cap0b z0b) (y0b : len0b * 8 ≤ 140737488351232) (a1a : Option Addr) (len1a cap1a : Nat) (z1a : List Int) (w1a : IsRow .i64 w a1a len1a cap1a z1a) (y1a : len1a * 8 ≤ 140737488351232) (a1b : Option Addr) (len1b cap1b : Nat) (z1b : List Int) (w1b : IsRow .i64 w a1b len1b cap1b z1b) (y1b : len1b * 8 ≤ 140737488351232) :
    Calls Try.prog 9 #[.agg #[.slice a0a len0a cap0a, .slice a0b len0b cap0b], .agg #[.slice a1a len1a cap1a, .slice a1b len1b cap1b]] w fun e w' => e = .returned (.bool true) ∧ Below w.heap.size w w' := by
  obtain ⟨l0a, rfl, hr0a, hm0a, hw0a, hc0a⟩ := ReadsInt.ofRowC w0a
  obtain ⟨l0b, rfl, hr0b, hm0b, hw0b, hc0b⟩ := ReadsInt.ofRowC w0b
  obtain ⟨l1a, rfl, hr1a, hm1a, hw1a, hc1a⟩ := ReadsInt.ofRowC w1a
  obtain ⟨l1b, rfl, hr1b, hm1b, hw1b, hc1b⟩ := ReadsInt.ofRowC w1b
  rcases Pure.FnExactEqualSession l0a l0b l1a l1b hm0a hm0b hm1a hm1b y0a y0b y1a y1b with ⟨s1, e1, n1⟩ | ⟨s1, s2, e1, n1, e2, n2⟩ | ⟨k, s1, s2, b, e1, n1, e2, n2, t1, t2, qs, qi, z1, z2⟩
  · exact PB.laws_FnExactEqualSession.calls_big1 _ _ l0a _ _ l0b _ _ l1a _ _ l1b s1 w (Kd.C_of_reads (d := (0 : Int)) (h1 := fun _ => rfl) hr0a) hc0a (Kd.C_of_reads (d := (0 : Int)) (h1 := fun _ => rfl) hr0b) hc0b (Kd.C_of_reads (d := (0 : Int)) (h1 := fun _ => rfl) hr1a) hc1a (Kd.C_of_reads (d := (0 : Int)) (h1 := fun _ => rfl) hr1b) hc1b e1 n1
  · exact PB.laws_FnExactEqualSession.calls_big2 _ _ l0a _ _ l0b _ _ l1a _ _ l1b s1 s2 w (Kd.C_of_reads (d := (0 : Int)) (h1 := fun _ => rfl) hr0a) hc0a (Kd.C_of_reads (d := (0 : Int)) (h1 := fun _ => rfl) hr0b) hc0b (Kd.C_of_reads (d := (0 : Int)) (h1 := fun _ => rfl) hr1a) hc1a (Kd.C_of_reads (d := (0 : Int)) (h1 := fun _ => rfl) hr1b) hc1b e1 n1 e2 n2
  · exact PB.laws_FnExactEqualSession.calls_true k _ _ l0a _ _ l0b _ _ l1a _ _ l1b s1 s2 b w (Kd.C_of_reads (d := (0 : Int)) (h1 := fun _ => rfl) hr0a) hc0a (Kd.C_of_reads (d := (0 : Int)) (h1 := fun _ => rfl) hr0b) hc0b (Kd.C_of_reads (d := (0 : Int)) (h1 := fun _ => rfl) hr1a) hc1a (Kd.C_of_reads (d := (0 : Int)) (h1 := fun _ => rfl) hr1b) hc1b e1 n1 e2 n2 t1 t2 qs qi z1 z2
set_option maxRecDepth 100000 in
theorem lifted (os : Os) (started : os.Started) (H : Type) (enc : TypeId × Value → H) :
    ReturnsInHanded {} Try.checked os 9 .any (Rows.fnExactEqualSessionSpec.pre6 enc Try.prog Try.f9 Rows.fnExactEqualSessionRow.domain false) (Rows.fnExactEqualSessionSpec.post enc Try.prog Try.f9 false true false false) := by
  refine returnsInHanded_of_change_sized (C := Try.checked) own started (by kernel_rfl) Try.func9
    (ChangeSpec.witness6 (enc := enc) (C := Try.checked) false ⟨#[], #[.agg #[.slice none 0 0, .slice none 0 0], .agg #[.slice none 0 0, .slice none 0 0]], []⟩ 8 (by kernel_rfl) (by kernel_rfl) (by kernel_rfl) (by kernel_rfl)) ?_
  intro W base args ds gs before hval0 hW hcnd hsz0 _
  have hsz : (DataW.weightsEach Try.prog (Try.f9.params.toList ++ Rows.fnExactEqualSessionSpec.plain.varTypes Try.prog) (ds ++ gs)).all (· ≤ reachBytes) = true := hsz0
  have hval : ∀ (j : Nat) t v, Try.f9.params[j]? = some t → args[j]? = some v → Value.okWide Try.prog W .any base t v := hval0
  have hW' := hW
  obtain ⟨p, q, hA0, hV, rfl, hfz, hnd⟩ := hW
  have hA : DataW.TrodAll enc Try.prog W 0 (fun _ => true) true Try.f9.params.toList args.toList ds p := hA0
  rw [Try.params9] at hA hval hsz
  obtain ⟨v0, vs0, d0, ds0, p0, q0, hargs, rfl, rfl, h0, r0⟩ := trodAll_cons hA
  obtain ⟨v1, vs1, d1, ds1, p1, q1, rfl, rfl, rfl, h1, r1⟩ := trodAll_cons r0
  obtain ⟨rfl, rfl, rfl⟩ := trodAll_nil r1
  obtain rfl : args = #[v0, v1] := by cases args; simp_all
  obtain ⟨rfl, rfl⟩ := trodVars_none hV
  have k0 := h0
  have lt0 : ∀ x ∈ p0, x.block < W.heap.size := by obtain ⟨m, hm⟩ := k0; exact DataW.trod_lt m _ _ _ hm
  obtain ⟨u0a, u0b, da0, db0, m0, rfl, rfl, rfl, ha0, hb0⟩ := Go.Joins.open_agg2 Try.underlying39 (by kernel_rfl) (by kernel_rfl) (hval 0 39 _ rfl rfl) h0
  have hz0 := E.sized_agg_ hsz (j := 0) (t := 39) rfl rfl Try.underlying39
  obtain ⟨y_0a, m_0a, rfl, hy0a⟩ := E.nest1_ Try.underlying37 (by kernel_rfl) ha0
  have hz0a := E.sized_agg_ hz0 (j := 0) (t := 37) rfl rfl Try.underlying37
  obtain ⟨a0a, len0a, cap0a, hu0a⟩ := Go.Joins.slice_form Try.underlying22 hy0a
  obtain rfl : u0a = .slice a0a len0a cap0a := by simpa using hu0a
  obtain ⟨z0a, w0a⟩ : ∃ zs, IsRow .i64 W a0a len0a cap0a zs := by
    rcases open_ints Try.underlying22 Try.underlying3 (by kernel_rfl) hy0a with ⟨hcs, _⟩ | ⟨x, l, c, zs, hcs, _, hl, hm, hz, _, hcell, hwz⟩
    · simp [Value.cells] at hcs
      obtain ⟨rfl, rfl, rfl⟩ := hcs
      exact ⟨[], .inl ⟨rfl, rfl, rfl, rfl⟩⟩
    · simp [Value.cells] at hcs
      obtain ⟨rfl, rfl, rfl⟩ := hcs
      exact ⟨zs, .inr ⟨_, rfl, hl, hm, by simpa using hz, hcell, hwz⟩⟩
  have y0a : len0a * 8 ≤ 140737488351232 := sized_ints hz0a (j := 0) (t := 22) rfl rfl Try.underlying22 Try.underlying3 (by kernel_rfl) (by kernel_rfl) ⟨m_0a, by simpa [Value.cells] using hy0a⟩
  obtain ⟨y_0b, m_0b, rfl, hy0b⟩ := E.nest1_ Try.underlying37 (by kernel_rfl) hb0
  have hz0b := E.sized_agg_ hz0 (j := 1) (t := 37) rfl rfl Try.underlying37
  obtain ⟨a0b, len0b, cap0b, hu0b⟩ := Go.Joins.slice_form Try.underlying22 hy0b
  obtain rfl : u0b = .slice a0b len0b cap0b := by simpa using hu0b
  obtain ⟨z0b, w0b⟩ : ∃ zs, IsRow .i64 W a0b len0b cap0b zs := by
    rcases open_ints Try.underlying22 Try.underlying3 (by kernel_rfl) hy0b with ⟨hcs, _⟩ | ⟨x, l, c, zs, hcs, _, hl, hm, hz, _, hcell, hwz⟩
    · simp [Value.cells] at hcs
      obtain ⟨rfl, rfl, rfl⟩ := hcs
      exact ⟨[], .inl ⟨rfl, rfl, rfl, rfl⟩⟩
    · simp [Value.cells] at hcs
      obtain ⟨rfl, rfl, rfl⟩ := hcs
      exact ⟨zs, .inr ⟨_, rfl, hl, hm, by simpa using hz, hcell, hwz⟩⟩
  have y0b : len0b * 8 ≤ 140737488351232 := sized_ints hz0b (j := 0) (t := 22) rfl rfl Try.underlying22 Try.underlying3 (by kernel_rfl) (by kernel_rfl) ⟨m_0b, by simpa [Value.cells] using hy0b⟩
  have k1 := h1
  have lt1 : ∀ x ∈ p1, x.block < W.heap.size := by obtain ⟨m, hm⟩ := k1; exact DataW.trod_lt m _ _ _ hm
  obtain ⟨u1a, u1b, da1, db1, m1, rfl, rfl, rfl, ha1, hb1⟩ := Go.Joins.open_agg2 Try.underlying39 (by kernel_rfl) (by kernel_rfl) (hval 1 39 _ rfl rfl) h1
  have hz1 := E.sized_agg_ hsz (j := 1) (t := 39) rfl rfl Try.underlying39
  obtain ⟨y_1a, m_1a, rfl, hy1a⟩ := E.nest1_ Try.underlying37 (by kernel_rfl) ha1
  have hz1a := E.sized_agg_ hz1 (j := 0) (t := 37) rfl rfl Try.underlying37
  obtain ⟨a1a, len1a, cap1a, hu1a⟩ := Go.Joins.slice_form Try.underlying22 hy1a
  obtain rfl : u1a = .slice a1a len1a cap1a := by simpa using hu1a
  obtain ⟨z1a, w1a⟩ : ∃ zs, IsRow .i64 W a1a len1a cap1a zs := by
    rcases open_ints Try.underlying22 Try.underlying3 (by kernel_rfl) hy1a with ⟨hcs, _⟩ | ⟨x, l, c, zs, hcs, _, hl, hm, hz, _, hcell, hwz⟩
    · simp [Value.cells] at hcs
      obtain ⟨rfl, rfl, rfl⟩ := hcs
      exact ⟨[], .inl ⟨rfl, rfl, rfl, rfl⟩⟩
    · simp [Value.cells] at hcs
      obtain ⟨rfl, rfl, rfl⟩ := hcs
      exact ⟨zs, .inr ⟨_, rfl, hl, hm, by simpa using hz, hcell, hwz⟩⟩
  have y1a : len1a * 8 ≤ 140737488351232 := sized_ints hz1a (j := 0) (t := 22) rfl rfl Try.underlying22 Try.underlying3 (by kernel_rfl) (by kernel_rfl) ⟨m_1a, by simpa [Value.cells] using hy1a⟩
  obtain ⟨y_1b, m_1b, rfl, hy1b⟩ := E.nest1_ Try.underlying37 (by kernel_rfl) hb1
  have hz1b := E.sized_agg_ hz1 (j := 1) (t := 37) rfl rfl Try.underlying37
  obtain ⟨a1b, len1b, cap1b, hu1b⟩ := Go.Joins.slice_form Try.underlying22 hy1b
  obtain rfl : u1b = .slice a1b len1b cap1b := by simpa using hu1b
  obtain ⟨z1b, w1b⟩ : ∃ zs, IsRow .i64 W a1b len1b cap1b zs := by
    rcases open_ints Try.underlying22 Try.underlying3 (by kernel_rfl) hy1b with ⟨hcs, _⟩ | ⟨x, l, c, zs, hcs, _, hl, hm, hz, _, hcell, hwz⟩
    · simp [Value.cells] at hcs
      obtain ⟨rfl, rfl, rfl⟩ := hcs
      exact ⟨[], .inl ⟨rfl, rfl, rfl, rfl⟩⟩
    · simp [Value.cells] at hcs
      obtain ⟨rfl, rfl, rfl⟩ := hcs
      exact ⟨zs, .inr ⟨_, rfl, hl, hm, by simpa using hz, hcell, hwz⟩⟩
  have y1b : len1b * 8 ≤ 140737488351232 := sized_ints hz1b (j := 0) (t := 22) rfl rfl Try.underlying22 Try.underlying3 (by kernel_rfl) (by kernel_rfl) ⟨m_1b, by simpa [Value.cells] using hy1b⟩
  clear hA0 hval0 hsz0 hsz
  refine (walk W a0a len0a cap0a z0a w0a y0a a0b len0b cap0b z0b w0b y0b a1a len1a cap1a z1a w1a y1a a1b len1b cap1b z1b w1b y1b).mono fun e W' ⟨he, bel⟩ => ?_
  subst he
  exact ⟨_, rfl, _, _, _, [], _, [], hW', trodAll_mk1 (shut_bool Try.underlying4 _), (trodAll_cons_mk (Below.trod laidOut (by kernel_rfl) (of_decide_eq_true (by kernel_rfl)) k0 bel lt0) (trodAll_cons_mk (Below.trod laidOut (by kernel_rfl) (of_decide_eq_true (by kernel_rfl)) k1 bel lt1) trodAll_mk0)), rfl, bel.frame _, fun h => by cases h⟩
theorem over : Rows.fnExactEqualSessionRow.holds Try.pinned (OpenSpec.ofChange Rows.fnExactEqualSessionSpec) :=
  OpenClaim.holds_of_wide 9 Try.f9 rfl rfl rfl rfl rfl rfl rfl ⟨rfl, rfl, rfl, rfl, rfl⟩ rfl rfl rfl rfl rfl (by kernel_rfl) Try.func9 (by kernel_rfl)
    (of_decide_eq_true (by kernel_rfl)) (by unfold Func.isWrapper; first | (rw [if_pos (by decide +kernel)]; kernel_rfl) | (rw [if_neg (by decide +kernel)]; exact ⟨rfl, rfl⟩))
    (fun os started H enc _ => lifted os started H enc)
theorem proved : Rows.FnExactEqualSessionSaid := over
#print axioms proved
end Go.Proofs.Ytkifakepmomgfaa.fnExactEqualSession
namespace Go.Proofs.Ytkifakepmomgfaa
theorem fnExactEqualSession_holds : Rows.FnExactEqualSessionSaid := fnExactEqualSession.proved
end Go.Proofs.Ytkifakepmomgfaa
end
