-- Bundled by shake.py from this session's printed and written texts; Lean checks it.
import Derived.Below
import Derived.ChangeOld
import Derived.ChangeSlices
import Derived.OpenShut
import Derived.ProofKit
import Derived.ShutString
import Derived.SizedLaws
import Derived.Test.YtonknpgfbkgbjaaRows
import Derived.Test.YtonknpgfbkgbjaaZFnExactMeetOfAllx10
import Derived.Test.YtonknpgfbkgbjaaZFnExactMeetOfAllx8
import Derived.WalkKit
section
namespace Go.Proofs.Ytonknpgfbkgbjaa.fnExactMeetOfAll
open Go.ChangeShapes Go.WideShapes Go.ChangeAt Go.RowKit Go.Deep Go.Proofs.YtonknpgfbkgbjaaW.PrintWords Go.Proofs.YtonknpgfbkgbjaaW.PrintLast Go.Proofs.YtonknpgfbkgbjaaW.PrintMore
open Go.ChangeMaps (open_string shut_string)
set_option linter.unusedVariables false
set_option linter.unusedSimpArgs false
theorem own : ownKnob Try.prog.godebug = none := by kernel_rfl
theorem laidOut : laidOutB Try.prog = true := by kernel_rfl
def IsRow (k : IntKind) (w : World) (a : Option Addr) (len cap : Nat) (zs : List Int) : Prop :=
 (a = none ∧ len = 0 ∧ cap = 0 ∧ zs = []) ∨
 ∃ x, a = some x ∧ len ≤ cap ∧ cap ≤ maxLen ∧ zs.length = cap ∧ (∀ i, i < zs.length → w.cell? (x.add i) = some (.int k (zs.getD i 0))) ∧ ∀ n ∈ zs, (Lit.int k n).wf = true
def IsRows (k : IntKind) (w : World) (a : Option Addr) (len cap : Nat) : Prop :=
 len ≤ cap ∧ cap ≤ maxLen ∧ (0 < len → ∃ ad, a = some ad ∧ ∀ i, i < len → ∃ b n c zs, w.cell? (ad.add i) = some (.slice b n c) ∧ IsRow k w b n c zs)
theorem open_sgs_ {H : Type} {enc : TypeId × Value → H} {P : Program} {w : World} {base : Nat} {held : Bool} {t e ti : TypeId} {f0 : Field} {k : IntKind} {fuel : Nat} {cs : List Value} {x : DataW H × List MemPlace}
 (ht : P.underlying t = some (.slice e)) (hs : P.underlying e = some (.struct #[f0])) (hone : oneCellFields P #[f0] = true) (hC : P.cellsOf e = 1) (hf : P.underlying f0.type = some (.slice ti)) (hi : P.underlying ti = some (.int k)) (hc : P.cellsOf ti = 1)
 (h : DataW.trod enc P w base (fun _ => true) held fuel t cs = some x) :
 ∃ (a : Option Addr) (len cap : Nat), cs = [.slice a len cap] ∧ IsRows k w a len cap := by
 rcases DataW.trod_slice ht h with ⟨hcs, _⟩ | ⟨a, len, cap, elems, rest, n, _, rfl, rfl, hb, hl, hm, hlen, hel, hsp, hns⟩
 · exact ⟨none, 0, 0, hcs, Nat.le_refl _, Nat.zero_le _, fun h => absurd h (Nat.lt_irrefl _)⟩
 · refine ⟨some a, len, cap, rfl, hl, hm, fun _ => ⟨a, rfl, fun i hi_ => ?_⟩⟩
   have hE := hel i hi_
   rw [hC, Nat.mul_one] at hE
   obtain ⟨y, hy⟩ : ∃ y, elems[i]? = some y := ⟨elems[i]'(by omega), List.getElem?_eq_getElem (by omega)⟩
   rw [hy] at hE
   obtain ⟨c1, hc1, hy1⟩ := Option.bind_eq_some_iff.1 hE
   obtain ⟨c, rfl, hcell⟩ : ∃ c, c1 = [c] ∧ w.cell? (a.add i) = some c := by
    have e0 : (a.add i).add 0 = a.add i := by simp [Addr.add]
    unfold World.cells? at hc1
    split at hc1
    · simp only [List.range_succ, List.range_zero, List.nil_append, List.mapM_cons, List.mapM_nil, e0] at hc1
      cases hcc : w.cell? (a.add i) with
      | none => simp [hcc] at hc1
      | some c => simp [hcc] at hc1; exact ⟨c, hc1.symm, rfl⟩
    · cases hc1
   obtain ⟨y0, m, _, hy0⟩ := E.nest1_ hs hone hy1
   rcases open_ints hf hi hc hy0 with ⟨hcs, _⟩ | ⟨x, l, c', zs, hcs, _, hl', hm', hz, _, hcell', hwz⟩
   · obtain rfl : c = .slice none 0 0 := by simpa using hcs
     exact ⟨none, 0, 0, [], hcell, .inl ⟨rfl, rfl, rfl, rfl⟩⟩
   · obtain rfl : c = .slice (some x) l c' := by simpa using hcs
     exact ⟨some x, l, c', zs, hcell, .inr ⟨_, rfl, hl', hm', by simpa using hz, hcell', hwz⟩⟩
theorem reads_ (w : World) (a0 : Option Addr) (len0 cap0 : Nat) (w0 : IsRows .i64 w a0 len0 cap0) :
 ∃ l0 : List PA.S36, l0.length = len0 ∧ (∀ x ∈ l0, x.f0.length ≤ maxLen) ∧ Kd.C PA.k36 w a0 l0.length l0 := by
 obtain ⟨h1, h2, h3⟩ := w0
 have hmax : maxLen ≤ 9223372036854775807 := by decide
 by_cases hp : 0 < len0
 · obtain ⟨ad, rfl, hc⟩ := h3 hp
   have hx : ∀ i : Fin len0, ∃ x : PA.S36, x.f0.length ≤ maxLen ∧ ∃ c : List Value, c.length = 1 ∧ PA.k36.K w x c ∧ ∀ j u, c[j]? = some u → w.cell? (ad.add (i.1 * 1 + j)) = some u := fun i => by
    obtain ⟨b, n, c, zs, hcell, hrow⟩ := hc i.1 i.2
    obtain ⟨l, rfl, hr, hm, _, hcap⟩ := ReadsInt.ofRowC hrow
    refine ⟨⟨l⟩, hm, [.slice b l.length c], rfl, PA.k36_mk w ⟨l⟩ hcap (Kd.C_of_reads (d := (0 : Int)) (h1 := fun _ => rfl) hr), fun j u hj => ?_⟩
    match j, hj with
    | 0, hj => rw [Nat.mul_one, Nat.add_zero, hcell]; exact hj
    | j + 1, hj => simp at hj
   obtain ⟨f, hf⟩ := Classical.axiomOfChoice hx
   refine ⟨List.ofFn f, List.length_ofFn, fun x hx => ?_, rfl, by rw [List.length_ofFn]; omega, fun _ => ⟨ad, rfl, fun j p hj => ?_⟩⟩
   · obtain ⟨i, rfl⟩ := List.mem_ofFn.1 hx
     exact (hf i).1
   · rw [List.getElem?_ofFn] at hj
     split at hj
     · rename_i hlt
       injection hj with hj
       subst hj
       obtain ⟨c, q1, q2, q3⟩ := (hf ⟨j, hlt⟩).2
       exact ⟨c, q1, q2, q3⟩
     · cases hj
 · have : len0 = 0 := by omega
   subst this
   exact ⟨[], rfl, (fun x hx => by cases hx), rfl, Nat.zero_le _, fun h => absurd h (Nat.lt_irrefl _)⟩
theorem walk (w : World) (a0 : Option Addr) (len0 cap0 : Nat) (w0 : IsRows .i64 w a0 len0 cap0) :
 Calls Try.prog 3 #[.slice a0 len0 cap0] w fun e w' => e = .returned (.bool true) ∧ Below w.heap.size w w' := by
 obtain ⟨l0, rfl, hm0, hr0⟩ := reads_ w a0 len0 cap0 w0
 obtain ⟨k, h⟩ := Pure.FnExactMeetOfAll l0 (Nat.le_trans w0.1 w0.2.1) hm0
 refine (PA.laws_FnExactMeetOfAll.calls k _ _ l0 true w hr0 w0.1 h).mono ?_
 rintro e w' ⟨rfl, hd⟩
 exact ⟨rfl, hd⟩
set_option maxRecDepth 100000 in
theorem lifted (os : Os) (started : os.Started) (H : Type) (enc : TypeId × Value → H) :
 ReturnsInHanded {} Try.checked os 3 .any (Rows.fnExactMeetOfAllSpec.pre6 enc Try.prog Try.f3 Rows.fnExactMeetOfAllRow.domain false) (Rows.fnExactMeetOfAllSpec.post enc Try.prog Try.f3 false true false false) := by
 refine returnsInHanded_of_change_sized (C := Try.checked) own started (by kernel_rfl) Try.func3
  (ChangeSpec.witness6 (enc := enc) (C := Try.checked) false ⟨#[], #[.slice none 0 0], []⟩ 8 (by kernel_rfl) (by kernel_rfl) (by kernel_rfl) (by kernel_rfl)) ?_
 intro W base args ds gs before hval0 hW hcnd hsz0 _
 have hval : ∀ (j : Nat) t v, Try.f3.params[j]? = some t → args[j]? = some v → Value.okWide Try.prog W .any base t v := hval0
 have hW' := hW
 obtain ⟨p, q, hA0, hV, rfl, hfz, hnd⟩ := hW
 have hA : DataW.TrodAll enc Try.prog W 0 (fun _ => true) true Try.f3.params.toList args.toList ds p := hA0
 rw [Try.params3] at hA hval
 obtain ⟨v0, vs0, d0, ds0, p0, q0, hargs, rfl, rfl, h0, r0⟩ := trodAll_cons hA
 obtain ⟨rfl, rfl, rfl⟩ := trodAll_nil r0
 obtain rfl : args = #[v0] := by cases args; simp_all
 obtain ⟨rfl, rfl⟩ := trodVars_none hV
 have k0 := h0
 have lt0 : ∀ x ∈ p0, x.block < W.heap.size := by obtain ⟨m, hm⟩ := k0; exact DataW.trod_lt m _ _ _ hm
 obtain ⟨a0, len0, cap0, rfl, w0⟩ : ∃ a0 len0 cap0, v0 = .slice a0 len0 cap0 ∧ IsRows .i64 W a0 len0 cap0 := by
  obtain ⟨a0, len0, cap0, rfl⟩ := okWide_slice Try.underlying22 (hval 0 22 v0 rfl rfl)
  obtain ⟨fuel, hf⟩ := h0
  obtain ⟨a, l, c, hcs, hr⟩ := open_sgs_ Try.underlying22 Try.underlying36 (by kernel_rfl) (by kernel_rfl) Try.underlying24 Try.underlying3 (by kernel_rfl) hf
  simp [Value.cells] at hcs
  obtain ⟨rfl, rfl, rfl⟩ := hcs
  exact ⟨_, _, _, rfl, hr⟩
 clear hA0 hval0 hsz0
 refine (walk W a0 len0 cap0 w0).mono fun e W' ⟨he, bel⟩ => ?_
 subst he
 exact ⟨_, rfl, _, _, _, [], _, [], hW', trodAll_mk1 (shut_bool Try.underlying4 _), (trodAll_cons_mk (Below.trod laidOut (by kernel_rfl) (of_decide_eq_true (by kernel_rfl)) k0 bel lt0) trodAll_mk0), rfl, bel.frame _, fun h => by cases h⟩
theorem over : Rows.fnExactMeetOfAllRow.holds Try.pinned (OpenSpec.ofChange Rows.fnExactMeetOfAllSpec) :=
 OpenClaim.holds_of_wide 3 Try.f3 rfl rfl rfl rfl rfl rfl rfl ⟨rfl, rfl, rfl, rfl, rfl⟩ rfl rfl rfl rfl rfl (by kernel_rfl) Try.func3 (by kernel_rfl)
  (of_decide_eq_true (by kernel_rfl)) (by unfold Func.isWrapper; first | (rw [if_pos (by decide +kernel)]; kernel_rfl) | (rw [if_neg (by decide +kernel)]; exact ⟨rfl, rfl⟩))
  (fun os started H enc _ => lifted os started H enc)
theorem proved : Rows.FnExactMeetOfAllSaid := over
#print axioms proved
end Go.Proofs.Ytonknpgfbkgbjaa.fnExactMeetOfAll
namespace Go.Proofs.Ytonknpgfbkgbjaa
theorem fnExactMeetOfAll_holds : Rows.FnExactMeetOfAllSaid := fnExactMeetOfAll.proved
end Go.Proofs.Ytonknpgfbkgbjaa
end
