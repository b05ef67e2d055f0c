/- Lemmas towards the laws of this seat: Tables with a cap: what the reference keeps. Conditions: each lemma's own premises. -/
import Derived.Test.YtllhjnaiobpghaaEBa
import Derived.Test.YtllhjnaiobpghaaEBasic
import Derived.Test.YtllhjnaiobpghaaEWays
namespace Go.Proofs.Ytllhjnaiobpghaa.E
open Go.RowKit Go.Proofs.YtllhjnaiobpghaaW.PrintWords Go.Proofs.YtllhjnaiobpghaaW.PrintLast Go.Proofs.YtllhjnaiobpghaaW.PrintMore
set_option linter.unusedVariables false
set_option linter.unusedSimpArgs false
/-! Tables with a cap: what the reference keeps. -/
def TB (B : Int) (v : List Int) (k m : Int) : Prop := 0 ≤ m ∧ m ≤ B ∧ (∀ c, Way v k c → m ≤ c) ∧ (m < B → Way v k m)
theorem TB.end_ {B : Int} {v : List Int} (hv : ∀ x ∈ v, 1 ≤ x) (ha : Asc v) {n best i : Int} {out : List Int} (hn : 1 ≤ n) (h0 : 0 ≤ best) (h1 : best ≤ B) (h2 : best < B → Way v n best) (h3 : ∀ j, 0 ≤ j → j < i → rd v j ≤ n → best ≤ rd out (n - rd v j) + 1)
    (h4 : ∀ k, 0 ≤ k → k < n → ∀ c, Way v k c → rd out k ≤ c ∨ best ≤ c + 1) (hi : ∀ j, i ≤ j → j < v.length → n < rd v j) : TB B v n best := by
  refine ⟨h0, h1, fun c w => ?_, h2⟩
  rcases w.last with ⟨e, _⟩ | ⟨x, hx, w'⟩
  · omega
  · have hp := w'.pos hv
    have hx1 := hv x hx
    obtain ⟨j, hj, hj', rfl⟩ := mem_rd hx
    by_cases hji : j < i
    · have := h3 j hj hji (by omega)
      rcases h4 (n - rd v j) (by omega) (by omega) _ w' with h | h <;> omega
    · have := hi j (by omega) hj'
      omega
theorem Asc.lt {v : List Int} (ha : Asc v) {i : Int} (h0 : 0 ≤ i) (d : Nat) : i + d < v.length → rd v i ≤ rd v (i + d) := by
  induction d with
  | zero => intro _; simp
  | succ d ih =>
    intro h
    have h1 := ih (by omega)
    have h2 := ha (i + (d + 1 : Nat)) (by omega) h
    rw [show i + ((d + 1 : Nat) : Int) - 1 = i + d from by omega] at h2
    omega
theorem Asc.le {v : List Int} (ha : Asc v) {i j : Int} (h0 : 0 ≤ i) (hij : i ≤ j) (hj : j < v.length) : rd v i ≤ rd v j := by
  have := ha.lt h0 (j - i).toNat (by omega)
  rwa [show i + ((j - i).toNat : Int) = j from by omega] at this
theorem TB.fw {v : List Int} {k m : Int} (h1 : (1 : Int) ∈ v) (hk : 0 ≤ k) (h : TB k v k m) : Fw v k m := by
  refine .inr ⟨?_, h.2.2.1⟩
  by_cases e : m < k
  · exact h.2.2.2 e
  · have := Way.times h1 k.toNat
    have e2 : m = k := by have := h.2.1; omega
    rw [e2]
    rwa [show ((k.toNat : Nat) : Int) = k from by omega, Int.mul_one] at this

end Go.Proofs.Ytllhjnaiobpghaa.E
