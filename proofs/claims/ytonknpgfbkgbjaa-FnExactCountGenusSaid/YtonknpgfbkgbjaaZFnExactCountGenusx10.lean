-- Bundled by shake.py from this session's printed and written texts; Lean checks it.
import Derived.Lib.SlicesCompact
import Derived.Test.YtonknpgfbkgbjaaZFnExactCountGenusx1
import Derived.Test.YtonknpgfbkgbjaaZFnExactCountGenusx2
import Derived.Test.YtonknpgfbkgbjaaZFnExactCountGenusx3
import Derived.Test.YtonknpgfbkgbjaaZFnExactCountGenusx4
import Derived.Test.YtonknpgfbkgbjaaZFnExactCountGenusx5
import Derived.Test.YtonknpgfbkgbjaaZFnExactCountGenusx6
import Derived.Test.YtonknpgfbkgbjaaZFnExactCountGenusx7
import Derived.Test.YtonknpgfbkgbjaaZFnExactCountGenusx8
import Derived.Test.YtonknpgfbkgbjaaZFnExactCountGenusx9
section
namespace Go.Proofs.Ytonknpgfbkgbjaa.E
open Go.RowKit Go.Proofs.Ytonknpgfbkgbjaa.PB Go.Proofs.YtonknpgfbkgbjaaW.PrintWords Go.Proofs.YtonknpgfbkgbjaaW.PrintLast Go.Proofs.YtonknpgfbkgbjaaW.PrintMore
set_option linter.unusedVariables false
set_option linter.unusedSimpArgs false
theorem leasts_l3 {v : List Int} {a G M : Int} (hv : ∀ x ∈ v, 1 ≤ x ∧ x ≤ G) (hG : 0 ≤ G) (hG' : G ≤ 1000) (ha : 1 ≤ a) (ha' : a ≤ 200) (hl : v.length ≤ 20) {r n : Int} (hr0 : 0 ≤ r) (hr1 : r < a) {P : List Int → Prop}
 (H : ∀ (t : List Int) (ch : Bool), LInv v a G t → weight (a * G + 1) t ≤ M → (ch = true → weight (a * G + 1) t < M) → (ch = false → ∀ s, 0 ≤ s → s < r + 1 → 0 ≤ rd t s → ∀ g ∈ v, 0 ≤ rd t ((rd t s + g) % a) ∧ rd t ((rd t s + g) % a) ≤ rd t s + g) → ∃ u, P u ∧ Ev (fun k => impl_leasts.l2 k v a t ch a (r + 1)) u) (d : Nat) :
 ∀ (t : List Int) (ch : Bool) (i : Int), 0 ≤ i → i + d = v.length → LInv v a G t → rd t r = n → 0 ≤ n → weight (a * G + 1) t ≤ M → (ch = true → weight (a * G + 1) t < M) →
  (ch = false → ∀ s, 0 ≤ s → s < r → 0 ≤ rd t s → ∀ g ∈ v, 0 ≤ rd t ((rd t s + g) % a) ∧ rd t ((rd t s + g) % a) ≤ rd t s + g) → (ch = false → ∀ j, 0 ≤ j → j < i → 0 ≤ rd t ((rd t r + rd v j) % a) ∧ rd t ((rd t r + rd v j) % a) ≤ rd t r + rd v j) →
  ∃ u, P u ∧ Ev (fun k => impl_leasts.l3 k v a t ch r n a r v v.length i) u := by
 have hm : a * G = (a - 1) * G + G := by rw [Int.sub_mul]; omega
 have haG : a * G ≤ 200 * 1000 := Int.mul_le_mul ha' hG' hG (by omega)
 induction d with
 | zero =>
  intro t ch i h0 h1 I hn hn0 hM h2 h3 h4
  obtain ⟨u, hu, hE⟩ := H t ch I hM h2 (by
   intro hc s hs0 hs1 hs g hg
   by_cases e : s = r
   · subst e
     obtain ⟨j, hj0, hj1, rfl⟩ := mem_rd hg
     exact h4 hc j hj0 (by omega)
   · exact h3 hc s hs0 (by omega) hs g hg)
  refine ⟨u, hu, Ev.step (fun k => by rw [impl_leasts.l3]) (ev_ifn (by omega) ?_)⟩
  rw [w64 (by omega) (by omega)]; exact hE
 | succ d ih =>
  intro t ch i h0 h1 I hn hn0 hM h2 h3 h4
  have hgm := rd_mem (l := v) h0 (by omega)
  have hg := hv _ hgm
  have hb := I.top hG hr0 hr1
  have hlen := I.len
  have hto : Int.tmod (r + rd v i) a = (rd t r + rd v i) % a := by
   rw [Int.tmod_eq_emod_of_nonneg (by omega), Int.add_emod (rd t r), (I.way r hr0 hr1 (by omega)).2, Int.add_emod, Int.emod_eq_of_lt hr0 hr1]
  have q0 := Int.emod_nonneg (rd t r + rd v i) (b := a) (by omega)
  have q1 := Int.emod_lt_of_pos (rd t r + rd v i) (b := a) (by omega)
  have change : (rd t ((rd t r + rd v i) % a) < 0 ∨ rd t r + rd v i < rd t ((rd t r + rd v i) % a)) → ∃ u, P u ∧ Ev (fun k => impl_leasts.l3 k v a (t.set ((rd t r + rd v i) % a).toNat (n + rd v i)) true r n a r v v.length (i + 1)) u := by
   intro hc
   obtain ⟨I', w', _, hne⟩ := I.step hv ha hr0 hr1 hgm (by omega) hc
   rw [show n + rd v i = rd t r + rd v i from by omega]
   refine ih _ true (i + 1) (by omega) (by omega) I' ?_ (by omega) (by omega) (fun _ => by omega) (fun h => by cases h) (fun h => by cases h)
   rw [rd_set _ q0 (by omega) hr0, if_neg (fun e => hne e.symm)]; exact hn
  have stay : ¬ (rd t ((rd t r + rd v i) % a) < 0 ∨ rd t r + rd v i < rd t ((rd t r + rd v i) % a)) → ∃ u, P u ∧ Ev (fun k => impl_leasts.l3 k v a t ch r n a r v v.length (i + 1)) u := by
   intro hc
   refine ih t ch (i + 1) (by omega) (by omega) I hn hn0 hM h2 h3 (fun hf j hj0 hj1 => ?_)
   by_cases e : j = i
   · subst e; omega
   · exact h4 hf j hj0 (by omega)
  have head : ∀ u, (∀ c1 : rd t ((rd t r + rd v i) % a) < 0, Ev (fun k => impl_leasts.l3 k v a (t.set ((rd t r + rd v i) % a).toNat (n + rd v i)) true r n a r v v.length (i + 1)) u) → (∀ c1 : ¬ rd t ((rd t r + rd v i) % a) < 0, ∀ c2 : n + rd v i < rd t ((rd t r + rd v i) % a), Ev (fun k => impl_leasts.l3 k v a (t.set ((rd t r + rd v i) % a).toNat (n + rd v i)) true r n a r v v.length (i + 1)) u) → (∀ c1 : ¬ rd t ((rd t r + rd v i) % a) < 0, ∀ c2 : ¬ n + rd v i < rd t ((rd t r + rd v i) % a), Ev (fun k => impl_leasts.l3 k v a t ch r n a r v v.length (i + 1)) u) → Ev (fun k => impl_leasts.l3 k v a t ch r n a r v v.length i) u := by
   intro u f1 f2 f3
   refine Ev.step (fun k => by rw [impl_leasts.l3]) ?_
   rw [w64 (x := r + rd v i) (by omega) (by omega), hto, w64 (x := n + rd v i) (by omega) (by omega), w64 (x := i + 1) (by omega) (by omega)]
   refine ev_ifp (by omega) (ev_ifp h0 (ev_ifp (by omega) (ev_ifn (by omega) (ev_ifp q0 (ev_ifp (by omega) ?_)))))
   by_cases c1 : rd t ((rd t r + rd v i) % a) < 0
   · exact ev_ifp c1 (f1 c1)
   · by_cases c2 : n + rd v i < rd t ((rd t r + rd v i) % a)
     · exact ev_ifn c1 (ev_ifp c2 (f2 c1 c2))
     · exact ev_ifn c1 (ev_ifn c2 (f3 c1 c2))
  by_cases c1 : rd t ((rd t r + rd v i) % a) < 0
  · obtain ⟨u, hu, hE⟩ := change (.inl c1)
    exact ⟨u, hu, head u (fun _ => hE) (fun h => absurd c1 h) (fun h => absurd c1 h)⟩
  · by_cases c2 : n + rd v i < rd t ((rd t r + rd v i) % a)
    · obtain ⟨u, hu, hE⟩ := change (.inr (by omega))
      exact ⟨u, hu, head u (fun h => absurd h c1) (fun _ _ => hE) (fun _ h => absurd c2 h)⟩
    · obtain ⟨u, hu, hE⟩ := stay (by omega)
      exact ⟨u, hu, head u (fun h => absurd h c1) (fun _ h => absurd h c2) (fun _ _ => hE)⟩
theorem leasts_l2 {v : List Int} {a G M : Int} (hv : ∀ x ∈ v, 1 ≤ x ∧ x ≤ G) (hG : 0 ≤ G) (hG' : G ≤ 1000) (ha : 1 ≤ a) (ha' : a ≤ 200) (hl : v.length ≤ 20)
 (H : ∀ t : List Int, LInv v a G t → weight (a * G + 1) t < M → ∃ u, Lst v a G u ∧ Ev (fun k => impl_leasts.l1 k v a t true) u) (d : Nat) :
 ∀ (t : List Int) (ch : Bool) (r : Int), 0 ≤ r → r + d = a → LInv v a G t → weight (a * G + 1) t ≤ M → (ch = true → weight (a * G + 1) t < M) →
  (ch = false → ∀ s, 0 ≤ s → s < r → 0 ≤ rd t s → ∀ g ∈ v, 0 ≤ rd t ((rd t s + g) % a) ∧ rd t ((rd t s + g) % a) ≤ rd t s + g) →
  ∃ u, Lst v a G u ∧ Ev (fun k => impl_leasts.l2 k v a t ch a r) u := by
 induction d with
 | zero =>
  intro t ch r h0 h1 I hM h2 h3
  cases ch with
  | true =>
   obtain ⟨u, hu, hE⟩ := H t I (h2 rfl)
   exact ⟨u, hu, Ev.step (fun k => by rw [impl_leasts.l2]) (ev_ifn (by omega) hE)⟩
  | false =>
   refine ⟨t, I.done hv hG ha (fun s hs0 hs1 hs g hg => h3 rfl s hs0 (by omega) hs g hg), Ev.step (fun k => by rw [impl_leasts.l2]) (ev_ifn (by omega) (Ev.step (fun k => by rw [impl_leasts.l1]) (ev_ifn (by simp) (Ev.now _))))⟩
 | succ d ih =>
  intro t ch r h0 h1 I hM h2 h3
  have hlen := I.len
  by_cases c : rd t r < 0
  · obtain ⟨u, hu, hE⟩ := ih t ch (r + 1) (by omega) (by omega) I hM h2 (fun hf s hs0 hs1 hs g hg => by
     by_cases e : s = r
     · subst e; omega
     · exact h3 hf s hs0 (by omega) hs g hg)
    refine ⟨u, hu, Ev.step (fun k => by rw [impl_leasts.l2]) (ev_ifp (by omega) (ev_ifp h0 (ev_ifp (by omega) (ev_ifp c ?_))))⟩
    rw [w64 (by omega) (by omega)]; exact hE
  · obtain ⟨u, hu, hE⟩ := leasts_l3 (M := M) (P := Lst v a G) hv hG hG' ha ha' hl h0 (by omega) (fun t ch I hM h2 h3 => ih t ch (r + 1) (by omega) (by omega) I hM h2 h3) v.length t ch 0 (by omega) (by omega) I rfl (by omega) hM h2 h3 (fun _ j hj0 hj1 => by omega)
    exact ⟨u, hu, Ev.step (fun k => by rw [impl_leasts.l2]) (ev_ifp (by omega) (ev_ifp h0 (ev_ifp (by omega) (ev_ifn c hE))))⟩
theorem leasts_l1 {v : List Int} {a G : Int} (hv : ∀ x ∈ v, 1 ≤ x ∧ x ≤ G) (hG : 0 ≤ G) (hG' : G ≤ 1000) (ha : 1 ≤ a) (ha' : a ≤ 200) (hl : v.length ≤ 20) (m : Nat) :
 ∀ t : List Int, LInv v a G t → weight (a * G + 1) t ≤ m → ∃ u, Lst v a G u ∧ Ev (fun k => impl_leasts.l1 k v a t true) u := by
 induction m using Nat.strongRecOn with
 | _ m ih =>
  intro t I hm
  have hB : 0 ≤ a * G + 1 := by have := Int.mul_nonneg (show 0 ≤ a by omega) hG; omega
  obtain ⟨u, hu, hE⟩ := leasts_l2 (M := weight (a * G + 1) t) hv hG hG' ha ha' hl (fun t' I' h' => ih (weight (a * G + 1) t').toNat (by have := weight_nonneg hB t'; have := weight_nonneg hB t; omega) t' I' (by have := weight_nonneg hB t'; omega)) a.toNat t false 0 (by omega) (by omega) I (Int.le_refl _) (fun h => by cases h) (fun _ s hs0 hs1 => by omega)
  refine ⟨u, hu, Ev.step (fun k => by rw [impl_leasts.l1]) (ev_ifp rfl ?_)⟩
  rw [I.len]; exact hE
theorem leasts_l0 {v : List Int} {a : Int} (ha : 1 ≤ a) (ha' : a ≤ 200) {u : List Int} (H : Ev (fun k => impl_leasts.l1 k v a ((List.replicate a.toNat (-1)).set 0 0) true) u) (d : Nat) :
 ∀ (i : Int) (row : List Int), 0 ≤ i → i + d = a → (row.length : Int) = a → (∀ j, 0 ≤ j → j < i → rd row j = -1) → Ev (fun k => impl_leasts.l0 k v a row a i) u := by
 induction d with
 | zero =>
  intro i row h0 h1 h2 h3
  have e : row = List.replicate a.toNat (-1) := rd_ext (by simp; omega) fun j hj hj' => by rw [h3 j hj (by omega), rd_rep hj (by omega)]
  subst e
  refine Ev.step (fun k => by rw [impl_leasts.l0]) ?_
  exact ev_ifn (by omega) (ev_ifp (by omega) H)
 | succ d ih =>
  intro i row h0 h1 h2 h3
  refine Ev.step (fun k => by rw [impl_leasts.l0]) ?_
  simp (disch := omega) only [if_pos, w64]
  refine ih (i + 1) _ (by omega) (by omega) (by simpa using h2) fun j hj hj' => ?_
  rw [rd_set _ h0 (by omega) hj]
  by_cases e : j = i
  · rw [if_pos e]
  · rw [if_neg e]; exact h3 j hj (by omega)
theorem leasts_ev {v : List Int} {a G : Int} (hv : ∀ x ∈ v, 1 ≤ x ∧ x ≤ G) (hG : 0 ≤ G) (hG' : G ≤ 1000) (ha : 1 ≤ a) (ha' : a ≤ 200) (hl : v.length ≤ 20) : ∃ u, Lst v a G u ∧ Ev (fun k => impl_leasts.f k v a) u := by
 have hB : 0 ≤ a * G + 1 := by have := Int.mul_nonneg (show 0 ≤ a by omega) hG; omega
 obtain ⟨u, hu, hE⟩ := leasts_l1 hv hG hG' ha ha' hl (weight (a * G + 1) ((List.replicate a.toNat (-1)).set 0 0)).toNat _ (LInv.first ha hG) (by have := weight_nonneg hB ((List.replicate a.toNat (-1)).set 0 0); omega)
 refine ⟨u, hu, ?_⟩
 unfold impl_leasts.f
 refine ev_ifp (by omega) (ev_ifp (by omega) ?_)
 simp only [Option.bind_some]
 rw [show ((List.replicate a.toNat (0 : Int)).length : Int) = a from by simp; omega]
 exact leasts_l0 ha ha' hE a.toNat 0 _ (by omega) (by omega) (by simp; omega) (fun j h h' => by omega)
theorem usableI_ev {v : List Int} (hl : v.length ≤ 1099511627776) : Ev (fun k => impl_usable.f k v) (decide (UL v)) := by
 unfold impl_usable.f
 simp only [within_eq, Option.bind_some]
 by_cases h : 1 ≤ (v.length : Int) ∧ (v.length : Int) ≤ 20
 · exact ev_ifp (by simpa using h) (ev_bind _ (allWithin_ev 1 60 hl) (ev_to (Ev.now _) (by simp only [UL, h, true_and])))
 · exact ev_ifn (by simpa using h) (ev_to (Ev.now _) (decide_eq_false (fun u => h u.1)).symm)
theorem gensS_l {v : List Int} (hl : v.length ≤ 1099511627776) (d : Nat) : ∀ i : Int, 0 ≤ i → i + d = v.length → (∀ j, 0 ≤ j → j < i → 1 ≤ rd v j ∧ rd v j ≤ 60) → Ev (fun k => spec_l3Gens.l0 k v i) (decide (UL v)) := by
 induction d with
 | zero =>
  intro i h0 h1 h2
  refine Ev.step (fun k => by rw [spec_l3Gens.l0]) ?_
  simp only [l1In_eq, Option.bind_some]
  refine ev_ifn (by omega) (ev_to (Ev.now _) ?_)
  have : ∀ x ∈ v, 1 ≤ x ∧ x ≤ 60 := fun x hx => by
   obtain ⟨j, hj, hj', rfl⟩ := mem_rd hx; exact h2 j hj (by omega)
  exact decide_eq_decide.2 ⟨fun h => ⟨h, this⟩, fun h => h.1⟩
 | succ d ih =>
  intro i h0 h1 h2
  refine Ev.step (fun k => by rw [spec_l3Gens.l0]) ?_
  simp only [l1In_eq, Option.bind_some]
  rw [w64 (by omega) (by omega)]
  by_cases h : 1 ≤ rd v i ∧ rd v i ≤ 60
  · refine ev_ifp (by omega) (ev_ifp h0 (ev_ifp (by simpa using h) (ih (i + 1) (by omega) (by omega) (fun j hj hj' => ?_))))
    by_cases e : j = i
    · rw [e]; exact h
    · exact h2 j hj (by omega)
  · exact ev_ifp (by omega) (ev_ifp h0 (ev_ifn (by simpa using h) (ev_to (Ev.now _) (decide_eq_false (fun u => h (u.2 _ (rd_mem h0 (by omega))))).symm)))
theorem gensS_ev {v : List Int} (hl : v.length ≤ 1099511627776) : Ev (fun k => spec_l3Gens.f k v) (decide (UL v)) :=
 gensS_l hl v.length 0 (by omega) (by omega) (fun j h h' => by omega)
def Gen (v : List Int) (n : Int) : Prop := UL v ∧ (0 ≤ n ∧ n ≤ 1000000) ∧ Su v n
noncomputable instance (v : List Int) (n : Int) : Decidable (Gen v n) := Classical.propDecidable _
theorem genI_ev {v : List Int} (n : Int) (hl : v.length ≤ 1099511627776) : Ev (fun k => impl_Generates.f k v n) (decide (Gen v n)) := by
 unfold impl_Generates.f
 simp only [within_eq, Option.bind_some]
 by_cases hu : UL v
 · by_cases hn : 0 ≤ n ∧ n ≤ 1000000
   · obtain ⟨f1, f2, f3⟩ := hu.first
     have hlen := hu.1
     obtain ⟨u, hL, hE⟩ := leasts_ev (G := 60) (a := rd v 0) hu.2 (by omega) (by omega) f2 (by omega) (by omega)
     have q0 := Int.emod_nonneg n (b := rd v 0) (by omega)
     have q1 := Int.emod_lt_of_pos n (b := rd v 0) (by omega)
     have hs := hL.su (n := n) f2 (Su.mem f1)
     have hll := hL.len
     rw [Int.tmod_eq_emod_of_nonneg hn.1]
     refine ev_bind _ (usableI_ev hl) (ev_ifp (by simpa using hu) (ev_ifp (by simpa using hn) (ev_ifp (by omega) (ev_bind _ hE (ev_ifn (by omega) (ev_ifp q0 (ev_ifp (by omega) ?_)))))))
     by_cases c : rd u (n % rd v 0) ≥ 0
     · refine ev_ifp c (ev_to (Ev.now _) (decide_eq_decide.2 ?_))
       exact ⟨fun h => ⟨hu, hn, hs.2 ⟨c, h⟩⟩, fun h => (hs.1 h.2.2).2⟩
     · exact ev_ifn c (ev_to (Ev.now _) (decide_eq_false (fun h => c (hs.1 h.2.2).1)).symm)
   · exact ev_bind _ (usableI_ev hl) (ev_ifp (by simpa using hu) (ev_ifn (by simpa using hn) (ev_to (Ev.now _) (decide_eq_false (fun h => hn h.2.1)).symm)))
 · exact ev_bind _ (usableI_ev hl) (ev_ifn (by simpa using hu) (ev_to (Ev.now _) (decide_eq_false (fun h => hu h.1)).symm))
end Go.Proofs.Ytonknpgfbkgbjaa.E
end
section
namespace Go.Proofs.Ytonknpgfbkgbjaa.E
open Go.RowKit Go.Proofs.YtonknpgfbkgbjaaW.PrintWords Go.Proofs.YtonknpgfbkgbjaaW.PrintLast Go.Proofs.YtonknpgfbkgbjaaW.PrintMore
set_option linter.unusedVariables false
set_option linter.unusedSimpArgs false
theorem take_ul {v : List Int} (hv : ∀ x ∈ v, 1 ≤ x ∧ x ≤ 60) (i : Nat) : ∀ x ∈ v.take i, 1 ≤ x ∧ x ≤ 60 := fun x hx => hv x (List.mem_of_mem_take hx)
theorem take_len {v : List Int} {i : Int} (h0 : 0 ≤ i) (hi : i ≤ v.length) : ((v.take i.toNat).length : Int) = i := by rw [List.length_take]; omega
end Go.Proofs.Ytonknpgfbkgbjaa.E
end
section
namespace Go.Proofs.Ytonknpgfbkgbjaa.E
open Go.RowKit Go.Proofs.Ytonknpgfbkgbjaa.PB Go.Proofs.YtonknpgfbkgbjaaW.PrintWords Go.Proofs.YtonknpgfbkgbjaaW.PrintLast Go.Proofs.YtonknpgfbkgbjaaW.PrintMore
set_option linter.unusedVariables false
set_option linter.unusedSimpArgs false
structure SG (v : List Int) : Prop where
 ul : UL v
 len : (v.length : Int) ≤ 12
 asc : Asc v
 gcd : gl v = 1
 min : ∀ i : Int, 1 ≤ i → i < v.length → ¬ Su (v.take i.toNat) (rd v i)
 ends : ∀ n, 200 ≤ n → Su v n
noncomputable instance (v : List Int) : Decidable (SG v) := Classical.propDecidable _
theorem ends_iff {v : List Int} {a : Int} (ha : 1 ≤ a) (hav : Su v a) : (∀ n, 200 ≤ n → Su v n) ↔ ∀ n, 200 ≤ n → n < 200 + a → Su v n := by
 constructor
 · intro h n h1 _; exact h n h1
 · intro h n hn
   have q0 := Int.emod_nonneg (n - 200) (b := a) (by omega)
   have q1 := Int.emod_lt_of_pos (n - 200) (b := a) (by omega)
   have le := emod_le_self (n := n - 200) (x := a) (by omega) (by omega)
   refine Su.up ha hav (h (200 + (n - 200) % a) (by omega) (by omega)) (by omega) ?_
   rw [Int.add_emod_emod]; congr 1; omega
theorem Lst.all {v : List Int} {a G : Int} {t : List Int} (h : Lst v a G t) (ha : 1 ≤ a) (hv : ∀ x ∈ v, 1 ≤ x ∧ x ≤ 60) (hg : gl v = 1) {r : Int} (h0 : 0 ≤ r) (h1 : r < a) : 0 ≤ rd t r := by
 obtain ⟨n, ⟨c, w⟩, e⟩ := all_classes ha hv hg r
 have := (h.least n c w).1
 rwa [e, Int.emod_eq_of_lt h0 h1] at this
theorem ends_lst {v : List Int} {a G : Int} {t : List Int} (h : Lst v a G t) (ha : 1 ≤ a) (hav : Su v a) (hv : ∀ x ∈ v, 1 ≤ x ∧ x ≤ 60) (hg : gl v = 1) : (∀ n, 200 ≤ n → Su v n) ↔ ∀ r, 0 ≤ r → r < a → rd t r < 200 + a := by
 rw [ends_iff ha hav]
 constructor
 · intro k r h0 h1
   have q0 := Int.emod_nonneg (r - 200) (b := a) (by omega)
   have q1 := Int.emod_lt_of_pos (r - 200) (b := a) (by omega)
   have e : (200 + (r - 200) % a) % a = r := by
    rw [Int.add_emod_emod, show 200 + (r - 200) = r from by omega, Int.emod_eq_of_lt h0 h1]
   have := (h.su ha hav).1 (k (200 + (r - 200) % a) (by omega) (by omega))
   rw [e] at this
   omega
 · intro k n h0 h1
   have q0 := Int.emod_nonneg n (b := a) (by omega)
   have q1 := Int.emod_lt_of_pos n (b := a) (by omega)
   have p := h.all ha hv hg q0 q1
   have b := k _ q0 q1
   refine (h.su ha hav).2 ⟨p, ?_⟩
   have e := (h.way _ q0 q1 p).2
   by_cases c : rd t (n % a) ≤ n
   · exact c
   · exfalso
     have e1 := Int.mul_ediv_add_emod n a
     have e2 := Int.mul_ediv_add_emod (rd t (n % a)) a
     rw [e] at e2
     have hq : a * (n / a) < a * (rd t (n % a) / a) := by omega
     have hq' : n / a < rd t (n % a) / a := Int.lt_of_mul_lt_mul_left hq (by omega)
     have : a * (n / a + 1) ≤ a * (rd t (n % a) / a) := Int.mul_le_mul_of_nonneg_left (by omega) (by omega)
     rw [Int.mul_add] at this
     omega
theorem sgI_l1 {v u : List Int} {a : Int} (hl : 0 < (v.length : Int)) (ha : rd v 0 = a) (ha1 : 1 ≤ a ∧ a ≤ 60) (hul : (u.length : Int) = a) (hb : ∀ r, 0 ≤ r → r < a → -1 ≤ rd u r ∧ rd u r ≤ 3600) (d : Nat) : ∀ i : Int, 0 ≤ i → i + d = a → ∃ r : Bool, Ev (fun k => impl_IsSemigroup.l1 k v u a i) r ∧ (r = true ↔ ∀ j, i ≤ j → j < a → rd u j < 200 + a) := by
 induction d with
 | zero =>
  intro i h0 h1
  exact ⟨true, Ev.step (fun k => by rw [impl_IsSemigroup.l1]) (ev_ifn (by omega) (Ev.now _)), fun _ j hj hj' => by omega, fun _ => rfl⟩
 | succ d ih =>
  intro i h0 h1
  have b := hb i h0 (by omega)
  by_cases c : rd u i - a ≥ 200
  · refine ⟨false, Ev.step (fun k => by rw [impl_IsSemigroup.l1]) ?_, fun h => (by cases h), fun h => ?_⟩
    · rw [ha, w64 (x := rd u i - a) (by omega) (by omega)]
      exact ev_ifp (by omega) (ev_ifp h0 (ev_ifp (by omega) (ev_ifp hl (ev_ifp c (Ev.now _)))))
    · have := h i (Int.le_refl _) (by omega); omega
  · obtain ⟨r, hE, hr⟩ := ih (i + 1) (by omega) (by omega)
    refine ⟨r, Ev.step (fun k => by rw [impl_IsSemigroup.l1]) ?_, ?_⟩
    · rw [ha, w64 (x := rd u i - a) (by omega) (by omega), w64 (x := i + 1) (by omega) (by omega)]
      exact ev_ifp (by omega) (ev_ifp h0 (ev_ifp (by omega) (ev_ifp hl (ev_ifn c hE))))
    · rw [hr]
      constructor
      · intro h j hj hj'
        by_cases e : j = i
        · rw [e]; omega
        · exact h j (by omega) hj'
      · intro h j hj hj'; exact h j (by omega) hj'
theorem gen_take {v : List Int} (hu : UL v) {i : Int} (h0 : 1 ≤ i) (hi : i < v.length) : Gen (v.take i.toNat) (rd v i) ↔ Su (v.take i.toNat) (rd v i) := by
 have hx := hu.2 _ (rd_mem (l := v) (i := i) (by omega) hi)
 have hl := hu.1
 exact ⟨fun h => h.2.2, fun h => ⟨⟨by rw [take_len (by omega) (by omega)]; omega, take_ul hu.2 _⟩, by omega, h⟩⟩
theorem sgI_l0 {v : List Int} (hu : UL v) (hg : gl v = 1) (d : Nat) : ∀ i : Int, 1 ≤ i → i + d = max 1 v.length → ∃ r : Bool, Ev (fun k => impl_IsSemigroup.l0 k v i) r ∧ (r = true ↔ (∀ j : Int, i ≤ j → j < v.length → ¬ Su (v.take j.toNat) (rd v j)) ∧ ∀ n, 200 ≤ n → Su v n) := by
 have hlen := hu.1
 induction d with
 | zero =>
  intro i h0 h1
  obtain ⟨f1, f2, f3⟩ := hu.first
  obtain ⟨u, hL, hE⟩ := leasts_ev (G := 60) (a := rd v 0) hu.2 (by omega) (by omega) f2 (by omega) (by omega)
  have hll := hL.len
  obtain ⟨r, hE', hr⟩ := sgI_l1 (v := v) (u := u) (a := rd v 0) (by omega) rfl ⟨f2, f3⟩ hll (fun r h0 h1 => ⟨hL.ge r h0 h1, by have := hL.bound r h0 h1; omega⟩) (rd v 0).toNat 0 (by omega) (by omega)
  refine ⟨r, Ev.step (fun k => by rw [impl_IsSemigroup.l0]) ?_, ?_⟩
  · refine ev_ifn (by omega) (ev_ifp (by omega) (ev_bind _ hE ?_))
    rw [hll]; exact hE'
  · rw [hr, ends_lst hL f2 (Su.mem f1) hu.2 hg]
    exact ⟨fun h => ⟨fun j hj hj' => by omega, h⟩, fun h => h.2⟩
 | succ d ih =>
  intro i h0 h1
  have g := gen_take hu h0 (by omega)
  have tl := take_len (v := v) (i := i) (by omega) (by omega)
  by_cases c : Su (v.take i.toNat) (rd v i)
  · refine ⟨false, Ev.step (fun k => by rw [impl_IsSemigroup.l0]) ?_, fun h => (by cases h), fun h => absurd c (h.1 i (Int.le_refl _) (by omega))⟩
    exact ev_ifp (by omega) (ev_ifp (by omega) (ev_ifp (by omega) (ev_bind _ (genI_ev _ (by omega)) (ev_ifp (by simpa using g.2 c) (Ev.now _)))))
  · obtain ⟨r, hE, hr⟩ := ih (i + 1) (by omega) (by omega)
    refine ⟨r, Ev.step (fun k => by rw [impl_IsSemigroup.l0]) ?_, ?_⟩
    · rw [w64 (x := i + 1) (by omega) (by omega)]
      exact ev_ifp (by omega) (ev_ifp (by omega) (ev_ifp (by omega) (ev_bind _ (genI_ev _ (by omega)) (ev_ifn (by simpa using fun h => c (g.1 h)) hE))))
    · rw [hr]
      constructor
      · rintro ⟨h, h'⟩
        refine ⟨fun j hj hj' => ?_, h'⟩
        by_cases e : j = i
        · rw [e]; exact c
        · exact h j (by omega) hj'
      · rintro ⟨h, h'⟩; exact ⟨fun j hj hj' => h j (by omega) hj', h'⟩
theorem sgI_ev {v : List Int} (hl : v.length ≤ 1099511627776) : Ev (fun k => impl_IsSemigroup.f k v) (decide (SG v)) := by
 unfold impl_IsSemigroup.f
 simp only [within_eq, Option.bind_some]
 have no : ¬ SG v → Ev (fun k => impl_IsSemigroup.j0 k v true) (decide (SG v)) := fun h => by
  refine Ev.step (fun k => by rw [impl_IsSemigroup.j0]) ?_
  exact ev_ifp rfl (ev_to (Ev.now _) (decide_eq_false h).symm)
 by_cases c1 : 1 ≤ (v.length : Int) ∧ (v.length : Int) ≤ 12
 · refine ev_ifp (by simpa using c1) ?_
   by_cases c2 : ∀ x ∈ v, 1 ≤ x ∧ x ≤ 60
   · refine ev_bind _ (allWithin_ev 1 60 hl) (ev_ifp (by rw [decide_eq_true_eq]; exact c2) ?_)
     have hu : UL v := ⟨by omega, c2⟩
     by_cases c3 : Asc v
     · refine ev_bind _ (ascI_ev hl) (ev_ifp (by simpa using c3) (ev_bind _ (gcdListI_ev hl) ?_))
       by_cases c4 : gl v = 1
       · obtain ⟨r, hE, hr⟩ := sgI_l0 hu c4 (v.length - 1) 1 (by omega) (by omega)
         refine Ev.step (fun k => by rw [impl_IsSemigroup.j0]) ?_
         refine ev_ifn (by simpa using c4) (ev_to hE ?_)
         rw [Bool.eq_iff_iff, hr, decide_eq_true_eq]
         exact ⟨fun h => ⟨hu, c1.2, c3, c4, h.1, h.2⟩, fun h => ⟨h.min, h.ends⟩⟩
       · rw [show (gl v != 1) = true from by simpa using c4]
         exact no (fun h => c4 h.gcd)
     · exact ev_bind _ (ascI_ev hl) (ev_ifn (by simpa using c3) (no (fun h => c3 h.asc)))
   · exact ev_bind _ (allWithin_ev 1 60 hl) (ev_ifn (by rw [decide_eq_true_eq]; exact c2) (no (fun h => c2 h.ul.2)))
 · exact ev_ifn (by simpa using c1) (no (fun h => c1 ⟨h.ul.1.1, h.len⟩))
noncomputable def stab (v : List Int) (m : Int) : List Bool := (List.range (m + 1).toNat).map (fun n : Nat => decide (Su v (n : Int)))
theorem stab_len {v : List Int} {m : Int} (h : 0 ≤ m) : ((stab v m).length : Int) = m + 1 := by unfold stab; simp; omega
theorem rdb_lt {l : List Bool} {i : Int} (h0 : 0 ≤ i) (h : i < l.length) : rdOf false l i = l[i.toNat]'(by omega) := by
 unfold rdOf; rw [List.getD_eq_getElem?_getD, List.getElem?_eq_getElem (by omega)]; rfl
theorem rdb_ext {l m : List Bool} (hl : l.length = m.length) (h : ∀ i : Int, 0 ≤ i → i < l.length → rdOf false l i = rdOf false m i) : l = m := by
 refine List.ext_getElem hl fun n h1 h2 => ?_
 have := h n (by omega) (by omega)
 rw [rdb_lt (by omega) (by omega), rdb_lt (by omega) (by omega)] at this
 simpa using this
theorem stab_rd {v : List Int} {m j : Int} (h0 : 0 ≤ j) (h : j ≤ m) : rdOf false (stab v m) j = decide (Su v j) := by
 have := stab_len (v := v) (m := m) (by omega)
 rw [rdb_lt h0 (by omega)]
 unfold stab
 rw [List.getElem_map, List.getElem_range, show ((j.toNat : Nat) : Int) = j from by omega]
theorem stab_iff {v : List Int} {m j : Int} (h0 : 0 ≤ j) (h : j ≤ m) : rdOf false (stab v m) j = true ↔ Su v j := by rw [stab_rd h0 h]; simp
theorem stab_eq {v : List Int} {m : Int} (hm : 0 ≤ m) {t : List Bool} (hl : (t.length : Int) = m + 1) (h : ∀ j, 0 ≤ j → j ≤ m → (rdOf false t j = true ↔ Su v j)) : t = stab v m := by
 have e := stab_len (v := v) hm
 refine rdb_ext (by omega) fun i h0 h1 => ?_
 rw [stab_rd h0 (by omega), Bool.eq_iff_iff, h i h0 (by omega), decide_eq_true_eq]
theorem tabS_st {v : List Int} (hl : v.length ≤ 20) (hv : ∀ x ∈ v, 1 ≤ x ∧ x ≤ 60) {most : Int} (h0 : 0 ≤ most) (hm : most ≤ 1048576) : Ev (fun k => spec_l3Table.f k v most) (stab v most) := by
 obtain ⟨t, a, b, c⟩ := tabS_ev hl hv h0 hm
 rw [stab_eq h0 a b] at c
 exact c
theorem tabI_l {v u : List Int} (hu : UL v) (hg : gl v = 1) (hL : Lst v (rd v 0) 60 u) {most : Int} (hm0 : 0 ≤ most) (hm : most ≤ 1048576) (d : Nat) : ∀ (i : Int) (out : List Bool), 0 ≤ i → i + d = most + 1 → (out.length : Int) = most + 1 → (∀ j, 0 ≤ j → j < i → (rdOf false out j = true ↔ Su v j)) → Ev (fun k => impl_table.l0 k u out (most + 1) i v) (stab v most) := by
 have f := hu.first
 obtain ⟨_, fa, fb⟩ := f
 have f := hu.first
 have hlen := hu.1
 have hll := hL.len
 induction d with
 | zero =>
  intro i out h0 h1 h2 h3
  refine Ev.step (fun k => by rw [impl_table.l0]) ?_
  rw [stab_eq (v := v) (m := most) (t := out) (by omega) h2 (fun j a b => h3 j a (by omega))]
  exact ev_ifn (by omega) (Ev.now _)
 | succ d ih =>
  intro i out h0 h1 h2 h3
  have q0 := Int.emod_nonneg i (b := rd v 0) (by omega)
  have q1 := Int.emod_lt_of_pos i (b := rd v 0) (by omega)
  have p := hL.all f.2.1 hu.2 hg q0 q1
  have s := hL.su f.2.1 (Su.mem f.1) (n := i)
  refine Ev.step (fun k => by rw [impl_table.l0]) ?_
  rw [Int.tmod_eq_emod_of_nonneg h0, w64 (x := i + 1) (by omega) (by omega)]
  refine ev_ifp (by omega) (ev_ifp (by omega) (ev_ifn (by omega) (ev_ifp q0 (ev_ifp (by omega) (ev_ifp h0 (ev_ifp (by omega) (ih (i + 1) _ (by omega) (by omega) (by simpa using h2) fun j hj hj' => ?_)))))))
  rw [rdb_set _ h0 (by omega) hj]
  by_cases e : j = i
  · subst e
    rw [if_pos rfl, decide_eq_true_eq, s]
    exact ⟨fun h => ⟨p, h⟩, fun h => h.2⟩
  · rw [if_neg e]; exact h3 j hj (by omega)
theorem tabI_st {v : List Int} (hu : UL v) (hg : gl v = 1) {most : Int} (h0 : 0 ≤ most) (hm : most ≤ 1048576) : Ev (fun k => impl_table.f k v most) (stab v most) := by
 obtain ⟨f1, f2, f3⟩ := hu.first
 have hlen := hu.1
 obtain ⟨u, hL, hE⟩ := leasts_ev (G := 60) (a := rd v 0) hu.2 (by omega) (by omega) f2 (by omega) (by omega)
 have e0 : ((List.replicate (most + 1).toNat false).length : Int) = most + 1 := by simp; omega
 unfold impl_table.f
 refine ev_ifp (by omega) (ev_bind _ hE ?_)
 rw [w64 (by omega) (by omega)]
 simp only [Option.bind_some]
 refine ev_ifp (by omega) (ev_ifp (by omega) ?_)
 rw [e0]
 exact tabI_l hu hg hL h0 hm (most + 1).toNat 0 _ (by omega) (by omega) e0 (fun j a b => by omega)
noncomputable def isgap (v : List Int) (n : Int) : Bool := !decide (Su v n)
noncomputable def gp (v : List Int) : List Int := fl (isgap v) 1 199
theorem isgap_t {v : List Int} {n : Int} : isgap v n = true ↔ ¬ Su v n := by unfold isgap; simp
theorem SG.su200 {v : List Int} (h : SG v) : Su v 200 := h.ends 200 (by omega)
theorem SG.sutab {v : List Int} (h : SG v) {m : Int} (h0 : 0 ≤ m) (hm : m ≤ 1048576) : Ev (fun k => impl_table.f k v m) (stab v m) := tabI_st h.ul h.gcd h0 hm
theorem SG.sutabS {v : List Int} (h : SG v) {m : Int} (h0 : 0 ≤ m) (hm : m ≤ 1048576) : Ev (fun k => spec_l3Table.f k v m) (stab v m) := tabS_st (by have := h.len; omega) h.ul.2 h0 hm
theorem gp_wide {v : List Int} (h : SG v) : fl (isgap v) 0 201 = gp v := by
 have a : ¬ isgap v 0 = true := by rw [isgap_t]; simpa using Su.zero v
 have b : ¬ isgap v 200 = true := by rw [isgap_t]; simpa using h.su200
 rw [show (201 : Nat) = 200 + 1 from rfl, fl_no a, show (200 : Nat) = 199 + 1 from rfl, fl_app, show (0 : Int) + 1 = 1 from rfl, show (1 : Int) + ((199 : Nat) : Int) = 200 from rfl, show (1 : Nat) = 0 + 1 from rfl, fl_no b]
 unfold gp
 rw [show fl (isgap v) (200 + 1) 0 = [] from rfl, List.append_nil]
theorem gp_mem {v : List Int} {x : Int} : x ∈ gp v ↔ 1 ≤ x ∧ x < 200 ∧ ¬ Su v x := by
 unfold gp; rw [fl_mem, isgap_t]; constructor <;> rintro ⟨a, b, c⟩ <;> exact ⟨a, by omega, c⟩
theorem gp_len (v : List Int) : (gp v).length ≤ 199 := fl_len _ _ _
end Go.Proofs.Ytonknpgfbkgbjaa.E
end
section
namespace Go.Proofs.Ytonknpgfbkgbjaa.E
open Go.RowKit Go.Proofs.YtonknpgfbkgbjaaW.PrintWords Go.Proofs.YtonknpgfbkgbjaaW.PrintLast Go.Proofs.YtonknpgfbkgbjaaW.PrintMore
set_option linter.unusedVariables false
set_option linter.unusedSimpArgs false
def VG (g : List Int) : Prop := Asc g ∧ ∀ x ∈ g, 1 ≤ x ∧ x ≤ 199
noncomputable instance (g : List Int) : Decidable (VG g) := Classical.propDecidable _
def CF (g : List Int) : Prop := ∀ a b : Int, 1 ≤ a → 1 ≤ b → a ∉ g → b ∉ g → a + b ∉ g
noncomputable instance (g : List Int) : Decidable (CF g) := Classical.propDecidable _
theorem VG.len {g : List Int} (h : VG g) : g.length ≤ 199 := by
 have k : ∀ d : Nat, d < g.length → (d : Int) + 1 ≤ rd g d := by
  intro d
  induction d with
  | zero => intro hd; have := h.2 _ (rd_mem (l := g) (i := ((0 : Nat) : Int)) (by omega) (by omega)); omega
  | succ d ih =>
   intro hd
   have := h.1 ((d + 1 : Nat) : Int) (by omega) (by omega)
   rw [show (((d + 1 : Nat) : Int)) - 1 = (d : Int) from by omega] at this
   have := ih (by omega)
   omega
 by_cases c : g.length ≤ 199
 · exact c
 · have a := k 199 (by omega)
   have b := h.2 _ (rd_mem (l := g) (i := ((199 : Nat) : Int)) (by omega) (by omega))
   omega
def topg (g : List Int) : Int := if g.length = 0 then 0 else rd g (g.length - 1)
theorem VG.top {g : List Int} (h : VG g) : 0 ≤ topg g ∧ topg g ≤ 199 ∧ ∀ x ∈ g, x ≤ topg g := by
 unfold topg
 by_cases c : g.length = 0
 · rw [if_pos c]
   have : g = [] := by simpa using c
   subst this
   simp
 · rw [if_neg c]
   have b := h.2 _ (rd_mem (l := g) (i := (g.length : Int) - 1) (by omega) (by omega))
   refine ⟨by omega, b.2, fun x hx => ?_⟩
   obtain ⟨i, i0, i1, rfl⟩ := mem_rd hx
   by_cases e : i = g.length - 1
   · rw [e]; exact Int.le_refl _
   · exact Int.le_of_lt (asc_lt h.1 ((g.length : Int) - 1 - i - 1).toNat i _ i0 (by omega) (by omega))
noncomputable def isMin (g : List Int) (n : Int) : Bool := @decide (n ∉ g ∧ ∀ a b : Int, 1 ≤ a → 1 ≤ b → a ∉ g → b ∉ g → a + b ≠ n) (Classical.propDecidable _)
theorem isMin_t {g : List Int} {n : Int} : isMin g n = true ↔ (n ∉ g ∧ ∀ a b : Int, 1 ≤ a → 1 ≤ b → a ∉ g → b ∉ g → a + b ≠ n) := by unfold isMin; exact @decide_eq_true_iff _ (Classical.propDecidable _)
noncomputable def mg (g : List Int) : List Int := fl (isMin g) 1 400
theorem mg_cut {g : List Int} (h : VG g) {d : Nat} (hd : 2 * topg g + 1 ≤ d) (hd' : d ≤ 400) : fl (isMin g) 1 d = mg g := by
 obtain ⟨t0, t1, t2⟩ := h.top
 unfold mg
 rw [show (400 : Nat) = d + (400 - d) from by omega, fl_app, fl_none (400 - d), List.append_nil]
 intro x x0 x1 hx
 rw [isMin_t] at hx
 refine hx.2 (topg g + 1) (x - (topg g + 1)) (by omega) (by omega) (fun k => by have := t2 _ k; omega) (fun k => by have := t2 _ k; omega) (by omega)
theorem su_fl {g : List Int} (hc : CF g) (d : Nat) : ∀ m : Int, (Su (fl (isMin g) 1 d) m → m = 0 ∨ (1 ≤ m ∧ m ∉ g)) ∧ (1 ≤ m → m ≤ d → m ∉ g → Su (fl (isMin g) 1 d) m) := by
 have one : ∀ m : Int, Su (fl (isMin g) 1 d) m → m = 0 ∨ (1 ≤ m ∧ m ∉ g) := by
  rintro m ⟨c, w⟩
  induction w with
  | zero => exact .inl rfl
  | @add x k c hx hw ih =>
   obtain ⟨x1, x2, x3⟩ := (fl_mem _ _).1 hx
   rw [isMin_t] at x3
   rcases ih with e | ⟨k1, k2⟩
   · right; rw [e]; exact ⟨by omega, by rw [show 0 + x = x from by omega]; exact x3.1⟩
   · right; exact ⟨by omega, hc k x k1 x1 k2 x3.1⟩
 have two : ∀ q : Nat, ∀ m : Int, m.toNat ≤ q → 1 ≤ m → m ≤ d → m ∉ g → Su (fl (isMin g) 1 d) m := by
  intro q
  induction q with
  | zero => intro m h0 h1; omega
  | succ q ih =>
   intro m h0 h1 h2 h3
   by_cases c : isMin g m = true
   · exact Su.mem ((fl_mem _ _).2 ⟨h1, by omega, c⟩)
   · rw [isMin_t] at c
     have : ∃ a b : Int, 1 ≤ a ∧ 1 ≤ b ∧ a ∉ g ∧ b ∉ g ∧ a + b = m := Classical.byContradiction fun k => c ⟨h3, fun a b a1 b1 a2 b2 e => k ⟨a, b, a1, b1, a2, b2, e⟩⟩
     obtain ⟨a, b, a1, b1, a2, b2, e⟩ := this
     have := (ih a (by omega) a1 (by omega) a2).add (ih b (by omega) b1 (by omega) b2)
     rwa [e] at this
 exact fun m => ⟨one m, fun h1 h2 h3 => two m.toNat m (Nat.le_refl _) h1 h2 h3⟩
theorem su_new {g : List Int} (hc : CF g) {n : Nat} (hn : ((n : Int) + 1) ∉ g) : Su (fl (isMin g) 1 n) ((n : Int) + 1) ↔ ¬ isMin g ((n : Int) + 1) = true := by
 constructor
 · intro h k
   rw [isMin_t] at k
   obtain ⟨x, hx, hs⟩ := (Su.last (by omega)).1 h
   obtain ⟨x1, x2, x3⟩ := (fl_mem _ _).1 hx
   rw [isMin_t] at x3
   rcases (su_fl hc n _).1 hs with e | ⟨e1, e2⟩
   · omega
   · exact k.2 x _ x1 e1 x3.1 e2 (by omega)
 · intro k
   rw [isMin_t] at k
   have : ∃ a b : Int, 1 ≤ a ∧ 1 ≤ b ∧ a ∉ g ∧ b ∉ g ∧ a + b = (n : Int) + 1 := Classical.byContradiction fun q => k ⟨hn, fun a b a1 b1 a2 b2 e => q ⟨a, b, a1, b1, a2, b2, e⟩⟩
   obtain ⟨a, b, a1, b1, a2, b2, e⟩ := this
   have := ((su_fl hc n a).2 a1 (by omega) a2).add ((su_fl hc n b).2 b1 (by omega) b2)
   rwa [e] at this
theorem su_mg {g : List Int} (h : VG g) (hc : CF g) {m : Int} (h1 : 1 ≤ m) : Su (mg g) m ↔ m ∉ g := by
 obtain ⟨t0, t1, t2⟩ := h.top
 constructor
 · intro k
   rcases (su_fl hc 400 m).1 k with e | e
   · omega
   · exact e.2
 · intro k
   by_cases c : m ≤ 400
   · exact (su_fl hc 400 m).2 h1 (by omega) k
   ·
    have a := (su_fl hc 400 200).2 (by omega) (by omega) (fun q => by have := t2 _ q; omega)
    have q0 := Int.emod_nonneg m (b := 200) (by omega)
    have q1 := Int.emod_lt_of_pos m (b := 200) (by omega)
    refine Su.up (a := 200) (by omega) a (n := 200 + m % 200) ?_ (by omega) (by omega)
    by_cases z : m % 200 = 0
    · rw [z]; exact a
    · exact (su_fl hc 400 (200 + m % 200)).2 (by omega) (by omega) (fun q => by have := t2 _ q; omega)
theorem gp_mg {g : List Int} (h : VG g) (hc : CF g) : gp (mg g) = g := by
 have e : gp (mg g) = fl (fun n => decide (n ∈ g)) 1 199 := by
  unfold gp
  refine fl_congr _ _ fun x x1 x2 => ?_
  rw [Bool.eq_iff_iff, isgap_t, su_mg h hc x1, decide_eq_true_eq, Classical.not_not]
 rw [e]
 have key : ∀ d : Nat, ∀ (i : Int) (l : List Int), Asc l → (∀ x ∈ l, i ≤ x ∧ x < i + d) → fl (fun n => decide (n ∈ l)) i d = l := by
  intro d
  induction d with
  | zero =>
   intro i l _ hl
   cases l with
   | nil => rfl
   | cons a l => have := hl a (by simp); omega
  | succ d ih =>
   intro i l ha hl
   cases l with
   | nil => exact fl_none _ _ (fun x _ _ => by simp)
   | cons a l =>
    have hal : ∀ y ∈ l, a < y := fun y hy => by
     obtain ⟨j, j0, j1, rfl⟩ := mem_rd hy
     have := asc_lt ha j.toNat 0 (j + 1) (by omega) (by omega) (by simp; omega)
     have e1 : rd (a :: l) 0 = a := rfl
     have e2 : rd (a :: l) (j + 1) = rd l j := by unfold rd; rw [show (j + 1).toNat = j.toNat + 1 from by omega, List.getD_cons_succ]
     rwa [e1, e2] at this
    have hal' : Asc l := fun j j0 j1 => by
     have := ha (j + 1) (by omega) (by simp; omega)
     have e1 : rd (a :: l) (j + 1) = rd l j := by unfold rd; rw [show (j + 1).toNat = j.toNat + 1 from by omega, List.getD_cons_succ]
     have e2 : rd (a :: l) (j + 1 - 1) = rd l (j - 1) := by unfold rd; rw [show (j + 1 - 1).toNat = (j - 1).toNat + 1 from by omega, List.getD_cons_succ]
     rwa [e1, e2] at this
    have ai := hl a (by simp)
    by_cases c : a = i
    · subst c
      rw [fl_yes (by simp)]
      congr 1
      rw [fl_congr (q := fun n => decide (n ∈ l)) _ _ (fun x x0 x1 => by
       rw [Bool.eq_iff_iff, decide_eq_true_eq, decide_eq_true_eq, List.mem_cons]
       exact ⟨fun k => k.resolve_left (by omega), .inr⟩)]
      exact ih (a + 1) l hal' (fun x hx => by have := hal x hx; have := hl x (by simp [hx]); omega)
    · rw [fl_no (by
       rw [decide_eq_true_eq]
       intro k
       rcases List.mem_cons.1 k with k | k
       · omega
       · have := hal _ k; omega)]
      exact ih (i + 1) (a :: l) ha (fun x hx => by
       have := hl x hx
       rcases List.mem_cons.1 hx with k | k
       · omega
       · have := hal _ k; omega)
 exact key 199 1 g h.1 (fun x hx => by have := h.2 x hx; omega)
end Go.Proofs.Ytonknpgfbkgbjaa.E
end
section
namespace Go.Proofs.Ytonknpgfbkgbjaa.E
open Go.RowKit Go.Proofs.Ytonknpgfbkgbjaa.PB Go.Proofs.YtonknpgfbkgbjaaW.PrintWords Go.Proofs.YtonknpgfbkgbjaaW.PrintLast Go.Proofs.YtonknpgfbkgbjaaW.PrintMore
set_option linter.unusedVariables false
set_option linter.unusedSimpArgs false
def GA (g : List Int) (m : Int) (t : List Bool) : Prop := (t.length : Int) = m + 1 ∧ ∀ j, 0 ≤ j → j ≤ m → (rdOf false t j = true ↔ j ∈ g)
theorem ga_step {g : List Int} {m i : Int} {t : List Bool} (h0 : 0 ≤ i) (hi : i < g.length) (hx : 0 ≤ rd g i ∧ rd g i ≤ m) (h : (t.length : Int) = m + 1 ∧ ∀ j, 0 ≤ j → j ≤ m → (rdOf false t j = true ↔ ∃ q, 0 ≤ q ∧ q < i ∧ rd g q = j)) : ((t.set (rd g i).toNat true).length : Int) = m + 1 ∧ ∀ j, 0 ≤ j → j ≤ m → (rdOf false (t.set (rd g i).toNat true) j = true ↔ ∃ q, 0 ≤ q ∧ q < i + 1 ∧ rd g q = j) := by
 refine ⟨by simpa using h.1, fun j j0 j1 => ?_⟩
 rw [rdb_set _ hx.1 (by have := h.1; omega) j0]
 by_cases c : j = rd g i
 · rw [if_pos c]; exact ⟨fun _ => ⟨i, h0, by omega, c.symm⟩, fun _ => rfl⟩
 · rw [if_neg c, h.2 j j0 j1]
   constructor
   · rintro ⟨q, q0, q1, q2⟩; exact ⟨q, q0, by omega, q2⟩
   · rintro ⟨q, q0, q1, q2⟩
     by_cases e : q = i
     · rw [e] at q2; exact absurd q2.symm c
     · exact ⟨q, q0, by omega, q2⟩
theorem ga_start (g : List Int) {m : Int} (hm : 0 ≤ m) : ((List.replicate (m + 1).toNat false).length : Int) = m + 1 ∧ ∀ j, 0 ≤ j → j ≤ m → (rdOf false (List.replicate (m + 1).toNat false) j = true ↔ ∃ q, 0 ≤ q ∧ q < 0 ∧ rd g q = j) := by
 refine ⟨by simp; omega, fun j _ _ => ?_⟩
 rw [rdb_rep]
 exact ⟨fun h => by simp at h, fun ⟨q, q0, q1, _⟩ => by omega⟩
theorem ga_end {g : List Int} {m : Int} {t : List Bool} (h : (t.length : Int) = m + 1 ∧ ∀ j, 0 ≤ j → j ≤ m → (rdOf false t j = true ↔ ∃ q, 0 ≤ q ∧ q < (g.length : Int) ∧ rd g q = j)) : GA g m t :=
 ⟨h.1, fun j j0 j1 => by
  rw [h.2 j j0 j1]
  exact ⟨fun ⟨q, q0, q1, q2⟩ => q2 ▸ rd_mem q0 q1, fun k => by obtain ⟨q, q0, q1, q2⟩ := mem_rd k; exact ⟨q, q0, q1, q2⟩⟩⟩
def Cl (g : List Int) (top a b : Int) : Prop := ∃ x, b ≤ x ∧ a + x ≤ top ∧ a ∉ g ∧ x ∉ g ∧ a + x ∈ g
def Cls (g : List Int) (top a : Int) : Prop := ∃ x, a ≤ x ∧ x ≤ top ∧ Cl g top x x
theorem cf_iff {g : List Int} (h : VG g) : CF g ↔ ¬ Cls g (topg g) 1 := by
 obtain ⟨t0, t1, t2⟩ := h.top
 constructor
 · rintro hc ⟨a, a1, _, x, x1, _, x3, x4, x5⟩
   exact hc a x a1 (by omega) x3 x4 x5
 · intro k a b a1 b1 ha hb hs
   have hle := t2 _ hs
   by_cases c : a ≤ b
   · exact k ⟨a, a1, by omega, b, c, hle, ha, hb, hs⟩
   · exact k ⟨b, b1, by omega, a, by omega, by omega, hb, ha, by rwa [Int.add_comm]⟩
theorem l8_l {g : List Int} (hl : g.length ≤ 1099511627776) (d : Nat) : ∀ i : Int, 0 ≤ i → i + d = g.length → (∀ j, 0 ≤ j → j < i → 1 ≤ rd g j ∧ rd g j ≤ 199) → Ev (fun k => spec_l8Gaps.l0 k g i) (decide (VG g)) := by
 induction d with
 | zero =>
  intro i h0 h1 h2
  refine Ev.step (fun k => by rw [spec_l8Gaps.l0]) (ev_ifn (by omega) (ev_bind _ (ascS_ev hl) (ev_to (Ev.now _) (decide_eq_decide.2 ⟨fun a => ⟨a, fun x hx => ?_⟩, fun a => a.1⟩))))
  obtain ⟨j, j0, j1, rfl⟩ := mem_rd hx
  exact h2 j j0 (by omega)
 | succ d ih =>
  intro i h0 h1 h2
  refine Ev.step (fun k => by rw [spec_l8Gaps.l0]) ?_
  simp only [l1In_eq, Option.bind_some]
  rw [w64 (by omega) (by omega)]
  by_cases c : 1 ≤ rd g i ∧ rd g i ≤ 199
  · refine ev_ifp (by omega) (ev_ifp h0 (ev_ifp (by simpa using c) (ih (i + 1) (by omega) (by omega) fun j j0 j1 => ?_)))
    by_cases e : j = i
    · rw [e]; exact c
    · exact h2 j j0 (by omega)
  · exact ev_ifp (by omega) (ev_ifp h0 (ev_ifn (by simpa using c) (ev_to (Ev.now _) (decide_eq_false (fun k => c (k.2 _ (rd_mem h0 (by omega))))).symm)))
theorem l8_ev {g : List Int} (hl : g.length ≤ 1099511627776) : Ev (fun k => spec_l8Gaps.f k g) (decide (VG g)) := l8_l hl g.length 0 (by omega) (by omega) (fun j a b => by omega)
theorem gl_ev {g : List Int} (hl : g.length ≤ 1099511627776) : Ev (fun k => impl_gapList.f k g) (decide (VG g)) := by
 unfold impl_gapList.f
 refine ev_bind _ (ascI_ev hl) ?_
 by_cases c : Asc g
 · exact ev_ifp (by simpa using c) (ev_bind _ (allWithin_ev 1 199 hl) (ev_to (Ev.now _) (decide_eq_decide.2 ⟨fun a => ⟨c, a⟩, fun a => a.2⟩)))
 · exact ev_ifn (by simpa using c) (ev_to (Ev.now _) (decide_eq_false (fun k => c k.1)).symm)
theorem clS_l2 {g : List Int} {m top a : Int} {t : List Bool} (h : GA g m t) (ht : top ≤ m) (hm : m ≤ 1000) (ha : 1 ≤ a) (ha' : a ≤ top) (N : ∃ x y c, Ev (fun k => spec_GapClash.l1 k top t (a + 1)) (x, y, c) ∧ (c = true ↔ Cls g top (a + 1))) (d : Nat) : ∀ b : Int, a ≤ b → b + d = top + 1 → ∃ x y c, Ev (fun k => spec_GapClash.l2 k top t a b) (x, y, c) ∧ (c = true ↔ Cl g top a b ∨ Cls g top (a + 1)) := by
 have hl := h.1
 have na : a ∈ g → ∀ b, ¬ Cl g top a b := fun k b ⟨x, _, _, q, _⟩ => q k
 have stop : ∀ b, a ≤ b → (∀ x y c, Ev (fun k => spec_GapClash.l1 k top t (a + 1)) (x, y, c) → Ev (fun k => spec_GapClash.j4 k top t a b false) (x, y, c)) := fun b _ x y c e => by
  refine Ev.step (fun k => by rw [spec_GapClash.j4]) (ev_ifn (by simp) ?_)
  rw [w64 (x := a + 1) (by omega) (by omega)]; exact e
 obtain ⟨x, y, c, e1, e2⟩ := N
 induction d with
 | zero =>
  intro b h0 h1
  refine ⟨x, y, c, Ev.step (fun k => by rw [spec_GapClash.l2]) ?_, e2.trans ⟨.inr, fun k => k.resolve_left (fun ⟨z, z0, z1, _⟩ => by omega)⟩⟩
  rw [w64 (x := a + b) (by omega) (by omega)]
  exact ev_ifn (by omega) (stop b h0 x y c e1)
 | succ d ih =>
  intro b h0 h1
  have w := w64 (x := a + b) (by omega) (by omega)
  have w1 := w64 (x := b + 1) (by omega) (by omega)
  by_cases c0 : a + b ≤ top
  · by_cases c1 : a ∈ g
    · have q := (h.2 a (by omega) (by omega)).2 c1
      refine ⟨x, y, c, Ev.step (fun k => by rw [spec_GapClash.l2]) ?_, e2.trans ⟨.inr, fun k => k.resolve_left (na c1 b)⟩⟩
      rw [w, q]
      exact ev_ifp c0 (ev_ifp (by omega) (ev_ifp (by omega) (stop b h0 x y c e1)))
    · have q : rdOf false t a = false := Bool.eq_false_iff.mpr (fun k => c1 ((h.2 a (by omega) (by omega)).1 k))
      obtain ⟨x', y', c', f1, f2⟩ := ih (b + 1) (by omega) (by omega)
      have go : (¬ (b ∉ g ∧ a + b ∈ g)) → (Cl g top a b ↔ Cl g top a (b + 1)) := fun k => ⟨fun ⟨z, z0, z1, z2, z3, z4⟩ => ⟨z, by
       by_cases ez : z = b
       · rw [ez] at z3 z4; exact absurd ⟨z3, z4⟩ k
       · omega, z1, z2, z3, z4⟩, fun ⟨z, z0, z1, z2⟩ => ⟨z, by omega, z1, z2⟩⟩
      by_cases c2 : b ∈ g
      · refine ⟨x', y', c', Ev.step (fun k => by rw [spec_GapClash.l2]) ?_, by rw [f2, go (fun k => k.1 c2)]⟩
        rw [w, q]
        refine ev_ifp c0 (ev_ifp (by omega) (ev_ifp (by omega) (Ev.step (fun k => by rw [spec_GapClash.j4]) ?_)))
        refine ev_ifp rfl (ev_ifp (by omega) (ev_ifp (by omega) (ev_ifp ((h.2 b (by omega) (by omega)).2 c2) ?_)))
        rw [w1]; exact f1
      · by_cases c3 : a + b ∈ g
        · refine ⟨a, b, true, Ev.step (fun k => by rw [spec_GapClash.l2]) ?_, fun _ => .inl ⟨b, Int.le_refl _, c0, c1, c2, c3⟩, fun _ => rfl⟩
          rw [w, q]
          refine ev_ifp c0 (ev_ifp (by omega) (ev_ifp (by omega) (Ev.step (fun k => by rw [spec_GapClash.j4]) ?_)))
          refine ev_ifp rfl (ev_ifp (by omega) (ev_ifp (by omega) (ev_ifn (fun k => c2 ((h.2 b (by omega) (by omega)).1 k)) ?_)))
          rw [w]
          exact ev_ifp (by omega) (ev_ifp (by omega) (ev_ifp ((h.2 (a + b) (by omega) (by omega)).2 c3) (Ev.now _)))
        · refine ⟨x', y', c', Ev.step (fun k => by rw [spec_GapClash.l2]) ?_, by rw [f2, go (fun k => c3 k.2)]⟩
          rw [w, q]
          refine ev_ifp c0 (ev_ifp (by omega) (ev_ifp (by omega) (Ev.step (fun k => by rw [spec_GapClash.j4]) ?_)))
          refine ev_ifp rfl (ev_ifp (by omega) (ev_ifp (by omega) (ev_ifn (fun k => c2 ((h.2 b (by omega) (by omega)).1 k)) ?_)))
          rw [w, w1]
          exact ev_ifp (by omega) (ev_ifp (by omega) (ev_ifn (fun k => c3 ((h.2 (a + b) (by omega) (by omega)).1 k)) f1))
  · refine ⟨x, y, c, Ev.step (fun k => by rw [spec_GapClash.l2]) ?_, e2.trans ⟨.inr, fun k => k.resolve_left (fun ⟨z, z0, z1, _⟩ => by omega)⟩⟩
    rw [w]
    exact ev_ifn c0 (stop b h0 x y c e1)
theorem clS_l1 {g : List Int} {m top : Int} {t : List Bool} (h : GA g m t) (ht : top ≤ m) (hm : m ≤ 1000) (d : Nat) : ∀ a : Int, 1 ≤ a → a + d = max a (top + 1) → ∃ x y c, Ev (fun k => spec_GapClash.l1 k top t a) (x, y, c) ∧ (c = true ↔ Cls g top a) := by
 induction d with
 | zero =>
  intro a h0 h1
  exact ⟨0, 0, false, Ev.step (fun k => by rw [spec_GapClash.l1]) (ev_ifn (by omega) (Ev.now _)), fun k => by simp at k, fun ⟨x, x0, x1, _⟩ => by omega⟩
 | succ d ih =>
  intro a h0 h1
  obtain ⟨x, y, c, e1, e2⟩ := clS_l2 h ht hm h0 (by omega) (ih (a + 1) (by omega) (by omega)) (top + 1 - a).toNat a (Int.le_refl _) (by omega)
  refine ⟨x, y, c, Ev.step (fun k => by rw [spec_GapClash.l1]) (ev_ifp (by omega) e1), e2.trans ?_⟩
  constructor
  · rintro (k | ⟨z, z0, z1, z2⟩)
    · exact ⟨a, Int.le_refl _, by omega, k⟩
    · exact ⟨z, by omega, z1, z2⟩
  · rintro ⟨z, z0, z1, z2⟩
    by_cases e : z = a
    · rw [e] at z2; exact .inl z2
    · exact .inr ⟨z, by omega, z1, z2⟩
theorem clI_l2 {g : List Int} {m top a : Int} {t : List Bool} (h : GA g m t) (ht : top ≤ m) (hm : m ≤ 1000) (ha : 1 ≤ a) (ha' : a ≤ top) (N : ∃ x y c, Ev (fun k => impl_GapClash.l1 k t top (a + 1)) (x, y, c) ∧ (c = true ↔ Cls g top (a + 1))) (d : Nat) : ∀ b : Int, a ≤ b → b + d = top + 1 → ∃ x y c, Ev (fun k => impl_GapClash.l2 k t top a b) (x, y, c) ∧ (c = true ↔ Cl g top a b ∨ Cls g top (a + 1)) := by
 have hl := h.1
 obtain ⟨x, y, c, e1, e2⟩ := N
 have out : ∀ b, a ≤ b → b ≤ top + 1 → ¬ a + b ≤ top → ∃ x y c, Ev (fun k => impl_GapClash.l2 k t top a b) (x, y, c) ∧ (c = true ↔ Cl g top a b ∨ Cls g top (a + 1)) := fun b h0 hB hb => by
  refine ⟨x, y, c, Ev.step (fun k => by rw [impl_GapClash.l2]) ?_, e2.trans ⟨.inr, fun k => k.resolve_left (fun ⟨z, z0, z1, _⟩ => by omega)⟩⟩
  rw [w64 (x := a + b) (by omega) (by omega), w64 (x := a + 1) (by omega) (by omega)]
  exact ev_ifn hb e1
 induction d with
 | zero => intro b h0 h1; exact out b h0 (by omega) (by omega)
 | succ d ih =>
  intro b h0 h1
  have w := w64 (x := a + b) (by omega) (by omega)
  have w1 := w64 (x := b + 1) (by omega) (by omega)
  by_cases c0 : a + b ≤ top
  · obtain ⟨x', y', c', f1, f2⟩ := ih (b + 1) (by omega) (by omega)
    have go : (¬ (a ∉ g ∧ b ∉ g ∧ a + b ∈ g)) → (Cl g top a b ↔ Cl g top a (b + 1)) := fun k => ⟨fun ⟨z, z0, z1, z2, z3, z4⟩ => ⟨z, by
     by_cases ez : z = b
     · rw [ez] at z3 z4; exact absurd ⟨z2, z3, z4⟩ k
     · omega, z1, z2, z3, z4⟩, fun ⟨z, z0, z1, z2⟩ => ⟨z, by omega, z1, z2⟩⟩
    by_cases c1 : a ∈ g
    · refine ⟨x', y', c', Ev.step (fun k => by rw [impl_GapClash.l2]) ?_, by rw [f2, go (fun k => k.1 c1)]⟩
      rw [w, w1]
      exact ev_ifp c0 (ev_ifp (by omega) (ev_ifp (by omega) (ev_ifp ((h.2 a (by omega) (by omega)).2 c1) f1)))
    · have n1 : ¬ rdOf false t a = true := fun k => c1 ((h.2 a (by omega) (by omega)).1 k)
      by_cases c2 : b ∈ g
      · refine ⟨x', y', c', Ev.step (fun k => by rw [impl_GapClash.l2]) ?_, by rw [f2, go (fun k => k.2.1 c2)]⟩
        rw [w, w1]
        exact ev_ifp c0 (ev_ifp (by omega) (ev_ifp (by omega) (ev_ifn n1 (ev_ifp (by omega) (ev_ifp (by omega) (ev_ifp ((h.2 b (by omega) (by omega)).2 c2) f1))))))
      · have n2 : ¬ rdOf false t b = true := fun k => c2 ((h.2 b (by omega) (by omega)).1 k)
        by_cases c3 : a + b ∈ g
        · refine ⟨a, b, true, Ev.step (fun k => by rw [impl_GapClash.l2]) ?_, fun _ => .inl ⟨b, Int.le_refl _, c0, c1, c2, c3⟩, fun _ => rfl⟩
          rw [w]
          exact ev_ifp c0 (ev_ifp (by omega) (ev_ifp (by omega) (ev_ifn n1 (ev_ifp (by omega) (ev_ifp (by omega) (ev_ifn n2 (ev_ifp (by omega) (ev_ifp (by omega) (ev_ifp ((h.2 (a + b) (by omega) (by omega)).2 c3) (Ev.now _))))))))))
        · refine ⟨x', y', c', Ev.step (fun k => by rw [impl_GapClash.l2]) ?_, by rw [f2, go (fun k => c3 k.2.2)]⟩
          rw [w, w1]
          exact ev_ifp c0 (ev_ifp (by omega) (ev_ifp (by omega) (ev_ifn n1 (ev_ifp (by omega) (ev_ifp (by omega) (ev_ifn n2 (ev_ifp (by omega) (ev_ifp (by omega) (ev_ifn (fun k => c3 ((h.2 (a + b) (by omega) (by omega)).1 k)) f1)))))))))
  · exact out b h0 (by omega) c0
theorem clI_l1 {g : List Int} {m top : Int} {t : List Bool} (h : GA g m t) (ht : top ≤ m) (hm : m ≤ 1000) (d : Nat) : ∀ a : Int, 1 ≤ a → a + d = max a (top + 1) → ∃ x y c, Ev (fun k => impl_GapClash.l1 k t top a) (x, y, c) ∧ (c = true ↔ Cls g top a) := by
 induction d with
 | zero =>
  intro a h0 h1
  exact ⟨0, 0, false, Ev.step (fun k => by rw [impl_GapClash.l1]) (ev_ifn (by omega) (Ev.now _)), fun k => by simp at k, fun ⟨x, x0, x1, _⟩ => by omega⟩
 | succ d ih =>
  intro a h0 h1
  obtain ⟨x, y, c, e1, e2⟩ := clI_l2 h ht hm h0 (by omega) (ih (a + 1) (by omega) (by omega)) (top + 1 - a).toNat a (Int.le_refl _) (by omega)
  refine ⟨x, y, c, Ev.step (fun k => by rw [impl_GapClash.l1]) (ev_ifp (by omega) e1), e2.trans ?_⟩
  constructor
  · rintro (k | ⟨z, z0, z1, z2⟩)
    · exact ⟨a, Int.le_refl _, by omega, k⟩
    · exact ⟨z, by omega, z1, z2⟩
  · rintro ⟨z, z0, z1, z2⟩
    by_cases e : z = a
    · rw [e] at z2; exact .inl z2
    · exact .inr ⟨z, by omega, z1, z2⟩
end Go.Proofs.Ytonknpgfbkgbjaa.E
end
section
namespace Go.Proofs.Ytonknpgfbkgbjaa.E
open Go.RowKit Go.Proofs.YtonknpgfbkgbjaaW.PrintWords Go.Proofs.YtonknpgfbkgbjaaW.PrintLast Go.Proofs.YtonknpgfbkgbjaaW.PrintMore
set_option linter.unusedVariables false
set_option linter.unusedSimpArgs false
noncomputable def gps (v : List Int) : List Int := if SG v then gp v else []
noncomputable def fob (v : List Int) : Int := if (gps v).length = 0 then -1 else rd (gps v) ((gps v).length - 1)
theorem gps_len (v : List Int) : (gps v).length ≤ 199 := by
 unfold gps; split
 · exact gp_len v
 · simp
theorem gps_sg {v : List Int} (h : SG v) : gps v = gp v := by unfold gps; rw [if_pos h]
theorem gps_no {v : List Int} (h : ¬ SG v) : gps v = [] := by unfold gps; rw [if_neg h]
theorem fob_some {v : List Int} (h : SG v) (hn : gp v ≠ []) : 1 ≤ fob v ∧ fob v < 200 ∧ ¬ Su v (fob v) ∧ ∀ n, fob v < n → Su v n := by
 obtain ⟨x, a, b, c, e, f⟩ := fl_last (p := isgap v) (i := 1) (d := 199) hn
 have hl : ¬ (gp v).length = 0 := by simpa using hn
 have ex : fob v = x := by
  unfold fob; rw [gps_sg h, if_neg hl]; exact f
 rw [ex]
 refine ⟨a, by omega, isgap_t.1 c, fun n hn => ?_⟩
 by_cases hn' : n < 200
 · have := e n hn (by omega)
   rw [isgap_t] at this
   exact Classical.byContradiction this
 · exact h.ends n (by omega)
theorem SG.pos {v : List Int} (h : SG v) : ∀ x ∈ v, 1 ≤ x := fun x hx => (h.ul.2 x hx).1
end Go.Proofs.Ytonknpgfbkgbjaa.E
end
section
namespace Go.Proofs.Ytonknpgfbkgbjaa.E
open Go.RowKit Go.Proofs.Ytonknpgfbkgbjaa.PB Go.Proofs.YtonknpgfbkgbjaaW.PrintWords Go.Proofs.YtonknpgfbkgbjaaW.PrintLast Go.Proofs.YtonknpgfbkgbjaaW.PrintMore
set_option linter.unusedVariables false
set_option linter.unusedSimpArgs false
theorem gapsI_l {v : List Int} (d : Nat) : ∀ (i : Int) (out : List Int), 0 ≤ i → i + d = 201 → (out.length : Int) ≤ i → Ev (fun k => impl_Gaps.l0 k out (stab v 200) 201 i) (out ++ fl (isgap v) i d) := by
 have sl := stab_len (v := v) (m := 200) (by omega)
 induction d with
 | zero =>
  intro i out h0 h1 h2
  refine Ev.step (fun k => by rw [impl_Gaps.l0]) (ev_ifn (by omega) (ev_to (Ev.now _) ?_))
  simp [fl]
 | succ d ih =>
  intro i out h0 h1 h2
  have s := stab_iff (v := v) (m := 200) h0 (by omega)
  refine Ev.step (fun k => by rw [impl_Gaps.l0]) ?_
  rw [w64 (x := i + 1) (by omega) (by omega)]
  by_cases c : Su v i
  · rw [fl_no (by rw [isgap_t]; simpa using c)]
    exact ev_ifp (by omega) (ev_ifp h0 (ev_ifp (by omega) (ev_ifp (s.2 c) (ih (i + 1) out (by omega) (by omega) (by omega)))))
  · rw [fl_yes (isgap_t.2 c)]
    refine ev_ifp (by omega) (ev_ifp h0 (ev_ifp (by omega) (ev_ifn (fun h => c (s.1 h)) (ev_ifp (by omega) (ev_to (ih (i + 1) (out ++ [i]) (by omega) (by omega) (by simp; omega)) ?_)))))
    simp
theorem gapsS_l {v : List Int} (d : Nat) : ∀ (i : Int) (out : List Int), 0 ≤ i → i + d = 200 → (out.length : Int) ≤ i → Ev (fun k => spec_l4Gaps.l0 k out (stab v 200) i) (out ++ fl (isgap v) i d) := by
 have sl := stab_len (v := v) (m := 200) (by omega)
 induction d with
 | zero =>
  intro i out h0 h1 h2
  refine Ev.step (fun k => by rw [spec_l4Gaps.l0]) (ev_ifn (by omega) (ev_to (Ev.now _) ?_))
  simp [fl]
 | succ d ih =>
  intro i out h0 h1 h2
  have s := stab_iff (v := v) (m := 200) h0 (by omega)
  refine Ev.step (fun k => by rw [spec_l4Gaps.l0]) ?_
  rw [w64 (x := i + 1) (by omega) (by omega)]
  by_cases c : Su v i
  · rw [fl_no (by rw [isgap_t]; simpa using c)]
    exact ev_ifp (by omega) (ev_ifp h0 (ev_ifp (by omega) (ev_ifp (s.2 c) (ih (i + 1) out (by omega) (by omega) (by omega)))))
  · rw [fl_yes (isgap_t.2 c)]
    refine ev_ifp (by omega) (ev_ifp h0 (ev_ifp (by omega) (ev_ifn (fun h => c (s.1 h)) (ev_ifp (by omega) (ev_to (ih (i + 1) (out ++ [i]) (by omega) (by omega) (by simp; omega)) ?_)))))
    simp
theorem l4Gaps_ev {v : List Int} (h : SG v) : Ev (fun k => spec_l4Gaps.f k v) (gp v) := by
 unfold spec_l4Gaps.f
 exact ev_bind _ (h.sutabS (by omega) (by omega)) (gapsS_l 199 1 [] (by omega) (by omega) (by simp))
theorem gapsI_ev {v : List Int} (hl : v.length ≤ 1099511627776) : Ev (fun k => impl_Gaps.f k v) (if SG v then gp v else []) := by
 unfold impl_Gaps.f
 refine ev_bind _ (sgI_ev hl) ?_
 by_cases c : SG v
 · rw [if_pos c]
   refine ev_ifp (by simpa using c) (ev_bind _ (c.sutab (by omega) (by omega)) ?_)
   rw [stab_len (by omega), ← gp_wide c]
   exact gapsI_l 201 0 [] (by omega) (by omega) (by simp)
 · rw [if_neg c]; exact ev_ifn (by simpa using c) (Ev.now _)
theorem gapsI_gps {v : List Int} (hl : v.length ≤ 1099511627776) : Ev (fun k => impl_Gaps.f k v) (gps v) := gapsI_ev hl
theorem has_l {g : List Int} (hl : g.length ≤ 1099511627776) (n : Int) (d : Nat) : ∀ i : Int, 0 ≤ i → i + d = g.length → Ev (fun k => spec_HasNumber.l0 k g n i) (decide (n ∈ g.drop i.toNat)) := by
 induction d with
 | zero =>
  intro i h0 h1
  refine Ev.step (fun k => by rw [spec_HasNumber.l0]) (ev_ifn (by omega) (ev_to (Ev.now _) ?_))
  rw [List.drop_of_length_le (by omega)]; simp
 | succ d ih =>
  intro i h0 h1
  refine Ev.step (fun k => by rw [spec_HasNumber.l0]) ?_
  rw [w64 (x := i + 1) (by omega) (by omega), drop_rd h0 (by omega)]
  refine ev_ifp (by omega) (ev_ifp h0 ?_)
  by_cases c : rd g i = n
  · exact ev_ifp c (ev_to (Ev.now _) (by simp [c]))
  · refine ev_ifn c (ev_to (ih (i + 1) (by omega) (by omega)) ?_)
    simp [Ne.symm c]
theorem has_ev {g : List Int} (hl : g.length ≤ 1099511627776) (n : Int) : Ev (fun k => spec_HasNumber.f k g n) (decide (n ∈ g)) := by
 unfold spec_HasNumber.f
 exact ev_to (has_l hl n g.length 0 (by omega) (by omega)) (by simp)
theorem sortS_asc_l {v : List Int} (hl : v.length ≤ 1048576) (ha : Asc v) (d : Nat) : ∀ i : Int, 0 ≤ i → i + d = v.length → Ev (fun k => spec_SortList.l0 k v (v.take i.toNat) i) v := by
 induction d with
 | zero =>
  intro i h0 h1
  refine Ev.step (fun k => by rw [spec_SortList.l0]) ?_
  rw [List.take_of_length_le (by omega)]
  exact ev_ifn (by omega) (Ev.now _)
 | succ d ih =>
  intro i h0 h1
  have tl := take_len (v := v) (i := i) (by omega) (by omega)
  have nx := ih (i + 1) (by omega) (by omega)
  rw [take_rd h0 (by omega)] at nx
  refine Ev.step (fun k => by rw [spec_SortList.l0]) (ev_ifp (by omega) ?_)
  rw [tl]
  refine Ev.step (fun k => by rw [spec_SortList.l1]) ?_
  simp only [Option.bind_some]
  rw [w64 (x := i - 1) (by omega) (by omega), w64 (x := i + 1) (by omega) (by omega), List.drop_of_length_le (l := v.take i.toNat) (by omega), List.take_of_length_le (l := v.take i.toNat) (by omega)]
  have e0 : ([] : List Int).length + ([] : List Int).length < 17592186044416 := by simp
  have e1 : (v.take i.toNat).length < 17592186044416 := by omega
  have e2 : (v.take i.toNat ++ [rd v i]).length + ([] ++ [] : List Int).length < 17592186044416 := by simp; omega
  by_cases c : i > 0
  · have lt : rd (v.take i.toNat) (i - 1) < rd v i := by
     have e : rd (v.take i.toNat) (i - 1) = rd v (i - 1) := by
      rw [rd_lt (by omega) (by omega), rd_lt (by omega) (by omega), List.getElem_take]
     rw [e]; exact ha i c (by omega)
    refine ev_ifp c (ev_ifp (by omega) (ev_ifp (by omega) (ev_ifp h0 (ev_ifp (by omega) (ev_ifn (by omega) (ev_ifn (by omega) (ev_ifp h0 (ev_ifp (by omega) (ev_ifp e0 (ev_ifp e1 (ev_ifp e2 ?_)))))))))))
    simpa using nx
  · refine ev_ifn c (ev_ifp h0 (ev_ifp (by omega) (ev_ifp e0 (ev_ifp h0 (ev_ifp (by omega) (ev_ifp e1 (ev_ifp e2 ?_)))))))
    simpa using nx
theorem sortS_asc {v : List Int} (hl : v.length ≤ 1048576) (ha : Asc v) : Ev (fun k => spec_SortList.f k v) v := by
 unfold spec_SortList.f
 exact sortS_asc_l hl ha v.length 0 (by omega) (by omega)
theorem min_l {v : List Int} (hu : UL v) (d : Nat) : ∀ (i : Int) (out : List Int), 0 ≤ i → i + d = v.length → ((out = v.take i.toNat ∧ ∀ j : Int, 1 ≤ j → j < i → ¬ Su (v.take j.toNat) (rd v j)) ∨ ((out.length : Int) < i ∧ ¬ ∀ j : Int, 1 ≤ j → j < i → ¬ Su (v.take j.toNat) (rd v j))) →
 ∃ r, r.length ≤ 20 ∧ Ev (fun k => spec_l3Minimal.l0 k out v i) r ∧ (r = v ↔ ∀ j : Int, 1 ≤ j → j < v.length → ¬ Su (v.take j.toNat) (rd v j)) := by
 have hlen := hu.1
 induction d with
 | zero =>
  intro i out h0 h1 h2
  obtain rfl : i = v.length := by omega
  have hE : Ev (fun k => spec_l3Minimal.l0 k out v v.length) out := Ev.step (fun k => by rw [spec_l3Minimal.l0]) (ev_ifn (by omega) (Ev.now _))
  rcases h2 with ⟨e, h⟩ | ⟨e, h⟩
  · rw [List.take_of_length_le (by omega)] at e
    exact ⟨out, by rw [e]; omega, hE, fun _ => h, fun _ => e⟩
  · exact ⟨out, by omega, hE, fun e' => by rw [e'] at e; omega, fun h' => absurd h' h⟩
 | succ d ih =>
  intro i out h0 h1 h2
  have hx := hu.2 _ (rd_mem (l := v) h0 (by omega))
  have tl := take_len (v := v) (i := i) (by omega) (by omega)
  have ol : (out.length : Int) ≤ i := by
   rcases h2 with ⟨e, _⟩ | ⟨e, _⟩
   · rw [e, tl]; exact Int.le_refl _
   · omega
  by_cases c0 : i = 0
  · obtain ⟨r, r1, r2, r3⟩ := ih (i + 1) (out ++ [rd v i]) (by omega) (by omega) (by
     rcases h2 with ⟨e, _⟩ | ⟨e, _⟩
     · exact .inl ⟨by rw [take_rd h0 (by omega), e], fun j hj hj' => by omega⟩
     · omega)
    refine ⟨r, r1, Ev.step (fun k => by rw [spec_l3Minimal.l0]) ?_, r3⟩
    rw [w64 (x := i + 1) (by omega) (by omega)]
    exact ev_ifp (by omega) (ev_ifp c0 (ev_ifp h0 (ev_ifp (by omega) r2)))
  · obtain ⟨t, t1, t2, hE⟩ := tabS_ev (v := v.take i.toNat) (by omega) (take_ul hu.2 _) (most := rd v i) (by omega) (by omega)
    have ht := t2 (rd v i) (by omega) (Int.le_refl _)
    by_cases c : Su (v.take i.toNat) (rd v i)
    · obtain ⟨r, r1, r2, r3⟩ := ih (i + 1) out (by omega) (by omega) (.inr ⟨by omega, fun h => h i (by omega) (by omega) c⟩)
      refine ⟨r, r1, Ev.step (fun k => by rw [spec_l3Minimal.l0]) ?_, r3⟩
      rw [w64 (x := i + 1) (by omega) (by omega)]
      exact ev_ifp (by omega) (ev_ifn c0 (ev_ifp h0 (ev_ifp (by omega) (ev_bind _ hE (ev_ifp (by omega) (ev_ifp (by omega) (ev_ifp (ht.2 c) r2)))))))
    · obtain ⟨r, r1, r2, r3⟩ := ih (i + 1) (out ++ [rd v i]) (by omega) (by omega) (by
       rcases h2 with ⟨e, h⟩ | ⟨e, h⟩
       · refine .inl ⟨by rw [take_rd h0 (by omega), e], fun j hj hj' => ?_⟩
         by_cases ej : j = i
         · rw [ej]; exact c
         · exact h j hj (by omega)
       · refine .inr ⟨by simp; omega, fun h' => h fun j hj hj' => h' j hj (by omega)⟩)
      refine ⟨r, r1, Ev.step (fun k => by rw [spec_l3Minimal.l0]) ?_, r3⟩
      rw [w64 (x := i + 1) (by omega) (by omega)]
      exact ev_ifp (by omega) (ev_ifn c0 (ev_ifp h0 (ev_ifp (by omega) (ev_bind _ hE (ev_ifp (by omega) (ev_ifp (by omega) (ev_ifn (fun h => c (ht.1 h)) (ev_ifp (by omega) r2))))))))
theorem same2_l {l m : List Int} (hl : l.length ≤ 1099511627776) (e : l.length = m.length) (d : Nat) : ∀ (i : Int), 0 ≤ i → i + d = l.length → Ev (fun k => spec_l2Same.l0 k l m i) (decide (l.drop i.toNat = m.drop i.toNat)) := by
 induction d with
 | zero =>
  intro i h0 h1
  refine Ev.step (fun k => by rw [spec_l2Same.l0]) ?_
  refine ev_ifn (by omega) (ev_to (Ev.now _) ?_)
  rw [List.drop_of_length_le (by omega), List.drop_of_length_le (by omega)]; simp
 | succ d ih =>
  intro i h0 h1
  refine Ev.step (fun k => by rw [spec_l2Same.l0]) ?_
  rw [w64 (x := i + 1) (by omega) (by omega), drop_rd h0 (by omega), drop_rd (l := m) h0 (by omega)]
  refine ev_ifp (by omega) (ev_ifp h0 (ev_ifp (by omega) ?_))
  by_cases h : rd l i = rd m i
  · refine ev_ifp h (ev_to (ih (i + 1) (by omega) (by omega)) ?_)
    simp [h]
  · refine ev_ifn h (ev_to (Ev.now _) ?_)
    simp [h]
theorem same2_ev {l m : List Int} (hl : l.length ≤ 1099511627776) : Ev (fun k => spec_l2Same.f k l m) (decide (l = m)) := by
 unfold spec_l2Same.f
 by_cases e : l.length = m.length
 · refine ev_ifp (by omega) (ev_to (same2_l hl e l.length 0 (by omega) (by omega)) ?_)
   simp
 · refine ev_ifn (by omega) (ev_to (Ev.now _) ?_)
   simp; intro h; exact e (by rw [h])
theorem endsS_l {v : List Int} (hu : UL v) {t : List Bool} (t1 : (t.length : Int) = 261) (t2 : ∀ j, 0 ≤ j → j ≤ 260 → (rdOf false t j = true ↔ Su v j)) (d : Nat) : ∀ i : Int, 200 ≤ i → i + d = 200 + rd v 0 → ∃ r : Bool, Ev (fun k => spec_l3Ends.l0 k v t i) r ∧ (r = true ↔ ∀ n, i ≤ n → n < 200 + rd v 0 → Su v n) := by
 have f := hu.first
 have hlen := hu.1
 induction d with
 | zero =>
  intro i h0 h1
  refine ⟨true, Ev.step (fun k => by rw [spec_l3Ends.l0]) ?_, fun _ n hn hn' => by omega, fun _ => rfl⟩
  rw [w64 (x := 200 + rd v 0) (by omega) (by omega)]
  exact ev_ifp (by omega) (ev_ifn (by omega) (Ev.now _))
 | succ d ih =>
  intro i h0 h1
  have ht := t2 i (by omega) (by omega)
  by_cases c : Su v i
  · obtain ⟨r, hE, hr⟩ := ih (i + 1) (by omega) (by omega)
    refine ⟨r, Ev.step (fun k => by rw [spec_l3Ends.l0]) ?_, ?_⟩
    · rw [w64 (x := 200 + rd v 0) (by omega) (by omega), w64 (x := i + 1) (by omega) (by omega)]
      exact ev_ifp (by omega) (ev_ifp (by omega) (ev_ifp (by omega) (ev_ifp (by omega) (ev_ifp (ht.2 c) hE))))
    · rw [hr]
      constructor
      · intro h n hn hn'
        by_cases e : n = i
        · rw [e]; exact c
        · exact h n (by omega) hn'
      · intro h n hn hn'; exact h n (by omega) hn'
  · refine ⟨false, Ev.step (fun k => by rw [spec_l3Ends.l0]) ?_, fun h => (by cases h), fun h => absurd (h i (Int.le_refl _) (by omega)) c⟩
    rw [w64 (x := 200 + rd v 0) (by omega) (by omega)]
    exact ev_ifp (by omega) (ev_ifp (by omega) (ev_ifp (by omega) (ev_ifp (by omega) (ev_ifn (fun h => c (ht.1 h)) (Ev.now _)))))
theorem sgS_ev {v : List Int} (hl : v.length ≤ 1099511627776) : Ev (fun k => spec_IsSemigroup.f k v) (decide (SG v)) := by
 unfold spec_IsSemigroup.f
 by_cases hu : UL v
 · refine ev_bind _ (gensS_ev hl) (ev_ifp (by simpa using hu) ?_)
   by_cases c1 : (v.length : Int) ≤ 12
   · refine ev_ifp c1 ?_
     by_cases c3 : Asc v
     · refine ev_bind _ (ascS_ev hl) (ev_ifp (by simpa using c3) (ev_bind _ (gcdListS_ev hl) ?_))
       by_cases c4 : gl v = 1
       · have hlen := hu.1
         obtain ⟨f1, f2, f3⟩ := hu.first
         obtain ⟨r, r1, r2, r3⟩ := min_l hu v.length 0 [] (by omega) (by omega) (.inl ⟨by simp, fun j hj hj' => by omega⟩)
         refine ev_ifp c4 (ev_bind r ?_ (ev_bind _ (same2_ev (l := r) (m := v) (by omega)) ?_))
         · unfold spec_l3Minimal.f
           exact ev_bind _ (sortS_asc (by omega) c3) r2
         · by_cases c5 : r = v
           · obtain ⟨t, t1, t2, hE⟩ := tabS_ev (v := v) (by omega) hu.2 (most := 260) (by omega) (by omega)
             obtain ⟨b, b1, b2⟩ := endsS_l hu (by omega) t2 (rd v 0).toNat 200 (by omega) (by omega)
             refine ev_ifp (by simpa using c5) (ev_bind b ?_ (ev_to (Ev.now _) ?_))
             · unfold spec_l3Ends.f
               exact ev_bind _ hE b1
             · rw [Bool.eq_iff_iff, b2, ← ends_iff f2 (Su.mem f1), decide_eq_true_eq]
               exact ⟨fun h => ⟨hu, c1, c3, c4, r3.1 c5, h⟩, fun h => h.ends⟩
           · exact ev_ifn (by simpa using c5) (ev_to (Ev.now _) (decide_eq_false (fun h => c5 (r3.2 h.min))).symm)
       · exact ev_ifn c4 (ev_to (Ev.now _) (decide_eq_false (fun h => c4 h.gcd)).symm)
     · exact ev_bind _ (ascS_ev hl) (ev_ifn (by simpa using c3) (ev_to (Ev.now _) (decide_eq_false (fun h => c3 h.asc)).symm))
   · exact ev_ifn c1 (ev_to (Ev.now _) (decide_eq_false (fun h => c1 h.len)).symm)
 · exact ev_bind _ (gensS_ev hl) (ev_ifn (by simpa using hu) (ev_to (Ev.now _) (decide_eq_false (fun h => hu h.ul)).symm))
theorem sliceEq_l {l m : List Int} (hl : l.length ≤ 1099511627776) (e : l.length = m.length) (d : Nat) : ∀ (i : Int), 0 ≤ i → i + d = l.length → Ev (fun k => slices_Equal_int_int.l0 k l m l.length i) (decide (l.drop i.toNat = m.drop i.toNat)) := by
 induction d with
 | zero =>
  intro i h0 h1
  refine Ev.step (fun k => by rw [slices_Equal_int_int.l0]) ?_
  refine ev_ifn (by omega) (ev_to (Ev.now _) ?_)
  rw [List.drop_of_length_le (by omega), List.drop_of_length_le (by omega)]; simp
 | succ d ih =>
  intro i h0 h1
  refine Ev.step (fun k => by rw [slices_Equal_int_int.l0]) ?_
  rw [w64 (x := i + 1) (by omega) (by omega), drop_rd h0 (by omega), drop_rd (l := m) h0 (by omega)]
  refine ev_ifp (by omega) (ev_ifp h0 (ev_ifp (by omega) (ev_ifp (by omega) ?_)))
  by_cases h : rd l i = rd m i
  · refine ev_ifp h (ev_to (ih (i + 1) (by omega) (by omega)) ?_)
    simp [h]
  · refine ev_ifn h (ev_to (Ev.now _) ?_)
    simp [h]
theorem sliceEq_ev {l m : List Int} (hl : l.length ≤ 1099511627776) : Ev (fun k => slices_Equal_int_int.f k l m) (decide (l = m)) := by
 unfold slices_Equal_int_int.f
 by_cases e : l.length = m.length
 · refine ev_ifp (by omega) (ev_to (sliceEq_l hl e l.length 0 (by omega) (by omega)) ?_)
   simp
 · refine ev_ifn (by omega) (ev_to (Ev.now _) ?_)
   simp; intro h; exact e (by rw [h])
theorem gcS_l0 {g : List Int} (h : VG g) {r : Int × Int × Bool} (R : ∀ t, GA g (2 * topg g) t → Ev (fun k => spec_GapClash.l1 k (topg g) t 1) r → True) (d : Nat) : ∀ (i : Int) (t : List Bool), 0 ≤ i → i + d = g.length → ((t.length : Int) = 2 * topg g + 1 ∧ ∀ j, 0 ≤ j → j ≤ 2 * topg g → (rdOf false t j = true ↔ ∃ q, 0 ≤ q ∧ q < i ∧ rd g q = j)) → ∃ t', GA g (2 * topg g) t' ∧ ∀ r, Ev (fun k => spec_GapClash.l1 k (topg g) t' 1) r → Ev (fun k => spec_GapClash.l0 k g (topg g) t i) r := by
 have hlen := h.len
 obtain ⟨t0, t1, t2⟩ := h.top
 induction d with
 | zero =>
  intro i t h0 h1 h2
  rw [show i = (g.length : Int) from by omega] at h2
  exact ⟨t, ga_end h2, fun r e => Ev.step (fun k => by rw [spec_GapClash.l0]) (ev_ifn (by omega) e)⟩
 | succ d ih =>
  intro i t h0 h1 h2
  have m := rd_mem (l := g) h0 (by omega)
  have b := h.2 _ m
  have b' := t2 _ m
  obtain ⟨t', e1, e2⟩ := ih (i + 1) (t.set (rd g i).toNat true) (by omega) (by omega) (ga_step h0 (by omega) ⟨by omega, by omega⟩ h2)
  refine ⟨t', e1, fun r e => Ev.step (fun k => by rw [spec_GapClash.l0]) ?_⟩
  rw [w64 (x := i + 1) (by omega) (by omega)]
  exact ev_ifp (by omega) (ev_ifp h0 (ev_ifp (by omega) (ev_ifp (by have := h2.1; omega) (e2 r e))))
theorem gcS_ev {g : List Int} (hl : g.length ≤ 1099511627776) : ∃ x y c, Ev (fun k => spec_GapClash.f k g) (x, y, c) ∧ (c = true ↔ VG g ∧ ¬ CF g) := by
 unfold spec_GapClash.f
 by_cases h : VG g
 · have hlen := h.len
   obtain ⟨t0, t1, t2⟩ := h.top
   by_cases z : g.length = 0
   · refine ⟨0, 0, false, ev_bind _ (l8_ev hl) (ev_ifp (by simpa using h) (Ev.step (fun k => by rw [spec_GapClash.j0]) (ev_ifp (by simpa using z) (Ev.now _)))), fun k => by simp at k, fun k => absurd (fun a b _ _ _ _ q => ?_) k.2⟩
     rw [show g = [] from by simpa using z] at q
     simp at q
   · have e : topg g = rd g ((g.length : Int) - 1) := by unfold topg; rw [if_neg z]
     have w := w64 (x := (g.length : Int) - 1) (by omega) (by omega)
     obtain ⟨t', a1, a2⟩ := gcS_l0 h (r := (0, 0, false)) (fun _ _ _ => trivial) g.length 0 (List.replicate (2 * topg g + 1).toNat false) (by omega) (by omega) (ga_start g (by omega))
     obtain ⟨x, y, c, b1, b2⟩ := clS_l1 (m := 2 * topg g) (top := topg g) a1 (by omega) (by omega) (max 1 (topg g + 1) - 1).toNat 1 (by omega) (by omega)
     refine ⟨x, y, c, ev_bind _ (l8_ev hl) (ev_ifp (by simpa using h) (Ev.step (fun k => by rw [spec_GapClash.j0]) ?_)), by rw [b2]; exact ⟨fun k => ⟨h, fun q => (cf_iff h).1 q k⟩, fun k => Classical.byContradiction fun q => k.2 ((cf_iff h).2 q)⟩⟩
     rw [w, ← e, w64 (x := 2 * topg g) (by omega) (by omega), w64 (x := 2 * topg g + 1) (by omega) (by omega)]
     exact ev_ifn (by simpa using z) (ev_ifp (by omega) (ev_ifp (by omega) (ev_ifp (by omega) (ev_ifp (by omega) (a2 _ b1)))))
 · exact ⟨0, 0, false, ev_bind _ (l8_ev hl) (ev_ifn (by simpa using h) (Ev.step (fun k => by rw [spec_GapClash.j0]) (ev_ifp rfl (Ev.now _)))), fun k => by simp at k, fun k => absurd k.1 h⟩
theorem gcI_l0 {g : List Int} (h : VG g) (hz : g.length ≠ 0) (d : Nat) : ∀ (i : Int) (t : List Bool), 0 ≤ i → i + d = g.length → ((t.length : Int) = 200 + 1 ∧ ∀ j, 0 ≤ j → j ≤ 200 → (rdOf false t j = true ↔ ∃ q, 0 ≤ q ∧ q < i ∧ rd g q = j)) → ∃ t', GA g 200 t' ∧ ∀ r, Ev (fun k => impl_GapClash.l1 k t' (topg g) 1) r → Ev (fun k => impl_GapClash.l0 k g t g g.length i) r := by
 have hlen := h.len
 have e : topg g = rd g ((g.length : Int) - 1) := by unfold topg; rw [if_neg hz]
 induction d with
 | zero =>
  intro i t h0 h1 h2
  rw [show i = (g.length : Int) from by omega] at h2
  refine ⟨t, ga_end h2, fun r q => Ev.step (fun k => by rw [impl_GapClash.l0]) ?_⟩
  rw [w64 (x := (g.length : Int) - 1) (by omega) (by omega), ← e]
  exact ev_ifn (by omega) (ev_ifp (by omega) (ev_ifp (by omega) q))
 | succ d ih =>
  intro i t h0 h1 h2
  have b := h.2 _ (rd_mem (l := g) h0 (by omega))
  obtain ⟨t', e1, e2⟩ := ih (i + 1) (t.set (rd g i).toNat true) (by omega) (by omega) (ga_step h0 (by omega) ⟨by omega, by omega⟩ h2)
  refine ⟨t', e1, fun r q => Ev.step (fun k => by rw [impl_GapClash.l0]) ?_⟩
  rw [w64 (x := i + 1) (by omega) (by omega)]
  exact ev_ifp (by omega) (ev_ifp h0 (ev_ifp (by omega) (ev_ifp (by omega) (ev_ifp (by have := h2.1; omega) (e2 r q)))))
theorem gcI_ev {g : List Int} (hl : g.length ≤ 1099511627776) : ∃ x y c, Ev (fun k => impl_GapClash.f k g) (x, y, c) ∧ (c = true ↔ VG g ∧ ¬ CF g) := by
 unfold impl_GapClash.f
 by_cases h : VG g
 · have hlen := h.len
   obtain ⟨t0, t1, t2⟩ := h.top
   by_cases z : g.length = 0
   · refine ⟨0, 0, false, ev_bind _ (gl_ev hl) (ev_ifp (by simpa using h) (Ev.step (fun k => by rw [impl_GapClash.j0]) (ev_ifp (by simpa using z) (Ev.now _)))), fun k => by simp at k, fun k => absurd (fun a b _ _ _ _ q => ?_) k.2⟩
     rw [show g = [] from by simpa using z] at q
     simp at q
   · obtain ⟨t', a1, a2⟩ := gcI_l0 h z g.length 0 (List.replicate 201 false) (by omega) (by omega) (ga_start g (m := 200) (by omega))
     obtain ⟨x, y, c, b1, b2⟩ := clI_l1 (m := 200) (top := topg g) a1 (by omega) (by omega) (max 1 (topg g + 1) - 1).toNat 1 (by omega) (by omega)
     refine ⟨x, y, c, ev_bind _ (gl_ev hl) (ev_ifp (by simpa using h) (Ev.step (fun k => by rw [impl_GapClash.j0]) ?_)), by rw [b2]; exact ⟨fun k => ⟨h, fun q => (cf_iff h).1 q k⟩, fun k => Classical.byContradiction fun q => k.2 ((cf_iff h).2 q)⟩⟩
     exact ev_ifn (by simpa using z) (ev_ifp (by omega) (a2 _ b1))
 · exact ⟨0, 0, false, ev_bind _ (gl_ev hl) (ev_ifn (by simpa using h) (Ev.step (fun k => by rw [impl_GapClash.j0]) (ev_ifp rfl (Ev.now _)))), fun k => by simp at k, fun k => absurd k.1 h⟩
def FG (g : List Int) : Prop := VG g ∧ CF g ∧ SG (mg g)
noncomputable instance (g : List Int) : Decidable (FG g) := Classical.propDecidable _
noncomputable def fgr (g : List Int) : List Int × Bool := if FG g then (mg g, true) else ([], false)
theorem mg_len (g : List Int) : (mg g).length ≤ 400 := fl_len _ _ _
theorem fgS_l0 {g : List Int} (h : VG g) (hc : CF g) (d : Nat) : ∀ n : Nat, n + d = 2 * (topg g).toNat + 2 → Ev (fun k => spec_FromGaps.l0 k g (fl (isMin g) 1 n) (topg g) ((n : Int) + 1)) (fgr g) := by
 have hlen := h.len
 obtain ⟨t0, t1, t2⟩ := h.top
 have w := w64 (x := 2 * topg g) (by omega) (by omega)
 have w' := w64 (x := 2 * topg g + 2) (by omega) (by omega)
 induction d with
 | zero =>
  intro n hn
  have ml := mg_len g
  rw [mg_cut h (by omega) (by omega)]
  refine Ev.step (fun k => by rw [spec_FromGaps.l0]) ?_
  rw [w, w']
  refine ev_ifn (by omega) (ev_bind _ (sgS_ev (by omega)) ?_)
  by_cases s : SG (mg g)
  · exact ev_ifp (by simpa using s) (ev_to (Ev.now _) (by unfold fgr; rw [if_pos ⟨h, hc, s⟩]))
  · exact ev_ifn (by simpa using s) (ev_to (Ev.now _) (by unfold fgr; rw [if_neg (fun k => s k.2.2)]))
 | succ d ih =>
  intro n hn
  have fll := fl_len (isMin g) n 1
  have nx := ih (n + 1) (by omega)
  rw [show (((n + 1 : Nat)) : Int) + 1 = (n : Int) + 1 + 1 from by omega, fl_app (isMin g) n 1 1, show (1 : Int) + (n : Int) = (n : Int) + 1 from by omega, show (1 : Nat) = 0 + 1 from rfl] at nx
  refine Ev.step (fun k => by rw [spec_FromGaps.l0]) ?_
  rw [w, w', w64 (x := (n : Int) + 1 + 1) (by omega) (by omega)]
  refine ev_ifp (by omega) (ev_bind _ (has_ev (by omega) _) ?_)
  by_cases m : ((n : Int) + 1) ∈ g
  · have nm : ¬ isMin g ((n : Int) + 1) = true := fun k => (isMin_t.1 k).1 m
    rw [fl_no nm, show ∀ j, fl (isMin g) j 0 = [] from fun _ => rfl, List.append_nil] at nx
    exact ev_ifp (by simpa using m) nx
  · refine ev_ifn (by simpa using m) ?_
    have sn := su_new hc m
    by_cases z : fl (isMin g) 1 n = []
    · have mn : isMin g ((n : Int) + 1) = true := Classical.byContradiction fun k => by
       have := sn.2 k
       rw [z] at this
       obtain ⟨x, hx, _⟩ := (Su.last (by omega)).1 this
       simp at hx
      rw [fl_yes mn, show ∀ j, fl (isMin g) j 0 = [] from fun _ => rfl] at nx
      exact ev_ifn (by rw [z]; simp) (ev_ifp (by omega) nx)
    · have zl : (fl (isMin g) 1 n).length ≠ 0 := by simpa using z
      obtain ⟨t, a1, a2, a3⟩ := tabG_ev (v := fl (isMin g) 1 n) (by omega) (fun x hx => by have := (fl_mem _ _).1 hx; omega) (most := (n : Int) + 1) (by omega) (by omega)
      have ht := a2 ((n : Int) + 1) (by omega) (Int.le_refl _)
      refine ev_ifp (by omega) (ev_bind _ a3 (ev_ifp (by omega) (ev_ifp (by omega) ?_)))
      by_cases mn : isMin g ((n : Int) + 1) = true
      · rw [fl_yes mn, show ∀ j, fl (isMin g) j 0 = [] from fun _ => rfl] at nx
        exact ev_ifn (fun k => sn.1 (ht.1 k) mn) (ev_ifp (by omega) nx)
      · rw [fl_no mn, show ∀ j, fl (isMin g) j 0 = [] from fun _ => rfl, List.append_nil] at nx
        exact ev_ifp (ht.2 (sn.2 mn)) nx
theorem fromGapsS_ev {g : List Int} (hl : g.length ≤ 1099511627776) : Ev (fun k => spec_FromGaps.f k g) (fgr g) := by
 obtain ⟨x, y, c, e1, e2⟩ := gcS_ev hl
 unfold spec_FromGaps.f
 refine ev_bind _ e1 (ev_bind _ (l8_ev hl) ?_)
 by_cases h : VG g
 · refine ev_ifp (by simpa using h) ?_
   by_cases hc : CF g
   · have cf : c = false := Bool.eq_false_iff.mpr (fun k => (e2.1 k).2 hc)
     subst cf
     have hlen := h.len
     have r := fgS_l0 h hc (2 * (topg g).toNat + 2) 0 (by omega)
     rw [show ((0 : Nat) : Int) + 1 = 1 from rfl, show fl (isMin g) 1 0 = [] from rfl] at r
     refine Ev.step (fun k => by rw [spec_FromGaps.j0]) (ev_ifn (by simp) ?_)
     simp only [Option.bind_some]
     by_cases z : g.length = 0
     · have e : topg g = 0 := by unfold topg; rw [if_pos z]
       rw [e] at r
       exact ev_ifn (by omega) (Ev.step (fun k => by rw [spec_FromGaps.j1]) r)
     · have e : topg g = rd g ((g.length : Int) - 1) := by unfold topg; rw [if_neg z]
       rw [w64 (x := (g.length : Int) - 1) (by omega) (by omega), ← e]
       exact ev_ifp (by omega) (ev_ifp (by omega) (ev_ifp (by omega) (Ev.step (fun k => by rw [spec_FromGaps.j1]) r)))
   · have ct : c = true := e2.2 ⟨h, hc⟩
     subst ct
     exact Ev.step (fun k => by rw [spec_FromGaps.j0]) (ev_ifp rfl (ev_to (Ev.now _) (by unfold fgr; rw [if_neg (fun k => hc k.2.1)])))
 · exact ev_ifn (by simpa using h) (Ev.step (fun k => by rw [spec_FromGaps.j0]) (ev_ifp rfl (ev_to (Ev.now _) (by unfold fgr; rw [if_neg (fun k => h k.1)]))))
theorem fgI_l2 {g : List Int} {t : List Bool} (h : GA g 400 t) {n : Int} (h1 : 1 ≤ n) (h2 : n ≤ 400) {u : List Int} (hu : (u.length : Int) ≤ 400) {r : List Int × Bool} (d : Nat) : ∀ (a : Int) (s : Bool), 1 ≤ a → a + d = n / 2 + 1 →
 ((s = true ∨ ∃ x, a ≤ x ∧ 2 * x ≤ n ∧ x ∉ g ∧ n - x ∉ g) → Ev (fun k => impl_FromGaps.l1 k g t (n + 1) u) r) → (¬ (s = true ∨ ∃ x, a ≤ x ∧ 2 * x ≤ n ∧ x ∉ g ∧ n - x ∉ g) → Ev (fun k => impl_FromGaps.l1 k g t (n + 1) (u ++ [n])) r) → Ev (fun k => impl_FromGaps.l2 k g t n s a u) r := by
 have hl := h.1
 induction d with
 | zero =>
  intro a s a1 a2 y no
  refine Ev.step (fun k => by rw [impl_FromGaps.l2]) ?_
  rw [w64 (x := 2 * a) (by omega) (by omega), w64 (x := n + 1) (by omega) (by omega)]
  refine ev_ifn (by omega) ?_
  by_cases c : s = true
  · exact ev_ifp c (y (.inl c))
  · exact ev_ifn c (ev_ifp (by omega) (no (fun k => k.elim c (fun ⟨x, x0, x1, _⟩ => by omega))))
 | succ d ih =>
  intro a s a1 a2 y no
  refine Ev.step (fun k => by rw [impl_FromGaps.l2]) ?_
  rw [w64 (x := 2 * a) (by omega) (by omega), w64 (x := n + 1) (by omega) (by omega), w64 (x := a + 1) (by omega) (by omega), w64 (x := n - a) (by omega) (by omega)]
  refine ev_ifp (by omega) ?_
  by_cases c : s = true
  · exact ev_ifp c (y (.inl c))
  · refine ev_ifn c (ev_ifp (by omega) (ev_ifp (by omega) ?_))
    have ha := h.2 a (by omega) (by omega)
    have hb := h.2 (n - a) (by omega) (by omega)
    by_cases q : a ∈ g
    · refine ev_ifp (ha.2 q) (ih (a + 1) false (by omega) (by omega) (fun k => y (k.elim (fun k => by simp at k) fun ⟨x, x0, x1⟩ => .inr ⟨x, by omega, x1⟩)) (fun k => no fun k' => k (k'.elim (fun k' => absurd k' c) fun ⟨x, x0, x1, x2, x3⟩ => .inr ⟨x, ?_, x1, x2, x3⟩)))
      by_cases e : x = a
      · rw [e] at x2; exact absurd q x2
      · omega
    · refine ev_ifn (fun k => q (ha.1 k)) (ev_ifp (by omega) (ev_ifp (by omega) (ih (a + 1) _ (by omega) (by omega) (fun k => y ?_) (fun k => no fun k' => k ?_))))
      · rcases k with k | ⟨x, x0, x1⟩
        · exact .inr ⟨a, Int.le_refl _, by omega, q, fun m => by rw [hb.2 m] at k; simp at k⟩
        · exact .inr ⟨x, by omega, x1⟩
      · rcases k' with k' | ⟨x, x0, x1, x2, x3⟩
        · exact absurd k' c
        · by_cases e : x = a
          · subst e
            exact .inl (by rw [Bool.eq_false_iff.mpr (fun k => x3 (hb.1 k))]; rfl)
          · exact .inr ⟨x, by omega, x1, x2, x3⟩
theorem fgI_l1 {g : List Int} (hv : VG g) (hc : CF g) {t : List Bool} (h : GA g 400 t) (d : Nat) : ∀ n : Nat, n + d = 400 → Ev (fun k => impl_FromGaps.l1 k g t ((n : Int) + 1) (fl (isMin g) 1 n)) (fgr g) := by
 have hl := h.1
 induction d with
 | zero =>
  intro n hn
  have ml := mg_len g
  have vl := hv.len
  rw [show n = 400 from by omega]
  change Ev (fun k => impl_FromGaps.l1 k g t ((400 : Nat) + 1 : Int) (mg g)) (fgr g)
  refine Ev.step (fun k => by rw [impl_FromGaps.l1]) (ev_ifn (by omega) (ev_bind _ (sgI_ev (by omega)) ?_))
  by_cases s : SG (mg g)
  · have gg := gapsI_gps (v := mg g) (by omega)
    rw [gps_sg s, gp_mg hv hc] at gg
    exact ev_ifp (by simpa using s) (ev_bind _ gg (ev_bind _ (sliceEq_ev (by omega)) (ev_ifp (by simp) (ev_to (Ev.now _) (by unfold fgr; rw [if_pos ⟨hv, hc, s⟩])))))
  · exact ev_ifn (by simpa using s) (ev_to (Ev.now _) (by unfold fgr; rw [if_neg (fun k => s k.2.2)]))
 | succ d ih =>
  intro n hn
  have fll := fl_len (isMin g) n 1
  have nx := ih (n + 1) (by omega)
  rw [show (((n + 1 : Nat)) : Int) + 1 = (n : Int) + 1 + 1 from by omega, fl_app (isMin g) n 1 1, show (1 : Int) + (n : Int) = (n : Int) + 1 from by omega, show (1 : Nat) = 0 + 1 from rfl] at nx
  have key : ((rdOf false t ((n : Int) + 1) = true ∨ ∃ x, 1 ≤ x ∧ 2 * x ≤ (n : Int) + 1 ∧ x ∉ g ∧ (n : Int) + 1 - x ∉ g) ↔ ¬ isMin g ((n : Int) + 1) = true) := by
   rw [h.2 _ (by omega) (by omega), isMin_t]
   constructor
   · rintro (k | ⟨x, x0, x1, x2, x3⟩) q
     · exact q.1 k
     · exact q.2 x ((n : Int) + 1 - x) x0 (by omega) x2 x3 (by omega)
   · intro k
     by_cases m : ((n : Int) + 1) ∈ g
     · exact .inl m
     · right
       have : ∃ a b : Int, 1 ≤ a ∧ 1 ≤ b ∧ a ∉ g ∧ b ∉ g ∧ a + b = (n : Int) + 1 := Classical.byContradiction fun q => k ⟨m, fun a b a1 b1 a2 b2 e => q ⟨a, b, a1, b1, a2, b2, e⟩⟩
       obtain ⟨a, b, a1, b1, a2, b2, e⟩ := this
       by_cases le : a ≤ b
       · exact ⟨a, a1, by omega, a2, by rw [show (n : Int) + 1 - a = b from by omega]; exact b2⟩
       · exact ⟨b, b1, by omega, b2, by rw [show (n : Int) + 1 - b = a from by omega]; exact a2⟩
  refine Ev.step (fun k => by rw [impl_FromGaps.l1]) (ev_ifp (by omega) (ev_ifp (by omega) (fgI_l2 h (by omega) (by omega) (by omega) (((n : Int) + 1) / 2).toNat 1 _ (by omega) (by omega) (fun k => ?_) (fun k => ?_))))
  · rw [fl_no (key.1 k), show ∀ j, fl (isMin g) j 0 = [] from fun _ => rfl, List.append_nil] at nx
    exact nx
  · rw [fl_yes (Classical.byContradiction fun q => k (key.2 q)), show ∀ j, fl (isMin g) j 0 = [] from fun _ => rfl] at nx
    exact nx
theorem fgI_l0 {g : List Int} (h : VG g) (hc : CF g) (d : Nat) : ∀ (i : Int) (t : List Bool), 0 ≤ i → i + d = g.length → ((t.length : Int) = 400 + 1 ∧ ∀ j, 0 ≤ j → j ≤ 400 → (rdOf false t j = true ↔ ∃ q, 0 ≤ q ∧ q < i ∧ rd g q = j)) → Ev (fun k => impl_FromGaps.l0 k g t g g.length i) (fgr g) := by
 have hlen := h.len
 induction d with
 | zero =>
  intro i t h0 h1 h2
  rw [show i = (g.length : Int) from by omega] at h2
  have r := fgI_l1 h hc (ga_end h2) 400 0 (by omega)
  rw [show ((0 : Nat) : Int) + 1 = 1 from rfl, show fl (isMin g) 1 0 = [] from rfl] at r
  exact Ev.step (fun k => by rw [impl_FromGaps.l0]) (ev_ifn (by omega) r)
 | succ d ih =>
  intro i t h0 h1 h2
  have b := h.2 _ (rd_mem (l := g) h0 (by omega))
  have e2 := ih (i + 1) (t.set (rd g i).toNat true) (by omega) (by omega) (ga_step h0 (by omega) ⟨by omega, by omega⟩ h2)
  refine Ev.step (fun k => by rw [impl_FromGaps.l0]) ?_
  rw [w64 (x := i + 1) (by omega) (by omega)]
  exact ev_ifp (by omega) (ev_ifp h0 (ev_ifp (by omega) (ev_ifp (by omega) (ev_ifp (by have := h2.1; omega) e2))))
theorem fromGapsI_ev {g : List Int} (hl : g.length ≤ 1099511627776) : Ev (fun k => impl_FromGaps.f k g) (fgr g) := by
 obtain ⟨x, y, c, e1, e2⟩ := gcI_ev hl
 unfold impl_FromGaps.f
 refine ev_bind _ e1 ?_
 by_cases ct : c = true
 · have := e2.1 ct
   exact ev_ifp ct (Ev.step (fun k => by rw [impl_FromGaps.j0]) (ev_ifp rfl (ev_to (Ev.now _) (by unfold fgr; rw [if_neg (fun k => this.2 k.2.1)]))))
 · refine ev_ifn ct (ev_bind _ (gl_ev hl) (Ev.step (fun k => by rw [impl_FromGaps.j0]) ?_))
   by_cases h : VG g
   · have hc : CF g := Classical.byContradiction fun k => ct (e2.2 ⟨h, k⟩)
     exact ev_ifn (nd_f h) (ev_ifp (by omega) (fgI_l0 h hc g.length 0 (List.replicate 401 false) (by omega) (by omega) (ga_start g (m := 400) (by omega))))
   · exact ev_ifp (nd_t h) (ev_to (Ev.now _) (by unfold fgr; rw [if_neg (fun k => h k.1)]))
theorem gapsS_gps {v : List Int} (hl : v.length ≤ 1099511627776) : Ev (fun k => spec_Gaps.f k v) (gps v) := by
 unfold spec_Gaps.f
 refine ev_bind _ (sgS_ev hl) ?_
 by_cases c : SG v
 · rw [gps_sg c]; exact ev_ifp (by simpa using c) (ev_bind _ (l4Gaps_ev c) (Ev.now _))
 · rw [gps_no c]; exact ev_ifn (by simpa using c) (Ev.now _)
theorem frI_ev {v : List Int} (hl : v.length ≤ 1099511627776) : Ev (fun k => impl_FrobeniusOf.f k v) (fob v) := by
 have g := gps_len v
 unfold impl_FrobeniusOf.f fob
 refine ev_bind _ (gapsI_gps hl) ?_
 by_cases c : (gps v).length = 0
 · rw [if_pos c]; exact ev_ifp (by omega) (Ev.now _)
 · rw [if_neg c, w64 (x := ((gps v).length : Int) - 1) (by omega) (by omega)]
   exact ev_ifn (by omega) (ev_ifp (by omega) (ev_ifp (by omega) (Ev.now _)))
theorem frS_ev {v : List Int} (hl : v.length ≤ 1099511627776) : Ev (fun k => spec_FrobeniusOf.f k v) (fob v) := by
 have g := gps_len v
 unfold spec_FrobeniusOf.f fob
 refine ev_bind _ (gapsS_gps hl) ?_
 by_cases c : (gps v).length = 0
 · rw [if_pos c]; exact ev_ifp (by omega) (Ev.now _)
 · rw [if_neg c, w64 (x := ((gps v).length : Int) - 1) (by omega) (by omega)]
   exact ev_ifn (by omega) (ev_ifp (by omega) (ev_ifp (by omega) (Ev.now _)))
def pw (l : List Int) : Prop := l.Pairwise (· < ·)
theorem pw_asc {l : List Int} (h : pw l) : Asc l := by
 induction l with
 | nil => intro i h0 h1; simp at h1; omega
 | cons x l ih => exact asc_cons (List.pairwise_cons.1 h).1 (ih (List.pairwise_cons.1 h).2)
theorem pw_eq : ∀ {a b : List Int}, pw a → pw b → (∀ z, z ∈ a ↔ z ∈ b) → a = b
 | [], [], _, _, _ => rfl
 | [], y :: b, _, _, h => absurd ((h y).2 (List.mem_cons_self ..)) (by simp)
 | x :: a, [], _, _, h => absurd ((h x).1 (List.mem_cons_self ..)) (by simp)
 | x :: a, y :: b, ha, hb, h => by
  have ha' := List.pairwise_cons.1 ha
  have hb' := List.pairwise_cons.1 hb
  have e : x = y := by
   rcases List.mem_cons.1 ((h x).1 (List.mem_cons_self ..)) with k | k
   · exact k
   · rcases List.mem_cons.1 ((h y).2 (List.mem_cons_self ..)) with q | q
     · exact q.symm
     · have := ha'.1 y q; have := hb'.1 x k; omega
  subst e
  refine congrArg (x :: ·) (pw_eq ha'.2 hb'.2 fun z => ⟨fun k => ?_, fun k => ?_⟩)
  · rcases List.mem_cons.1 ((h z).1 (List.mem_cons_of_mem _ k)) with q | q
    · have := ha'.1 z k; omega
    · exact q
  · rcases List.mem_cons.1 ((h z).2 (List.mem_cons_of_mem _ k)) with q | q
    · have := hb'.1 z k; omega
    · exact q
def ins1 (x : Int) : List Int → List Int
 | [] => [x]
 | y :: l => if x < y then x :: y :: l else if x = y then y :: l else y :: ins1 x l
theorem ins1_mem {x z : Int} : ∀ {l : List Int}, z ∈ ins1 x l ↔ z = x ∨ z ∈ l
 | [] => by simp [ins1]
 | y :: l => by
  unfold ins1
  split
  · simp
  · split
    · rename_i e; subst e; simp
    · rw [List.mem_cons, ins1_mem, List.mem_cons]; constructor
      · rintro (a | a | a)
        · exact .inr (.inl a)
        · exact .inl a
        · exact .inr (.inr a)
      · rintro (a | a | a)
        · exact .inr (.inl a)
        · exact .inl a
        · exact .inr (.inr a)
theorem ins1_pw {x : Int} : ∀ {l : List Int}, pw l → pw (ins1 x l)
 | [], _ => by simp [ins1, pw]
 | y :: l, h => by
  have h' := List.pairwise_cons.1 h
  unfold ins1
  split
  · rename_i c
    refine List.pairwise_cons.2 ⟨fun z hz => ?_, h⟩
    rcases List.mem_cons.1 hz with rfl | k
    · exact c
    · have := h'.1 z k; omega
  · split
    · exact h
    · rename_i c e
      refine List.pairwise_cons.2 ⟨fun z hz => ?_, ins1_pw h'.2⟩
      rcases ins1_mem.1 hz with rfl | k
      · omega
      · exact h'.1 z k
def srt (l : List Int) : List Int := l.foldr ins1 []
theorem srt_mem {z : Int} : ∀ {l : List Int}, z ∈ srt l ↔ z ∈ l
 | [] => by simp [srt]
 | x :: l => by
  have := srt_mem (z := z) (l := l)
  unfold srt at this ⊢
  rw [List.foldr_cons, ins1_mem, this, List.mem_cons]
theorem srt_pw : ∀ l : List Int, pw (srt l)
 | [] => by simp [srt, pw]
 | x :: l => by have := srt_pw l; unfold srt at this ⊢; rw [List.foldr_cons]; exact ins1_pw this
theorem ins1_len {x : Int} : ∀ {l : List Int}, (ins1 x l).length ≤ l.length + 1
 | [] => by simp [ins1]
 | y :: l => by
  have := ins1_len (x := x) (l := l)
  unfold ins1
  split
  · simp
  · split <;> simp <;> omega
theorem srt_len : ∀ l : List Int, (srt l).length ≤ l.length
 | [] => by simp [srt]
 | x :: l => by
  have := srt_len l
  have h := ins1_len (x := x) (l := srt l)
  unfold srt at this h ⊢
  rw [List.foldr_cons, List.length_cons]; omega
theorem pw_put {l : List Int} {x : Int} {p : Nat} (h : pw l) (lo : ∀ z ∈ l.take p, z < x) (hi : ∀ z ∈ l.drop p, x < z) : pw (l.take p ++ [x] ++ l.drop p) := by
 unfold pw at h ⊢
 rw [List.append_assoc]
 refine List.pairwise_append.2 ⟨h.sublist (List.take_sublist ..), List.pairwise_append.2 ⟨by simp, h.sublist (List.drop_sublist ..), fun a ha b hb => ?_⟩, fun a ha b hb => ?_⟩
 · rw [List.mem_singleton] at ha; subst ha; exact hi b hb
 · rcases List.mem_append.1 hb with q | q
   · rw [List.mem_singleton] at q; subst q; exact lo a ha
   · have := lo a ha; have := hi b q; omega
theorem srt_l1 {l : List Int} (hl : l.length ≤ 1048576) {i : Int} (h0 : 0 ≤ i) (hi : i < l.length) {x3 : List Int} (h3 : pw x3) (hn : (x3.length : Int) ≤ i) {r : List Int} (N : ∀ y, pw y → (y.length : Int) ≤ i + 1 → (∀ z, z ∈ y ↔ z ∈ x3 ∨ z = rd l i) → Ev (fun k => spec_SortList.l0 k l y (i + 1)) r) (d : Nat) : ∀ p : Int, p = d → p ≤ x3.length → (∀ z ∈ x3.drop p.toNat, rd l i < z) → Ev (fun k => spec_SortList.l1 k l x3 i p) r := by
 have put : ∀ p : Int, 0 ≤ p → p ≤ x3.length → (∀ z ∈ x3.take p.toNat, z < rd l i) → (∀ z ∈ x3.drop p.toNat, rd l i < z) → Ev (fun k => spec_SortList.l0 k l (x3.take p.toNat ++ [rd l i] ++ ([] ++ x3.drop p.toNat)) (i + 1)) r := fun p p0 p1 a b => by
  rw [List.nil_append]
  refine N _ (pw_put h3 a b) ?_ fun z => ?_
  · have := take_len p0 p1
    rw [List.length_append, List.length_append, List.length_singleton, List.length_drop]; omega
  · have e := List.take_append_drop p.toNat x3
    constructor
    · intro k
      rcases List.mem_append.1 k with k | k
      · rcases List.mem_append.1 k with k | k
        · exact .inl (List.mem_of_mem_take k)
        · exact .inr (List.mem_singleton.1 k)
      · exact .inl (List.mem_of_mem_drop k)
    · rintro (k | k)
      · rw [← e] at k
        rcases List.mem_append.1 k with k | k
        · exact List.mem_append_left _ (List.mem_append_left _ k)
        · exact List.mem_append_right _ k
      · exact List.mem_append_left _ (List.mem_append_right _ (List.mem_singleton.2 k))
 have w1 := w64 (x := i + 1) (by omega) (by omega)
 induction d with
 | zero =>
  intro p hp hp' hh
  have pt := put p (by omega) hp' (fun z hz => by rw [show p.toNat = 0 from by omega] at hz; simp at hz) hh
  have tl := take_len (v := x3) (i := p) (by omega) hp'
  refine Ev.step (fun k => by rw [spec_SortList.l1]) (ev_ifn (by omega) ?_)
  simp only [Option.bind_some]
  rw [w1]
  have dl : (x3.drop p.toNat).length ≤ x3.length := by rw [List.length_drop]; omega
  refine ev_ifp (by omega) (ev_ifp (by omega) (ev_ifp (by simp only [List.length_nil]; omega) (ev_ifp (by omega) (ev_ifp (by omega) (ev_ifp (by omega) (ev_ifp (by simp only [List.length_append, List.length_nil, List.length_singleton]; omega) pt))))))
 | succ d ih =>
  intro p hp hp' hh
  have dr := drop_rd (l := x3) (i := p - 1) (by omega) (by omega)
  rw [show p - 1 + 1 = p from by omega] at dr
  have tl := take_len (v := x3) (i := p) (by omega) hp'
  have dl : (x3.drop p.toNat).length ≤ x3.length := by rw [List.length_drop]; omega
  refine Ev.step (fun k => by rw [spec_SortList.l1]) (ev_ifp (by omega) ?_)
  rw [w64 (x := p - 1) (by omega) (by omega), w1]
  refine ev_ifp (by omega) (ev_ifp (by omega) (ev_ifp (by omega) (ev_ifp (by omega) ?_)))
  by_cases c : rd x3 (p - 1) > rd l i
  · exact ev_ifp c (ih (p - 1) (by omega) (by omega) (fun z hz => by
     rw [dr] at hz
     rcases List.mem_cons.1 hz with rfl | k
     · exact c
     · exact hh z k))
  · refine ev_ifn c ?_
    by_cases e : rd x3 (p - 1) = rd l i
    · refine ev_ifp e (N x3 h3 (by omega) fun z => ⟨fun k => .inl k, fun k => ?_⟩)
      rcases k with k | k
      · exact k
      · rw [k, ← e]; exact rd_mem (by omega) (by omega)
    · have pt := put p (by omega) hp' (fun z hz => by
       obtain ⟨j, j0, j1, j2⟩ := mem_rd hz
       rw [tl] at j1
       rw [← j2, rd_lt j0 (by rw [tl]; exact j1), List.getElem_take]
       rw [show x3[j.toNat]'(by omega) = rd x3 j from (rd_lt j0 (by omega)).symm]
       by_cases q : j = p - 1
       · rw [q]; omega
       · have := asc_lt (pw_asc h3) (p - 1 - j - 1).toNat j (p - 1) j0 (by omega) (by omega)
         omega) hh
      refine ev_ifn e ?_
      simp only [Option.bind_some]
      refine ev_ifp (by omega) (ev_ifp (by omega) (ev_ifp (by simp only [List.length_nil]; omega) (ev_ifp (by omega) (ev_ifp (by simp only [List.length_append, List.length_nil, List.length_singleton]; omega) pt))))
theorem srt_l0 {l : List Int} (hl : l.length ≤ 1048576) (d : Nat) : ∀ (i : Int) (x3 : List Int), 0 ≤ i → i + d = l.length → pw x3 → (x3.length : Int) ≤ i → (∀ z, z ∈ x3 ↔ z ∈ l.take i.toNat) → Ev (fun k => spec_SortList.l0 k l x3 i) (srt l) := by
 induction d with
 | zero =>
  intro i x3 h0 h1 h3 h4 h5
  refine Ev.step (fun k => by rw [spec_SortList.l0]) (ev_ifn (by omega) (ev_to (Ev.now _) ?_))
  rw [show i.toNat = l.length from by omega, List.take_length] at h5
  exact pw_eq h3 (srt_pw l) fun z => by rw [h5, srt_mem]
 | succ d ih =>
  intro i x3 h0 h1 h3 h4 h5
  refine Ev.step (fun k => by rw [spec_SortList.l0]) (ev_ifp (by omega) (srt_l1 hl h0 (by omega) h3 h4 (fun y y1 y2 y3 => ih (i + 1) y (by omega) (by omega) y1 y2 fun z => ?_) x3.length x3.length rfl (Int.le_refl _) (fun z hz => by simp at hz)))
  rw [y3, h5, take_rd h0 (by omega), List.mem_append, List.mem_singleton]
theorem sortS_srt {l : List Int} (hl : l.length ≤ 1048576) : Ev (fun k => spec_SortList.f k l) (srt l) :=
 srt_l0 hl l.length 0 [] (by omega) (by omega) (by simp [pw]) (by simp) (fun z => by simp)
end Go.Proofs.Ytonknpgfbkgbjaa.E
end
section
namespace Go.Proofs.Ytonknpgfbkgbjaa.E
open Go.RowKit Go.Proofs.YtonknpgfbkgbjaaW.PrintWords Go.Proofs.YtonknpgfbkgbjaaW.PrintLast Go.Proofs.YtonknpgfbkgbjaaW.PrintMore
set_option linter.unusedVariables false
set_option linter.unusedSimpArgs false
theorem cmp_l (d : Array Int) (hs : ∀ i j : Nat, i ≤ j → j < d.size → d[i]! ≤ d[j]!) (m : Nat) : m ≤ d.size → pw (Go.Lib.compactUpTo d m) ∧ (∀ z, z ∈ Go.Lib.compactUpTo d m ↔ ∃ j, j < m ∧ d[j]! = z) := by
 induction m with
 | zero => intro _; exact ⟨by simp [Go.Lib.compactUpTo, pw], fun z => by simp [Go.Lib.compactUpTo]⟩
 | succ m ih =>
  intro hm
  obtain ⟨h1, h2⟩ := ih (by omega)
  rw [Go.Lib.compactUpTo_succ]
  by_cases c : Go.Lib.keeps d m = true
  · rw [if_pos c]
    have k : m = 0 ∨ d[m]! ≠ d[m - 1]! := by unfold Go.Lib.keeps at c; simpa using c
    refine ⟨List.pairwise_append.2 ⟨h1, by simp, fun a ha b hb => ?_⟩, fun z => ?_⟩
    · rw [List.mem_singleton] at hb
      obtain ⟨j, j0, j1⟩ := (h2 a).1 ha
      have a1 := hs j (m - 1) (by omega) (by omega)
      have a2 := hs (m - 1) m (by omega) (by omega)
      rcases k with k | k
      · omega
      · rw [hb, ← j1]; omega
    · rw [List.mem_append, List.mem_singleton, h2]
      constructor
      · rintro (⟨j, j0, j1⟩ | e)
        · exact ⟨j, by omega, j1⟩
        · exact ⟨m, by omega, e.symm⟩
      · rintro ⟨j, j0, j1⟩
        by_cases e : j = m
        · right; rw [← j1, e]
        · exact .inl ⟨j, by omega, j1⟩
  · rw [if_neg c, List.append_nil]
    have k : m ≠ 0 ∧ d[m]! = d[m - 1]! := by
     unfold Go.Lib.keeps at c
     simp only [decide_eq_true_eq, not_or, Classical.not_not] at c
     exact c
    refine ⟨h1, fun z => ?_⟩
    rw [h2]
    constructor
    · rintro ⟨j, j0, j1⟩; exact ⟨j, by omega, j1⟩
    · rintro ⟨j, j0, j1⟩
      by_cases e : j = m
      · exact ⟨m - 1, by omega, by rw [← k.2, ← e]; exact j1⟩
      · exact ⟨j, by omega, j1⟩
theorem compact_srt (l : List Int) : Go.Lib.compact (l.mergeSort fun x y => decide (x ≤ y)) = srt l := by
 have sorted : (l.mergeSort fun x y => decide (x ≤ y)).Pairwise (fun x y => decide (x ≤ y) = true) := List.pairwise_mergeSort (fun a b c h k => by simp at *; omega) (fun a b => by simp; omega) l
 have perm := List.mergeSort_perm l (fun x y => decide (x ≤ y))
 generalize (l.mergeSort fun x y => decide (x ≤ y)) = s at sorted perm
 have get : ∀ i : Nat, ∀ h : i < s.length, s.toArray[i]! = s[i] := fun i h => by simp [h]
 obtain ⟨h1, h2⟩ := cmp_l s.toArray (fun i j hij hj => by
  have hj' : j < s.length := by simpa using hj
  rw [get i (by omega), get j hj']
  by_cases e : i = j
  · subst e; exact Int.le_refl _
  · have := List.pairwise_iff_getElem.1 sorted i j (by omega) hj' (by omega)
    simpa using this) s.length (by simp)
 refine pw_eq h1 (srt_pw l) fun z => ?_
 show z ∈ Go.Lib.compactUpTo s.toArray s.length ↔ _
 rw [h2, srt_mem, ← perm.mem_iff]
 constructor
 · rintro ⟨j, j0, j1⟩; rw [← j1, get j j0]; exact List.getElem_mem _
 · intro k
   obtain ⟨j, j0, j1⟩ := List.getElem_of_mem k
   exact ⟨j, j0, by rw [get j j0]; exact j1⟩
end Go.Proofs.Ytonknpgfbkgbjaa.E
end
section
namespace Go.Proofs.Ytonknpgfbkgbjaa.E
open Go.RowKit Go.Proofs.Ytonknpgfbkgbjaa.PB Go.Proofs.YtonknpgfbkgbjaaW.PrintWords Go.Proofs.YtonknpgfbkgbjaaW.PrintLast Go.Proofs.YtonknpgfbkgbjaaW.PrintMore
set_option linter.unusedVariables false
set_option linter.unusedSimpArgs false
theorem sortI_srt {l : List Int} (hl : l.length ≤ 1048576) : Ev (fun k => impl_SortList.f k l) (srt l) := by
 unfold impl_SortList.f
 exact ev_ifp (by omega) (ev_to (Ev.now _) (compact_srt l))
noncomputable def rmg (v : List Int) (x : Int) : List Int × Bool := fgr (srt (gp v ++ [x]))
theorem rmS_ev {v : List Int} (h : SG v) {x : Int} (hx : x ∈ v) : Ev (fun k => spec_RemoveGenerator.f k v x) (rmg v x) := by
 have hl := h.len
 have g := gp_len v
 unfold spec_RemoveGenerator.f
 refine ev_bind _ (sgS_ev (by omega)) ?_
 refine ev_ifp (by simpa using h) ?_
 refine ev_bind _ (has_ev (by omega) x) ?_
 rw [show (!decide (x ∈ v)) = false from by simp [hx]]
 refine Ev.step (fun k => by rw [spec_RemoveGenerator.j0]) ?_
 refine ev_ifn (by simp) ?_
 refine ev_bind _ (l4Gaps_ev h) ?_
 refine ev_ifp (by omega) ?_
 have e : (gp v ++ [x]).length = (gp v).length + 1 := by simp
 have s := srt_len (gp v ++ [x])
 refine ev_bind _ (sortS_srt (by omega)) ?_
 exact ev_bind _ (fromGapsS_ev (by omega)) (Ev.now _)
theorem idx_l {l : List Int} (hl : l.length ≤ 1099511627776) {x : Int} (d : Nat) : ∀ i : Int, 0 ≤ i → i + d = l.length → ∃ r : Int, Ev (fun k => slices_Index_int_int.l0 k l x l.length i) r ∧ (0 ≤ r ↔ x ∈ l.drop i.toNat) := by
 induction d with
 | zero =>
  intro i h0 h1
  refine ⟨-1, Ev.step (fun k => by rw [slices_Index_int_int.l0]) (ev_ifn (by omega) (Ev.now _)), ?_⟩
  rw [List.drop_of_length_le (by omega)]
  simp
 | succ d ih =>
  intro i h0 h1
  rw [drop_rd h0 (by omega)]
  by_cases c : x = rd l i
  · refine ⟨i, Ev.step (fun k => by rw [slices_Index_int_int.l0]) (ev_ifp (by omega) (ev_ifp h0 (ev_ifp (by omega) (ev_ifp c (Ev.now _))))), ?_⟩
    simp [c, h0]
  · obtain ⟨r, r1, r2⟩ := ih (i + 1) (by omega) (by omega)
    refine ⟨r, Ev.step (fun k => by rw [slices_Index_int_int.l0]) (ev_ifp (by omega) (ev_ifp h0 (ev_ifp (by omega) (ev_ifn c ?_)))), ?_⟩
    · rw [w64 (x := i + 1) (by omega) (by omega)]; exact r1
    · rw [r2, List.mem_cons]
      exact ⟨fun q => .inr q, fun q => q.resolve_left c⟩
theorem cont_ev {l : List Int} (hl : l.length ≤ 1099511627776) (x : Int) : Ev (fun k => slices_Contains_int_int.f k l x) (decide (x ∈ l)) := by
 obtain ⟨r, r1, r2⟩ := idx_l hl (x := x) l.length 0 (by omega) (by omega)
 unfold slices_Contains_int_int.f slices_Index_int_int.f
 refine ev_bind _ r1 (ev_to (Ev.now _) ?_)
 have : (0 ≤ r) = (x ∈ l) := by rw [r2]; rfl
 simp only [ge_iff_le, this]
theorem rmI_ev {v : List Int} (h : SG v) {x : Int} (hx : x ∈ v) : Ev (fun k => impl_RemoveGenerator.f k v x) (rmg v x) := by
 have hl := h.len
 have g := gp_len v
 unfold impl_RemoveGenerator.f
 refine ev_bind _ (sgI_ev (by omega)) ?_
 refine ev_ifp (by simpa using h) ?_
 refine ev_bind _ (cont_ev (by omega) x) ?_
 rw [show (!decide (x ∈ v)) = false from by simp [hx]]
 refine Ev.step (fun k => by rw [impl_RemoveGenerator.j0]) ?_
 refine ev_ifn (by simp) ?_
 have ge := gapsI_gps (v := v) (by omega)
 rw [gps_sg h] at ge
 refine ev_bind _ ge ?_
 refine ev_ifp (by omega) ?_
 have e : (gp v ++ [x]).length = (gp v).length + 1 := by simp
 have s := srt_len (gp v ++ [x])
 refine ev_bind _ (sortI_srt (by omega)) ?_
 exact ev_bind _ (fromGapsI_ev (by omega)) (Ev.now _)
noncomputable def kgo (v : List Int) (acc : List S26) : List Int → List S26 × Bool
 | [] => (acc, true)
 | x :: r => if x ≤ fob v then kgo v acc r else if (rmg v x).2 = true then kgo v (acc ++ [⟨(rmg v x).1⟩]) r else ([], false)
noncomputable def kids (v : List Int) : List S26 × Bool := if SG v then kgo v [] v else ([], false)
theorem kgo_len (v : List Int) : ∀ (l : List Int) (acc : List S26), (kgo v acc l).1.length ≤ acc.length + l.length
 | [], acc => Nat.le_refl _
 | x :: r, acc => by
  unfold kgo
  split
  · have := kgo_len v r acc; simp only [List.length_cons]; omega
  · split
    · have := kgo_len v r (acc ++ [⟨(rmg v x).1⟩])
      simp only [List.length_append, List.length_cons, List.length_nil] at this ⊢; omega
    · simp
theorem kids_len (v : List Int) : (kids v).1.length ≤ 12 := by
 unfold kids
 split
 · rename_i h
   have := kgo_len v v []
   have := h.len
   simp only [List.length_nil] at *; omega
 · simp
theorem kgo_is (v : List Int) : ∀ (l : List Int) (acc : List S26), kgo v acc l = ([], false) ∨ (kgo v acc l = (acc ++ (l.filter fun x => !decide (x ≤ fob v)).map (fun x => ⟨(rmg v x).1⟩), true) ∧ ∀ x ∈ l, ¬ x ≤ fob v → (rmg v x).2 = true)
 | [], acc => .inr ⟨by simp [kgo], fun x hx => by cases hx⟩
 | x :: r, acc => by
  unfold kgo
  by_cases c : x ≤ fob v
  · rw [if_pos c]
    rcases kgo_is v r acc with h | ⟨h, k⟩
    · exact .inl h
    · refine .inr ⟨?_, fun y hy hn => ?_⟩
      · rw [h, List.filter_cons_of_neg (by simp [c])]
      · rcases List.mem_cons.1 hy with e | hy
        · rw [e] at hn; exact absurd c hn
        · exact k y hy hn
  · rw [if_neg c]
    by_cases b : (rmg v x).2 = true
    · rw [if_pos b]
      rcases kgo_is v r (acc ++ [⟨(rmg v x).1⟩]) with h | ⟨h, k⟩
      · exact .inl h
      · refine .inr ⟨?_, fun y hy hn => ?_⟩
        · rw [h, List.filter_cons_of_pos (by simp [c]), List.map_cons, List.append_assoc]; rfl
        · rcases List.mem_cons.1 hy with e | hy
          · rw [e]; exact b
          · exact k y hy hn
    · rw [if_neg b]; exact .inl rfl
theorem kidS_l {v : List Int} (h : SG v) (d : Nat) : ∀ (i : Int) (acc : List S26), 0 ≤ i → i + d = v.length → (acc.length : Int) ≤ i → Ev (fun k => spec_ChildrenOf.l0 k acc (fob v) i v) (kgo v acc (v.drop i.toNat)) := by
 have hl := h.len
 induction d with
 | zero =>
  intro i acc h0 h1 h2
  rw [List.drop_of_length_le (by omega), kgo]
  exact Ev.step (fun k => by rw [spec_ChildrenOf.l0]) (ev_ifn (by omega) (Ev.now _))
 | succ d ih =>
  intro i acc h0 h1 h2
  rw [drop_rd h0 (by omega), kgo]
  refine Ev.step (fun k => by rw [spec_ChildrenOf.l0]) (ev_ifp (by omega) (ev_ifp h0 ?_))
  rw [w64 (x := i + 1) (by omega) (by omega)]
  by_cases c : rd v i ≤ fob v
  · rw [if_pos c]
    exact ev_ifp c (ih (i + 1) acc (by omega) (by omega) (by omega))
  · rw [if_neg c]
    refine ev_ifn c (ev_bind _ (rmS_ev h (rd_mem h0 (by omega))) ?_)
    by_cases b : (rmg v (rd v i)).2 = true
    · rw [if_pos b]
      refine ev_ifp b (ev_ifp (by omega) ?_)
      exact ih (i + 1) _ (by omega) (by omega) (by simp only [List.length_append, List.length_singleton]; omega)
    · rw [if_neg b]
      exact ev_ifn b (Ev.now _)
theorem kidS_ev {v : List Int} (hv : v.length ≤ 1099511627776) : Ev (fun k => spec_ChildrenOf.f k v) (kids v) := by
 unfold spec_ChildrenOf.f kids
 refine ev_bind _ (sgS_ev hv) ?_
 by_cases h : SG v
 · rw [if_pos h]
   exact ev_ifp (by simpa using h) (ev_bind _ (frS_ev hv) (kidS_l h v.length 0 [] (by omega) (by omega) (by simp)))
 · rw [if_neg h]
   exact ev_ifn (by simpa using h) (Ev.now _)
theorem kidI_l {v : List Int} (h : SG v) (d : Nat) : ∀ (i : Int) (acc : List S26), 0 ≤ i → i + d = v.length → (acc.length : Int) ≤ i → Ev (fun k => impl_ChildrenOf.l0 k (fob v) acc v v.length i v) (kgo v acc (v.drop i.toNat)) := by
 have hl := h.len
 induction d with
 | zero =>
  intro i acc h0 h1 h2
  rw [List.drop_of_length_le (by omega), kgo]
  exact Ev.step (fun k => by rw [impl_ChildrenOf.l0]) (ev_ifn (by omega) (Ev.now _))
 | succ d ih =>
  intro i acc h0 h1 h2
  rw [drop_rd h0 (by omega), kgo]
  refine Ev.step (fun k => by rw [impl_ChildrenOf.l0]) (ev_ifp (by omega) (ev_ifp h0 (ev_ifp (by omega) ?_)))
  rw [w64 (x := i + 1) (by omega) (by omega)]
  by_cases c : rd v i ≤ fob v
  · rw [if_pos c]
    exact ev_ifp c (ih (i + 1) acc (by omega) (by omega) (by omega))
  · rw [if_neg c]
    refine ev_ifn c (ev_bind _ (rmI_ev h (rd_mem h0 (by omega))) ?_)
    by_cases b : (rmg v (rd v i)).2 = true
    · rw [if_pos b]
      refine ev_ifp b (ev_ifp (by omega) ?_)
      exact ih (i + 1) _ (by omega) (by omega) (by simp only [List.length_append, List.length_singleton]; omega)
    · rw [if_neg b]
      exact ev_ifn b (Ev.now _)
theorem kidI_ev {v : List Int} (hv : v.length ≤ 1099511627776) : Ev (fun k => impl_ChildrenOf.f k v) (kids v) := by
 unfold impl_ChildrenOf.f kids
 refine ev_bind _ (sgI_ev hv) ?_
 by_cases h : SG v
 · rw [if_pos h]
   exact ev_ifp (by simpa using h) (ev_bind _ (frI_ev hv) (kidI_l h v.length 0 [] (by omega) (by omega) (by simp)))
 · rw [if_neg h]
   exact ev_ifn (by simpa using h) (Ev.now _)
end Go.Proofs.Ytonknpgfbkgbjaa.E
end
