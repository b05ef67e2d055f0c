-- Bundled by shake.py from this session's printed and written texts; Lean checks it.
import Derived.Test.YtapdhljbhekcdaaZFnWilfx1
import Derived.Test.YtapdhljbhekcdaaZFnWilfx10
import Derived.Test.YtapdhljbhekcdaaZFnWilfx11
import Derived.Test.YtapdhljbhekcdaaZFnWilfx12
import Derived.Test.YtapdhljbhekcdaaZFnWilfx2
import Derived.Test.YtapdhljbhekcdaaZFnWilfx3
import Derived.Test.YtapdhljbhekcdaaZFnWilfx4
import Derived.Test.YtapdhljbhekcdaaZFnWilfx5
import Derived.Test.YtapdhljbhekcdaaZFnWilfx6
import Derived.Test.YtapdhljbhekcdaaZFnWilfx7
import Derived.Test.YtapdhljbhekcdaaZFnWilfx8
import Derived.Test.YtapdhljbhekcdaaZFnWilfx9
section
namespace Go.Proofs.Ytapdhljbhekcdaa.E
open Go.RowKit Go.Proofs.YtapdhljbhekcdaaW.PrintWords Go.Proofs.YtapdhljbhekcdaaW.PrintLast Go.Proofs.YtapdhljbhekcdaaW.PrintMore
set_option linter.unusedVariables false
set_option linter.unusedSimpArgs false
def Su (v : List Int) (n : Int) : Prop := ∃ c, Way v n c
noncomputable instance (v : List Int) (n : Int) : Decidable (Su v n) := Classical.propDecidable _
theorem Su.zero (v : List Int) : Su v 0 := ⟨0, .zero⟩
theorem Su.add {v : List Int} {n m : Int} (h : Su v n) (k : Su v m) : Su v (n + m) := by
 obtain ⟨c, h⟩ := h; obtain ⟨d, k⟩ := k; exact ⟨c + d, h.plus k⟩
theorem Su.mem {v : List Int} {x : Int} (h : x ∈ v) : Su v x := ⟨0 + 1, by have := Way.add h Way.zero; rwa [Int.zero_add] at this⟩
theorem Su.pos {v : List Int} (hv : ∀ x ∈ v, 1 ≤ x) {n : Int} (h : Su v n) : 0 ≤ n := by
 obtain ⟨c, h⟩ := h; have := h.pos hv; omega
theorem Su.mono {v u : List Int} (h : ∀ x ∈ v, x ∈ u) {n : Int} (k : Su v n) : Su u n := by
 obtain ⟨c, k⟩ := k; exact ⟨c, k.mono h⟩
theorem Su.last {v : List Int} {n : Int} (hn : n ≠ 0) : Su v n ↔ ∃ x ∈ v, Su v (n - x) := by
 constructor
 · rintro ⟨c, w⟩
   rcases w.last with h | ⟨x, hx, h⟩
   · exact absurd h.1 hn
   · exact ⟨x, hx, _, h⟩
 · rintro ⟨x, hx, h⟩
   have := h.add (Su.mem hx)
   rwa [show n - x + x = n from by omega] at this
theorem Su.times {v : List Int} {x : Int} (h : Su v x) (j : Nat) : Su v (j * x) := by
 induction j with
 | zero => simpa using Su.zero v
 | succ j ih =>
  have := ih.add h
  rwa [show (j : Int) * x + x = ((j + 1 : Nat) : Int) * x from by rw [Int.natCast_add, Int.add_mul]; simp] at this
theorem Su.up {v : List Int} {a : Int} (ha : 1 ≤ a) (h : Su v a) {n m : Int} (hn : Su v n) (hle : n ≤ m) (hm : n % a = m % a) : Su v m := by
 have e1 := Int.mul_ediv_add_emod n a
 have e2 := Int.mul_ediv_add_emod m a
 have hq : n / a ≤ m / a := Int.ediv_le_ediv (by omega) hle
 have := hn.add (h.times (m / a - n / a).toNat)
 rw [show (((m / a - n / a).toNat : Nat) : Int) = m / a - n / a from by omega] at this
 rwa [show n + (m / a - n / a) * a = m from by rw [Int.sub_mul, Int.mul_comm (m / a), Int.mul_comm (n / a)]; omega] at this
theorem Lst.su {v : List Int} {a G : Int} {t : List Int} (h : Lst v a G t) (ha : 1 ≤ a) (hav : Su v a) {n : Int} : Su v n ↔ 0 ≤ rd t (n % a) ∧ rd t (n % a) ≤ n := by
 have q0 := Int.emod_nonneg n (b := a) (by omega)
 have q1 := Int.emod_lt_of_pos n (b := a) (by omega)
 constructor
 · rintro ⟨c, w⟩; exact h.least _ _ w
 · rintro ⟨h1, h2⟩
   obtain ⟨w, e⟩ := h.way _ q0 q1 h1
   exact Su.up ha hav w h2 (by omega)
def UL (v : List Int) : Prop := (1 ≤ (v.length : Int) ∧ (v.length : Int) ≤ 20) ∧ ∀ x ∈ v, 1 ≤ x ∧ x ≤ 60
noncomputable instance (v : List Int) : Decidable (UL v) := Classical.propDecidable _
theorem UL.pos {v : List Int} (h : UL v) : ∀ x ∈ v, 1 ≤ x := fun x hx => (h.2 x hx).1
theorem UL.first {v : List Int} (h : UL v) : rd v 0 ∈ v ∧ 1 ≤ rd v 0 ∧ rd v 0 ≤ 60 := by
 have := rd_mem (l := v) (i := 0) (by omega) (by have := h.1; omega)
 exact ⟨this, h.2 _ this⟩
theorem Lst.far {v : List Int} {a : Int} {t : List Int} (h : Lst v a 60 t) (ha : 1 ≤ a) (ha' : a ≤ 60) (hav : Su v a) {n m : Int} (hn : Su v n) (hm : 3540 ≤ m) (e : n % a = m % a) : Su v m := by
 have q0 := Int.emod_nonneg n (b := a) (by omega)
 have q1 := Int.emod_lt_of_pos n (b := a) (by omega)
 have k := (h.su ha hav).1 hn
 have b := h.bound _ q0 q1
 exact (h.su ha hav).2 (by rw [← e]; omega)
end Go.Proofs.Ytapdhljbhekcdaa.E
end
section
namespace Go.Proofs.Ytapdhljbhekcdaa.E
open Go.RowKit Go.Proofs.YtapdhljbhekcdaaW.PrintWords Go.Proofs.YtapdhljbhekcdaaW.PrintLast Go.Proofs.YtapdhljbhekcdaaW.PrintMore
set_option linter.unusedVariables false
set_option linter.unusedSimpArgs false
def Dn (v : List Int) (a z : Int) : Prop := ∃ n, Su v n ∧ n % a = z % a
theorem Dn.add {v : List Int} {a z y : Int} (h : Dn v a z) (k : Dn v a y) : Dn v a (z + y) := by
 obtain ⟨n, h1, h2⟩ := h; obtain ⟨m, k1, k2⟩ := k
 exact ⟨n + m, h1.add k1, by rw [Int.add_emod, h2, k2, ← Int.add_emod]⟩
theorem Dn.mul {v : List Int} {a z : Int} (ha : 1 ≤ a) (h : Dn v a z) (k : Int) : Dn v a (z * k) := by
 obtain ⟨n, h1, h2⟩ := h
 have q := Int.emod_nonneg k (b := a) (by omega)
 have := h1.times (k % a).toNat
 rw [show (((k % a).toNat : Nat) : Int) = k % a from by omega] at this
 refine ⟨_, this, ?_⟩
 rw [Int.mul_comm, Int.mul_emod, h2, Int.emod_emod_of_dvd _ (Int.dvd_refl a), ← Int.mul_emod]
theorem Dn.gcd {v : List Int} {a : Int} (ha : 1 ≤ a) (m : Nat) : ∀ n : Nat, Dn v a m → Dn v a n → Dn v a (Nat.gcd m n : Int) := by
 induction m using Nat.strongRecOn with
 | _ m ih =>
  intro n hm hn
  by_cases h : m = 0
  · subst h; simpa using hn
  · rw [Nat.gcd_rec]
    refine ih _ (Nat.mod_lt _ (by omega)) m ?_ hm
    have := hn.add (hm.mul ha (-((n / m : Nat) : Int)))
    have e : (n : Int) + (m : Int) * -((n / m : Nat) : Int) = ((n % m : Nat) : Int) := by
     have := Nat.div_add_mod n m
     have e2 : ((m * (n / m) + n % m : Nat) : Int) = (n : Int) := by rw [this]
     rw [Int.natCast_add, Int.natCast_mul] at e2
     rw [Int.mul_neg]; omega
    rwa [e] at this
theorem Dn.fold {v : List Int} {a : Int} (ha : 1 ≤ a) {l : List Int} (hl : ∀ x ∈ l, (1 ≤ x ∧ x ≤ 60) ∧ Dn v a x) : ∀ acc : Int, 0 ≤ acc → acc ≤ 60 → Dn v a acc → Dn v a (l.foldl gcdOf acc) := by
 induction l with
 | nil => intro acc _ _ h; exact h
 | cons x l ih =>
  intro acc h0 h1 h
  have hx := hl x (by simp)
  have g := gcdOf_small h0 h1 hx.1
  rw [List.foldl_cons]
  refine ih (fun y hy => hl y (by simp [hy])) _ (by omega) g.2.1 ?_
  have e : gcdOf acc x = (Int.gcd acc x : Int) := by unfold gcdOf; rw [if_pos ⟨⟨by omega, by omega⟩, by omega, by omega⟩]
  rw [e, show Int.gcd acc x = Nat.gcd acc.toNat x.toNat from by unfold Int.gcd; congr 1 <;> omega]
  refine Dn.gcd ha _ _ ?_ ?_
  · rwa [show ((acc.toNat : Nat) : Int) = acc from by omega]
  · rw [show ((x.toNat : Nat) : Int) = x from by omega]; exact hx.2
theorem all_classes {v : List Int} {a : Int} (ha : 1 ≤ a) (hv : ∀ x ∈ v, 1 ≤ x ∧ x ≤ 60) (hg : gl v = 1) (z : Int) : Dn v a z := by
 have h1 : Dn v a 1 := by
  rw [← hg]
  exact Dn.fold ha (fun x hx => ⟨hv x hx, x, Su.mem hx, rfl⟩) 0 (by omega) (by omega) ⟨0, Su.zero v, rfl⟩
 have := h1.mul ha z
 rwa [Int.one_mul] at this
end Go.Proofs.Ytapdhljbhekcdaa.E
end
section
namespace Go.Proofs.Ytapdhljbhekcdaa.E
open Go.RowKit Go.Proofs.Ytapdhljbhekcdaa.PD Go.Proofs.YtapdhljbhekcdaaW.PrintWords Go.Proofs.YtapdhljbhekcdaaW.PrintLast Go.Proofs.YtapdhljbhekcdaaW.PrintMore
set_option linter.unusedVariables false
set_option linter.unusedSimpArgs false
theorem leasts_l3 {v : List Int} {a G M : Int} (hv : ∀ x ∈ v, 1 ≤ x ∧ x ≤ G) (hG : 0 ≤ G) (hG' : G ≤ 1000) (ha : 1 ≤ a) (ha' : a ≤ 200) (hl : v.length ≤ 20) {r n : Int} (hr0 : 0 ≤ r) (hr1 : r < a) {P : List Int → Prop}
 (H : ∀ (t : List Int) (ch : Bool), LInv v a G t → weight (a * G + 1) t ≤ M → (ch = true → weight (a * G + 1) t < M) → (ch = false → ∀ s, 0 ≤ s → s < r + 1 → 0 ≤ rd t s → ∀ g ∈ v, 0 ≤ rd t ((rd t s + g) % a) ∧ rd t ((rd t s + g) % a) ≤ rd t s + g) → ∃ u, P u ∧ Ev (fun k => impl_leasts.l2 k v a t ch a (r + 1)) u) (d : Nat) :
 ∀ (t : List Int) (ch : Bool) (i : Int), 0 ≤ i → i + d = v.length → LInv v a G t → rd t r = n → 0 ≤ n → weight (a * G + 1) t ≤ M → (ch = true → weight (a * G + 1) t < M) →
  (ch = false → ∀ s, 0 ≤ s → s < r → 0 ≤ rd t s → ∀ g ∈ v, 0 ≤ rd t ((rd t s + g) % a) ∧ rd t ((rd t s + g) % a) ≤ rd t s + g) → (ch = false → ∀ j, 0 ≤ j → j < i → 0 ≤ rd t ((rd t r + rd v j) % a) ∧ rd t ((rd t r + rd v j) % a) ≤ rd t r + rd v j) →
  ∃ u, P u ∧ Ev (fun k => impl_leasts.l3 k v a t ch r n a r v v.length i) u := by
 have hm : a * G = (a - 1) * G + G := by rw [Int.sub_mul]; omega
 have haG : a * G ≤ 200 * 1000 := Int.mul_le_mul ha' hG' hG (by omega)
 induction d with
 | zero =>
  intro t ch i h0 h1 I hn hn0 hM h2 h3 h4
  obtain ⟨u, hu, hE⟩ := H t ch I hM h2 (by
   intro hc s hs0 hs1 hs g hg
   by_cases e : s = r
   · subst e
     obtain ⟨j, hj0, hj1, rfl⟩ := mem_rd hg
     exact h4 hc j hj0 (by omega)
   · exact h3 hc s hs0 (by omega) hs g hg)
  refine ⟨u, hu, Ev.step (fun k => by rw [impl_leasts.l3]) (ev_ifn (by omega) ?_)⟩
  rw [w64 (by omega) (by omega)]; exact hE
 | succ d ih =>
  intro t ch i h0 h1 I hn hn0 hM h2 h3 h4
  have hgm := rd_mem (l := v) h0 (by omega)
  have hg := hv _ hgm
  have hb := I.top hG hr0 hr1
  have hlen := I.len
  have hto : Int.tmod (r + rd v i) a = (rd t r + rd v i) % a := by
   rw [Int.tmod_eq_emod_of_nonneg (by omega), Int.add_emod (rd t r), (I.way r hr0 hr1 (by omega)).2, Int.add_emod, Int.emod_eq_of_lt hr0 hr1]
  have q0 := Int.emod_nonneg (rd t r + rd v i) (b := a) (by omega)
  have q1 := Int.emod_lt_of_pos (rd t r + rd v i) (b := a) (by omega)
  have change : (rd t ((rd t r + rd v i) % a) < 0 ∨ rd t r + rd v i < rd t ((rd t r + rd v i) % a)) → ∃ u, P u ∧ Ev (fun k => impl_leasts.l3 k v a (t.set ((rd t r + rd v i) % a).toNat (n + rd v i)) true r n a r v v.length (i + 1)) u := by
   intro hc
   obtain ⟨I', w', _, hne⟩ := I.step hv ha hr0 hr1 hgm (by omega) hc
   rw [show n + rd v i = rd t r + rd v i from by omega]
   refine ih _ true (i + 1) (by omega) (by omega) I' ?_ (by omega) (by omega) (fun _ => by omega) (fun h => by cases h) (fun h => by cases h)
   rw [rd_set _ q0 (by omega) hr0, if_neg (fun e => hne e.symm)]; exact hn
  have stay : ¬ (rd t ((rd t r + rd v i) % a) < 0 ∨ rd t r + rd v i < rd t ((rd t r + rd v i) % a)) → ∃ u, P u ∧ Ev (fun k => impl_leasts.l3 k v a t ch r n a r v v.length (i + 1)) u := by
   intro hc
   refine ih t ch (i + 1) (by omega) (by omega) I hn hn0 hM h2 h3 (fun hf j hj0 hj1 => ?_)
   by_cases e : j = i
   · subst e; omega
   · exact h4 hf j hj0 (by omega)
  have head : ∀ u, (∀ c1 : rd t ((rd t r + rd v i) % a) < 0, Ev (fun k => impl_leasts.l3 k v a (t.set ((rd t r + rd v i) % a).toNat (n + rd v i)) true r n a r v v.length (i + 1)) u) → (∀ c1 : ¬ rd t ((rd t r + rd v i) % a) < 0, ∀ c2 : n + rd v i < rd t ((rd t r + rd v i) % a), Ev (fun k => impl_leasts.l3 k v a (t.set ((rd t r + rd v i) % a).toNat (n + rd v i)) true r n a r v v.length (i + 1)) u) → (∀ c1 : ¬ rd t ((rd t r + rd v i) % a) < 0, ∀ c2 : ¬ n + rd v i < rd t ((rd t r + rd v i) % a), Ev (fun k => impl_leasts.l3 k v a t ch r n a r v v.length (i + 1)) u) → Ev (fun k => impl_leasts.l3 k v a t ch r n a r v v.length i) u := by
   intro u f1 f2 f3
   refine Ev.step (fun k => by rw [impl_leasts.l3]) ?_
   rw [w64 (x := r + rd v i) (by omega) (by omega), hto, w64 (x := n + rd v i) (by omega) (by omega), w64 (x := i + 1) (by omega) (by omega)]
   refine ev_ifp (by omega) (ev_ifp h0 (ev_ifp (by omega) (ev_ifn (by omega) (ev_ifp q0 (ev_ifp (by omega) ?_)))))
   by_cases c1 : rd t ((rd t r + rd v i) % a) < 0
   · exact ev_ifp c1 (f1 c1)
   · by_cases c2 : n + rd v i < rd t ((rd t r + rd v i) % a)
     · exact ev_ifn c1 (ev_ifp c2 (f2 c1 c2))
     · exact ev_ifn c1 (ev_ifn c2 (f3 c1 c2))
  by_cases c1 : rd t ((rd t r + rd v i) % a) < 0
  · obtain ⟨u, hu, hE⟩ := change (.inl c1)
    exact ⟨u, hu, head u (fun _ => hE) (fun h => absurd c1 h) (fun h => absurd c1 h)⟩
  · by_cases c2 : n + rd v i < rd t ((rd t r + rd v i) % a)
    · obtain ⟨u, hu, hE⟩ := change (.inr (by omega))
      exact ⟨u, hu, head u (fun h => absurd h c1) (fun _ _ => hE) (fun _ h => absurd c2 h)⟩
    · obtain ⟨u, hu, hE⟩ := stay (by omega)
      exact ⟨u, hu, head u (fun h => absurd h c1) (fun _ h => absurd h c2) (fun _ _ => hE)⟩
theorem leasts_l2 {v : List Int} {a G M : Int} (hv : ∀ x ∈ v, 1 ≤ x ∧ x ≤ G) (hG : 0 ≤ G) (hG' : G ≤ 1000) (ha : 1 ≤ a) (ha' : a ≤ 200) (hl : v.length ≤ 20)
 (H : ∀ t : List Int, LInv v a G t → weight (a * G + 1) t < M → ∃ u, Lst v a G u ∧ Ev (fun k => impl_leasts.l1 k v a t true) u) (d : Nat) :
 ∀ (t : List Int) (ch : Bool) (r : Int), 0 ≤ r → r + d = a → LInv v a G t → weight (a * G + 1) t ≤ M → (ch = true → weight (a * G + 1) t < M) →
  (ch = false → ∀ s, 0 ≤ s → s < r → 0 ≤ rd t s → ∀ g ∈ v, 0 ≤ rd t ((rd t s + g) % a) ∧ rd t ((rd t s + g) % a) ≤ rd t s + g) →
  ∃ u, Lst v a G u ∧ Ev (fun k => impl_leasts.l2 k v a t ch a r) u := by
 induction d with
 | zero =>
  intro t ch r h0 h1 I hM h2 h3
  cases ch with
  | true =>
   obtain ⟨u, hu, hE⟩ := H t I (h2 rfl)
   exact ⟨u, hu, Ev.step (fun k => by rw [impl_leasts.l2]) (ev_ifn (by omega) hE)⟩
  | false =>
   refine ⟨t, I.done hv hG ha (fun s hs0 hs1 hs g hg => h3 rfl s hs0 (by omega) hs g hg), Ev.step (fun k => by rw [impl_leasts.l2]) (ev_ifn (by omega) (Ev.step (fun k => by rw [impl_leasts.l1]) (ev_ifn (by simp) (Ev.now _))))⟩
 | succ d ih =>
  intro t ch r h0 h1 I hM h2 h3
  have hlen := I.len
  by_cases c : rd t r < 0
  · obtain ⟨u, hu, hE⟩ := ih t ch (r + 1) (by omega) (by omega) I hM h2 (fun hf s hs0 hs1 hs g hg => by
     by_cases e : s = r
     · subst e; omega
     · exact h3 hf s hs0 (by omega) hs g hg)
    refine ⟨u, hu, Ev.step (fun k => by rw [impl_leasts.l2]) (ev_ifp (by omega) (ev_ifp h0 (ev_ifp (by omega) (ev_ifp c ?_))))⟩
    rw [w64 (by omega) (by omega)]; exact hE
  · obtain ⟨u, hu, hE⟩ := leasts_l3 (M := M) (P := Lst v a G) hv hG hG' ha ha' hl h0 (by omega) (fun t ch I hM h2 h3 => ih t ch (r + 1) (by omega) (by omega) I hM h2 h3) v.length t ch 0 (by omega) (by omega) I rfl (by omega) hM h2 h3 (fun _ j hj0 hj1 => by omega)
    exact ⟨u, hu, Ev.step (fun k => by rw [impl_leasts.l2]) (ev_ifp (by omega) (ev_ifp h0 (ev_ifp (by omega) (ev_ifn c hE))))⟩
theorem leasts_l1 {v : List Int} {a G : Int} (hv : ∀ x ∈ v, 1 ≤ x ∧ x ≤ G) (hG : 0 ≤ G) (hG' : G ≤ 1000) (ha : 1 ≤ a) (ha' : a ≤ 200) (hl : v.length ≤ 20) (m : Nat) :
 ∀ t : List Int, LInv v a G t → weight (a * G + 1) t ≤ m → ∃ u, Lst v a G u ∧ Ev (fun k => impl_leasts.l1 k v a t true) u := by
 induction m using Nat.strongRecOn with
 | _ m ih =>
  intro t I hm
  have hB : 0 ≤ a * G + 1 := by have := Int.mul_nonneg (show 0 ≤ a by omega) hG; omega
  obtain ⟨u, hu, hE⟩ := leasts_l2 (M := weight (a * G + 1) t) hv hG hG' ha ha' hl (fun t' I' h' => ih (weight (a * G + 1) t').toNat (by have := weight_nonneg hB t'; have := weight_nonneg hB t; omega) t' I' (by have := weight_nonneg hB t'; omega)) a.toNat t false 0 (by omega) (by omega) I (Int.le_refl _) (fun h => by cases h) (fun _ s hs0 hs1 => by omega)
  refine ⟨u, hu, Ev.step (fun k => by rw [impl_leasts.l1]) (ev_ifp rfl ?_)⟩
  rw [I.len]; exact hE
theorem leasts_l0 {v : List Int} {a : Int} (ha : 1 ≤ a) (ha' : a ≤ 200) {u : List Int} (H : Ev (fun k => impl_leasts.l1 k v a ((List.replicate a.toNat (-1)).set 0 0) true) u) (d : Nat) :
 ∀ (i : Int) (row : List Int), 0 ≤ i → i + d = a → (row.length : Int) = a → (∀ j, 0 ≤ j → j < i → rd row j = -1) → Ev (fun k => impl_leasts.l0 k v a row a i) u := by
 induction d with
 | zero =>
  intro i row h0 h1 h2 h3
  have e : row = List.replicate a.toNat (-1) := rd_ext (by simp; omega) fun j hj hj' => by rw [h3 j hj (by omega), rd_rep hj (by omega)]
  subst e
  refine Ev.step (fun k => by rw [impl_leasts.l0]) ?_
  exact ev_ifn (by omega) (ev_ifp (by omega) H)
 | succ d ih =>
  intro i row h0 h1 h2 h3
  refine Ev.step (fun k => by rw [impl_leasts.l0]) ?_
  simp (disch := omega) only [if_pos, w64]
  refine ih (i + 1) _ (by omega) (by omega) (by simpa using h2) fun j hj hj' => ?_
  rw [rd_set _ h0 (by omega) hj]
  by_cases e : j = i
  · rw [if_pos e]
  · rw [if_neg e]; exact h3 j hj (by omega)
theorem leasts_ev {v : List Int} {a G : Int} (hv : ∀ x ∈ v, 1 ≤ x ∧ x ≤ G) (hG : 0 ≤ G) (hG' : G ≤ 1000) (ha : 1 ≤ a) (ha' : a ≤ 200) (hl : v.length ≤ 20) : ∃ u, Lst v a G u ∧ Ev (fun k => impl_leasts.f k v a) u := by
 have hB : 0 ≤ a * G + 1 := by have := Int.mul_nonneg (show 0 ≤ a by omega) hG; omega
 obtain ⟨u, hu, hE⟩ := leasts_l1 hv hG hG' ha ha' hl (weight (a * G + 1) ((List.replicate a.toNat (-1)).set 0 0)).toNat _ (LInv.first ha hG) (by have := weight_nonneg hB ((List.replicate a.toNat (-1)).set 0 0); omega)
 refine ⟨u, hu, ?_⟩
 unfold impl_leasts.f
 refine ev_ifp (by omega) (ev_ifp (by omega) ?_)
 simp only [Option.bind_some]
 rw [show ((List.replicate a.toNat (0 : Int)).length : Int) = a from by simp; omega]
 exact leasts_l0 ha ha' hE a.toNat 0 _ (by omega) (by omega) (by simp; omega) (fun j h h' => by omega)
end Go.Proofs.Ytapdhljbhekcdaa.E
end
section
namespace Go.Proofs.Ytapdhljbhekcdaa.E
open Go.RowKit Go.Proofs.Ytapdhljbhekcdaa.PD Go.Proofs.YtapdhljbhekcdaaW.PrintWords Go.Proofs.YtapdhljbhekcdaaW.PrintLast Go.Proofs.YtapdhljbhekcdaaW.PrintMore
set_option linter.unusedVariables false
set_option linter.unusedSimpArgs false
theorem usableI_ev {v : List Int} (hl : v.length ≤ 1099511627776) : Ev (fun k => impl_usable.f k v) (decide (UL v)) := by
 unfold impl_usable.f
 simp only [within_eq, Option.bind_some]
 by_cases h : 1 ≤ (v.length : Int) ∧ (v.length : Int) ≤ 20
 · exact ev_ifp (by simpa using h) (ev_bind _ (allWithin_ev 1 60 hl) (ev_to (Ev.now _) (by simp only [UL, h, true_and])))
 · exact ev_ifn (by simpa using h) (ev_to (Ev.now _) (decide_eq_false (fun u => h u.1)).symm)
theorem gensS_l {v : List Int} (hl : v.length ≤ 1099511627776) (d : Nat) : ∀ i : Int, 0 ≤ i → i + d = v.length → (∀ j, 0 ≤ j → j < i → 1 ≤ rd v j ∧ rd v j ≤ 60) → Ev (fun k => spec_l3Gens.l0 k v i) (decide (UL v)) := by
 induction d with
 | zero =>
  intro i h0 h1 h2
  refine Ev.step (fun k => by rw [spec_l3Gens.l0]) ?_
  simp only [l1In_eq, Option.bind_some]
  refine ev_ifn (by omega) (ev_to (Ev.now _) ?_)
  have : ∀ x ∈ v, 1 ≤ x ∧ x ≤ 60 := fun x hx => by
   obtain ⟨j, hj, hj', rfl⟩ := mem_rd hx; exact h2 j hj (by omega)
  exact decide_eq_decide.2 ⟨fun h => ⟨h, this⟩, fun h => h.1⟩
 | succ d ih =>
  intro i h0 h1 h2
  refine Ev.step (fun k => by rw [spec_l3Gens.l0]) ?_
  simp only [l1In_eq, Option.bind_some]
  rw [w64 (by omega) (by omega)]
  by_cases h : 1 ≤ rd v i ∧ rd v i ≤ 60
  · refine ev_ifp (by omega) (ev_ifp h0 (ev_ifp (by simpa using h) (ih (i + 1) (by omega) (by omega) (fun j hj hj' => ?_))))
    by_cases e : j = i
    · rw [e]; exact h
    · exact h2 j hj (by omega)
  · exact ev_ifp (by omega) (ev_ifp h0 (ev_ifn (by simpa using h) (ev_to (Ev.now _) (decide_eq_false (fun u => h (u.2 _ (rd_mem h0 (by omega))))).symm)))
theorem gensS_ev {v : List Int} (hl : v.length ≤ 1099511627776) : Ev (fun k => spec_l3Gens.f k v) (decide (UL v)) :=
 gensS_l hl v.length 0 (by omega) (by omega) (fun j h h' => by omega)
end Go.Proofs.Ytapdhljbhekcdaa.E
end
section
namespace Go.Proofs.Ytapdhljbhekcdaa.E
open Go.RowKit Go.Proofs.Ytapdhljbhekcdaa.PD Go.Proofs.YtapdhljbhekcdaaW.PrintWords Go.Proofs.YtapdhljbhekcdaaW.PrintLast Go.Proofs.YtapdhljbhekcdaaW.PrintMore
set_option linter.unusedVariables false
set_option linter.unusedSimpArgs false
def Gen (v : List Int) (n : Int) : Prop := UL v ∧ (0 ≤ n ∧ n ≤ 1000000) ∧ Su v n
noncomputable instance (v : List Int) (n : Int) : Decidable (Gen v n) := Classical.propDecidable _
theorem genI_ev {v : List Int} (n : Int) (hl : v.length ≤ 1099511627776) : Ev (fun k => impl_Generates.f k v n) (decide (Gen v n)) := by
 unfold impl_Generates.f
 simp only [within_eq, Option.bind_some]
 by_cases hu : UL v
 · by_cases hn : 0 ≤ n ∧ n ≤ 1000000
   · obtain ⟨f1, f2, f3⟩ := hu.first
     have hlen := hu.1
     obtain ⟨u, hL, hE⟩ := leasts_ev (G := 60) (a := rd v 0) hu.2 (by omega) (by omega) f2 (by omega) (by omega)
     have q0 := Int.emod_nonneg n (b := rd v 0) (by omega)
     have q1 := Int.emod_lt_of_pos n (b := rd v 0) (by omega)
     have hs := hL.su (n := n) f2 (Su.mem f1)
     have hll := hL.len
     rw [Int.tmod_eq_emod_of_nonneg hn.1]
     refine ev_bind _ (usableI_ev hl) (ev_ifp (by simpa using hu) (ev_ifp (by simpa using hn) (ev_ifp (by omega) (ev_bind _ hE (ev_ifn (by omega) (ev_ifp q0 (ev_ifp (by omega) ?_)))))))
     by_cases c : rd u (n % rd v 0) ≥ 0
     · refine ev_ifp c (ev_to (Ev.now _) (decide_eq_decide.2 ?_))
       exact ⟨fun h => ⟨hu, hn, hs.2 ⟨c, h⟩⟩, fun h => (hs.1 h.2.2).2⟩
     · exact ev_ifn c (ev_to (Ev.now _) (decide_eq_false (fun h => c (hs.1 h.2.2).1)).symm)
   · exact ev_bind _ (usableI_ev hl) (ev_ifp (by simpa using hu) (ev_ifn (by simpa using hn) (ev_to (Ev.now _) (decide_eq_false (fun h => hn h.2.1)).symm)))
 · exact ev_bind _ (usableI_ev hl) (ev_ifn (by simpa using hu) (ev_to (Ev.now _) (decide_eq_false (fun h => hu h.1)).symm))
end Go.Proofs.Ytapdhljbhekcdaa.E
end
section
namespace Go.Proofs.Ytapdhljbhekcdaa.E
open Go.RowKit Go.Proofs.YtapdhljbhekcdaaW.PrintWords Go.Proofs.YtapdhljbhekcdaaW.PrintLast Go.Proofs.YtapdhljbhekcdaaW.PrintMore
set_option linter.unusedVariables false
set_option linter.unusedSimpArgs false
theorem take_ul {v : List Int} (hv : ∀ x ∈ v, 1 ≤ x ∧ x ≤ 60) (i : Nat) : ∀ x ∈ v.take i, 1 ≤ x ∧ x ≤ 60 := fun x hx => hv x (List.mem_of_mem_take hx)
theorem take_len {v : List Int} {i : Int} (h0 : 0 ≤ i) (hi : i ≤ v.length) : ((v.take i.toNat).length : Int) = i := by rw [List.length_take]; omega
end Go.Proofs.Ytapdhljbhekcdaa.E
end
section
namespace Go.Proofs.Ytapdhljbhekcdaa.E
open Go.RowKit Go.Proofs.Ytapdhljbhekcdaa.PD Go.Proofs.YtapdhljbhekcdaaW.PrintWords Go.Proofs.YtapdhljbhekcdaaW.PrintLast Go.Proofs.YtapdhljbhekcdaaW.PrintMore
set_option linter.unusedVariables false
set_option linter.unusedSimpArgs false
structure SG (v : List Int) : Prop where
 ul : UL v
 len : (v.length : Int) ≤ 12
 asc : Asc v
 gcd : gl v = 1
 min : ∀ i : Int, 1 ≤ i → i < v.length → ¬ Su (v.take i.toNat) (rd v i)
 ends : ∀ n, 200 ≤ n → Su v n
noncomputable instance (v : List Int) : Decidable (SG v) := Classical.propDecidable _
theorem ends_iff {v : List Int} {a : Int} (ha : 1 ≤ a) (hav : Su v a) : (∀ n, 200 ≤ n → Su v n) ↔ ∀ n, 200 ≤ n → n < 200 + a → Su v n := by
 constructor
 · intro h n h1 _; exact h n h1
 · intro h n hn
   have q0 := Int.emod_nonneg (n - 200) (b := a) (by omega)
   have q1 := Int.emod_lt_of_pos (n - 200) (b := a) (by omega)
   have le := emod_le_self (n := n - 200) (x := a) (by omega) (by omega)
   refine Su.up ha hav (h (200 + (n - 200) % a) (by omega) (by omega)) (by omega) ?_
   rw [Int.add_emod_emod]; congr 1; omega
theorem Lst.all {v : List Int} {a G : Int} {t : List Int} (h : Lst v a G t) (ha : 1 ≤ a) (hv : ∀ x ∈ v, 1 ≤ x ∧ x ≤ 60) (hg : gl v = 1) {r : Int} (h0 : 0 ≤ r) (h1 : r < a) : 0 ≤ rd t r := by
 obtain ⟨n, ⟨c, w⟩, e⟩ := all_classes ha hv hg r
 have := (h.least n c w).1
 rwa [e, Int.emod_eq_of_lt h0 h1] at this
theorem ends_lst {v : List Int} {a G : Int} {t : List Int} (h : Lst v a G t) (ha : 1 ≤ a) (hav : Su v a) (hv : ∀ x ∈ v, 1 ≤ x ∧ x ≤ 60) (hg : gl v = 1) : (∀ n, 200 ≤ n → Su v n) ↔ ∀ r, 0 ≤ r → r < a → rd t r < 200 + a := by
 rw [ends_iff ha hav]
 constructor
 · intro k r h0 h1
   have q0 := Int.emod_nonneg (r - 200) (b := a) (by omega)
   have q1 := Int.emod_lt_of_pos (r - 200) (b := a) (by omega)
   have e : (200 + (r - 200) % a) % a = r := by
    rw [Int.add_emod_emod, show 200 + (r - 200) = r from by omega, Int.emod_eq_of_lt h0 h1]
   have := (h.su ha hav).1 (k (200 + (r - 200) % a) (by omega) (by omega))
   rw [e] at this
   omega
 · intro k n h0 h1
   have q0 := Int.emod_nonneg n (b := a) (by omega)
   have q1 := Int.emod_lt_of_pos n (b := a) (by omega)
   have p := h.all ha hv hg q0 q1
   have b := k _ q0 q1
   refine (h.su ha hav).2 ⟨p, ?_⟩
   have e := (h.way _ q0 q1 p).2
   by_cases c : rd t (n % a) ≤ n
   · exact c
   · exfalso
     have e1 := Int.mul_ediv_add_emod n a
     have e2 := Int.mul_ediv_add_emod (rd t (n % a)) a
     rw [e] at e2
     have hq : a * (n / a) < a * (rd t (n % a) / a) := by omega
     have hq' : n / a < rd t (n % a) / a := Int.lt_of_mul_lt_mul_left hq (by omega)
     have : a * (n / a + 1) ≤ a * (rd t (n % a) / a) := Int.mul_le_mul_of_nonneg_left (by omega) (by omega)
     rw [Int.mul_add] at this
     omega
theorem sgI_l1 {v u : List Int} {a : Int} (hl : 0 < (v.length : Int)) (ha : rd v 0 = a) (ha1 : 1 ≤ a ∧ a ≤ 60) (hul : (u.length : Int) = a) (hb : ∀ r, 0 ≤ r → r < a → -1 ≤ rd u r ∧ rd u r ≤ 3600) (d : Nat) : ∀ i : Int, 0 ≤ i → i + d = a → ∃ r : Bool, Ev (fun k => impl_IsSemigroup.l1 k v u a i) r ∧ (r = true ↔ ∀ j, i ≤ j → j < a → rd u j < 200 + a) := by
 induction d with
 | zero =>
  intro i h0 h1
  exact ⟨true, Ev.step (fun k => by rw [impl_IsSemigroup.l1]) (ev_ifn (by omega) (Ev.now _)), fun _ j hj hj' => by omega, fun _ => rfl⟩
 | succ d ih =>
  intro i h0 h1
  have b := hb i h0 (by omega)
  by_cases c : rd u i - a ≥ 200
  · refine ⟨false, Ev.step (fun k => by rw [impl_IsSemigroup.l1]) ?_, fun h => (by cases h), fun h => ?_⟩
    · rw [ha, w64 (x := rd u i - a) (by omega) (by omega)]
      exact ev_ifp (by omega) (ev_ifp h0 (ev_ifp (by omega) (ev_ifp hl (ev_ifp c (Ev.now _)))))
    · have := h i (Int.le_refl _) (by omega); omega
  · obtain ⟨r, hE, hr⟩ := ih (i + 1) (by omega) (by omega)
    refine ⟨r, Ev.step (fun k => by rw [impl_IsSemigroup.l1]) ?_, ?_⟩
    · rw [ha, w64 (x := rd u i - a) (by omega) (by omega), w64 (x := i + 1) (by omega) (by omega)]
      exact ev_ifp (by omega) (ev_ifp h0 (ev_ifp (by omega) (ev_ifp hl (ev_ifn c hE))))
    · rw [hr]
      constructor
      · intro h j hj hj'
        by_cases e : j = i
        · rw [e]; omega
        · exact h j (by omega) hj'
      · intro h j hj hj'; exact h j (by omega) hj'
theorem gen_take {v : List Int} (hu : UL v) {i : Int} (h0 : 1 ≤ i) (hi : i < v.length) : Gen (v.take i.toNat) (rd v i) ↔ Su (v.take i.toNat) (rd v i) := by
 have hx := hu.2 _ (rd_mem (l := v) (i := i) (by omega) hi)
 have hl := hu.1
 exact ⟨fun h => h.2.2, fun h => ⟨⟨by rw [take_len (by omega) (by omega)]; omega, take_ul hu.2 _⟩, by omega, h⟩⟩
theorem sgI_l0 {v : List Int} (hu : UL v) (hg : gl v = 1) (d : Nat) : ∀ i : Int, 1 ≤ i → i + d = max 1 v.length → ∃ r : Bool, Ev (fun k => impl_IsSemigroup.l0 k v i) r ∧ (r = true ↔ (∀ j : Int, i ≤ j → j < v.length → ¬ Su (v.take j.toNat) (rd v j)) ∧ ∀ n, 200 ≤ n → Su v n) := by
 have hlen := hu.1
 induction d with
 | zero =>
  intro i h0 h1
  obtain ⟨f1, f2, f3⟩ := hu.first
  obtain ⟨u, hL, hE⟩ := leasts_ev (G := 60) (a := rd v 0) hu.2 (by omega) (by omega) f2 (by omega) (by omega)
  have hll := hL.len
  obtain ⟨r, hE', hr⟩ := sgI_l1 (v := v) (u := u) (a := rd v 0) (by omega) rfl ⟨f2, f3⟩ hll (fun r h0 h1 => ⟨hL.ge r h0 h1, by have := hL.bound r h0 h1; omega⟩) (rd v 0).toNat 0 (by omega) (by omega)
  refine ⟨r, Ev.step (fun k => by rw [impl_IsSemigroup.l0]) ?_, ?_⟩
  · refine ev_ifn (by omega) (ev_ifp (by omega) (ev_bind _ hE ?_))
    rw [hll]; exact hE'
  · rw [hr, ends_lst hL f2 (Su.mem f1) hu.2 hg]
    exact ⟨fun h => ⟨fun j hj hj' => by omega, h⟩, fun h => h.2⟩
 | succ d ih =>
  intro i h0 h1
  have g := gen_take hu h0 (by omega)
  have tl := take_len (v := v) (i := i) (by omega) (by omega)
  by_cases c : Su (v.take i.toNat) (rd v i)
  · refine ⟨false, Ev.step (fun k => by rw [impl_IsSemigroup.l0]) ?_, fun h => (by cases h), fun h => absurd c (h.1 i (Int.le_refl _) (by omega))⟩
    exact ev_ifp (by omega) (ev_ifp (by omega) (ev_ifp (by omega) (ev_bind _ (genI_ev _ (by omega)) (ev_ifp (by simpa using g.2 c) (Ev.now _)))))
  · obtain ⟨r, hE, hr⟩ := ih (i + 1) (by omega) (by omega)
    refine ⟨r, Ev.step (fun k => by rw [impl_IsSemigroup.l0]) ?_, ?_⟩
    · rw [w64 (x := i + 1) (by omega) (by omega)]
      exact ev_ifp (by omega) (ev_ifp (by omega) (ev_ifp (by omega) (ev_bind _ (genI_ev _ (by omega)) (ev_ifn (by simpa using fun h => c (g.1 h)) hE))))
    · rw [hr]
      constructor
      · rintro ⟨h, h'⟩
        refine ⟨fun j hj hj' => ?_, h'⟩
        by_cases e : j = i
        · rw [e]; exact c
        · exact h j (by omega) hj'
      · rintro ⟨h, h'⟩; exact ⟨fun j hj hj' => h j (by omega) hj', h'⟩
theorem sgI_ev {v : List Int} (hl : v.length ≤ 1099511627776) : Ev (fun k => impl_IsSemigroup.f k v) (decide (SG v)) := by
 unfold impl_IsSemigroup.f
 simp only [within_eq, Option.bind_some]
 have no : ¬ SG v → Ev (fun k => impl_IsSemigroup.j0 k v true) (decide (SG v)) := fun h => by
  refine Ev.step (fun k => by rw [impl_IsSemigroup.j0]) ?_
  exact ev_ifp rfl (ev_to (Ev.now _) (decide_eq_false h).symm)
 by_cases c1 : 1 ≤ (v.length : Int) ∧ (v.length : Int) ≤ 12
 · refine ev_ifp (by simpa using c1) ?_
   by_cases c2 : ∀ x ∈ v, 1 ≤ x ∧ x ≤ 60
   · refine ev_bind _ (allWithin_ev 1 60 hl) (ev_ifp (by rw [decide_eq_true_eq]; exact c2) ?_)
     have hu : UL v := ⟨by omega, c2⟩
     by_cases c3 : Asc v
     · refine ev_bind _ (ascI_ev hl) (ev_ifp (by simpa using c3) (ev_bind _ (gcdListI_ev hl) ?_))
       by_cases c4 : gl v = 1
       · obtain ⟨r, hE, hr⟩ := sgI_l0 hu c4 (v.length - 1) 1 (by omega) (by omega)
         refine Ev.step (fun k => by rw [impl_IsSemigroup.j0]) ?_
         refine ev_ifn (by simpa using c4) (ev_to hE ?_)
         rw [Bool.eq_iff_iff, hr, decide_eq_true_eq]
         exact ⟨fun h => ⟨hu, c1.2, c3, c4, h.1, h.2⟩, fun h => ⟨h.min, h.ends⟩⟩
       · rw [show (gl v != 1) = true from by simpa using c4]
         exact no (fun h => c4 h.gcd)
     · exact ev_bind _ (ascI_ev hl) (ev_ifn (by simpa using c3) (no (fun h => c3 h.asc)))
   · exact ev_bind _ (allWithin_ev 1 60 hl) (ev_ifn (by rw [decide_eq_true_eq]; exact c2) (no (fun h => c2 h.ul.2)))
 · exact ev_ifn (by simpa using c1) (no (fun h => c1 ⟨h.ul.1.1, h.len⟩))
end Go.Proofs.Ytapdhljbhekcdaa.E
end
section
namespace Go.Proofs.Ytapdhljbhekcdaa.E
open Go.RowKit Go.Proofs.Ytapdhljbhekcdaa.PD Go.Proofs.YtapdhljbhekcdaaW.PrintWords Go.Proofs.YtapdhljbhekcdaaW.PrintLast Go.Proofs.YtapdhljbhekcdaaW.PrintMore
set_option linter.unusedVariables false
set_option linter.unusedSimpArgs false
theorem rdb_set {l : List Bool} {i j : Int} (x : Bool) (hi : 0 ≤ i) (hi' : i < l.length) (hj : 0 ≤ j) : rdOf false (l.set i.toNat x) j = if j = i then x else rdOf false l j := by
 unfold rdOf
 rw [List.getD_eq_getElem?_getD, List.getD_eq_getElem?_getD, List.getElem?_set]
 by_cases h : j = i
 · subst h; rw [if_pos rfl, if_pos rfl, if_pos (by omega)]; rfl
 · rw [if_neg h, if_neg (by omega)]
theorem rdb_rep {n : Nat} {i : Int} : rdOf false (List.replicate n false) i = false := by
 unfold rdOf
 rw [List.getD_eq_getElem?_getD, List.getElem?_replicate]
 split <;> rfl
def TabAt (v : List Int) (n : Int) (t : List Bool) : Prop := (∀ j, 0 ≤ j → j < n → (rdOf false t j = true ↔ Su v j)) ∧ ∀ j, n ≤ j → rdOf false t j = false
theorem tab_l1 {v : List Int} (hl : v.length ≤ 1048576) (hv : ∀ x ∈ v, 1 ≤ x ∧ x ≤ 1048576) {most n : Int} (hm : most ≤ 1048576) (hn : 1 ≤ n) (hn' : n ≤ most) {r : List Bool}
 (H : ∀ t : List Bool, (t.length : Int) = most + 1 → TabAt v (n + 1) t → Ev (fun k => spec_l3Table.l0 k v most t (n + 1)) r → True) (d : Nat) :
 ∀ (i : Int) (t : List Bool), 0 ≤ i → i + d = v.length → (t.length : Int) = most + 1 → (∀ j, 0 ≤ j → j < n → (rdOf false t j = true ↔ Su v j)) → (∀ j, n < j → rdOf false t j = false) → (rdOf false t n = true ↔ ∃ j, 0 ≤ j ∧ j < i ∧ rd v j ≤ n ∧ Su v (n - rd v j)) →
  ∃ t' : List Bool, (t'.length : Int) = most + 1 ∧ TabAt v (n + 1) t' ∧ ∀ r, Ev (fun k => spec_l3Table.l0 k v most t' (n + 1)) r → Ev (fun k => spec_l3Table.l1 k v most t n i) r := by
 have hv1 : ∀ x ∈ v, 1 ≤ x := fun x hx => (hv x hx).1
 induction d with
 | zero =>
  intro i t h0 h1 h2 h3 h4 h5
  refine ⟨t, h2, ⟨fun j hj hj' => ?_, fun j hj => h4 j (by omega)⟩, fun r hr => Ev.step (fun k => by rw [spec_l3Table.l1]) (ev_ifn (by omega) ?_)⟩
  · by_cases e : j = n
    · subst e
      rw [h5, Su.last (by omega)]
      constructor
      · rintro ⟨q, a, b, _, c⟩; exact ⟨_, rd_mem a (by omega), c⟩
      · rintro ⟨x, hx, c⟩
        obtain ⟨q, a, b, rfl⟩ := mem_rd hx
        have := c.pos hv1
        exact ⟨q, a, by omega, by omega, c⟩
    · exact h3 j hj (by omega)
  · rw [w64 (by omega) (by omega)]; exact hr
 | succ d ih =>
  intro i t h0 h1 h2 h3 h4 h5
  have hx := hv _ (rd_mem (l := v) h0 (by omega))
  by_cases c : n ≥ rd v i
  · have e := h3 (n - rd v i) (by omega) (by omega)
    by_cases b : rdOf false t (n - rd v i) = true
    · obtain ⟨t', a1, a2, a3⟩ := ih (i + 1) (t.set n.toNat true) (by omega) (by omega) (by simpa using h2) (fun j hj hj' => by rw [rdb_set _ (by omega) (by omega) hj, if_neg (by omega)]; exact h3 j hj hj') (fun j hj => by rw [rdb_set _ (by omega) (by omega) (by omega), if_neg (by omega)]; exact h4 j hj)
       (by rw [rdb_set _ (by omega) (by omega) (by omega), if_pos rfl]; exact ⟨fun _ => ⟨i, h0, by omega, c, e.1 b⟩, fun _ => rfl⟩)
      refine ⟨t', a1, a2, fun r hr => Ev.step (fun k => by rw [spec_l3Table.l1]) ?_⟩
      rw [w64 (x := n - rd v i) (by omega) (by omega), w64 (x := i + 1) (by omega) (by omega)]
      exact ev_ifp (by omega) (ev_ifp h0 (ev_ifp c (ev_ifp (by omega) (ev_ifp (by omega) (ev_ifp b (ev_ifp (by omega) (ev_ifp (by omega) (a3 r hr))))))))
    · obtain ⟨t', a1, a2, a3⟩ := ih (i + 1) t (by omega) (by omega) h2 h3 h4 (by
       rw [h5]
       constructor
       · rintro ⟨q, u1, u2, u3⟩; exact ⟨q, u1, by omega, u3⟩
       · rintro ⟨q, u1, u2, u3, u4⟩
         by_cases eq : q = i
         · subst eq; exact absurd (e.2 u4) b
         · exact ⟨q, u1, by omega, u3, u4⟩)
      refine ⟨t', a1, a2, fun r hr => Ev.step (fun k => by rw [spec_l3Table.l1]) ?_⟩
      rw [w64 (x := n - rd v i) (by omega) (by omega), w64 (x := i + 1) (by omega) (by omega)]
      exact ev_ifp (by omega) (ev_ifp h0 (ev_ifp c (ev_ifp (by omega) (ev_ifp (by omega) (ev_ifn b (a3 r hr))))))
  · obtain ⟨t', a1, a2, a3⟩ := ih (i + 1) t (by omega) (by omega) h2 h3 h4 (by
     rw [h5]
     constructor
     · rintro ⟨q, u1, u2, u3⟩; exact ⟨q, u1, by omega, u3⟩
     · rintro ⟨q, u1, u2, u3, u4⟩
       by_cases eq : q = i
       · subst eq; omega
       · exact ⟨q, u1, by omega, u3, u4⟩)
    refine ⟨t', a1, a2, fun r hr => Ev.step (fun k => by rw [spec_l3Table.l1]) ?_⟩
    rw [w64 (x := i + 1) (by omega) (by omega)]
    exact ev_ifp (by omega) (ev_ifp h0 (ev_ifn c (a3 r hr)))
theorem tab_l0 {v : List Int} (hl : v.length ≤ 1048576) (hv : ∀ x ∈ v, 1 ≤ x ∧ x ≤ 1048576) {most : Int} (hm : most ≤ 1048576) (d : Nat) : ∀ (n : Int) (t : List Bool), 1 ≤ n → n + d = most + 1 → (t.length : Int) = most + 1 → TabAt v n t →
 ∃ t' : List Bool, (t'.length : Int) = most + 1 ∧ (∀ j, 0 ≤ j → j ≤ most → (rdOf false t' j = true ↔ Su v j)) ∧ Ev (fun k => spec_l3Table.l0 k v most t n) t' := by
 induction d with
 | zero =>
  intro n t h0 h1 h2 h3
  exact ⟨t, h2, fun j hj hj' => h3.1 j hj (by omega), Ev.step (fun k => by rw [spec_l3Table.l0]) (ev_ifn (by omega) (Ev.now _))⟩
 | succ d ih =>
  intro n t h0 h1 h2 h3
  obtain ⟨t', a1, a2, a3⟩ := tab_l1 (r := t) hl hv hm h0 (by omega) (fun _ _ _ _ => trivial) v.length 0 t (by omega) (by omega) h2 h3.1 (fun j hj => h3.2 j (by omega)) (by
   rw [h3.2 n (Int.le_refl _)]
   exact ⟨fun h => (by cases h), fun ⟨j, u1, u2, _⟩ => by omega⟩)
  obtain ⟨t'', b1, b2, b3⟩ := ih (n + 1) t' (by omega) (by omega) a1 a2
  refine ⟨t'', b1, b2, Ev.step (fun k => by rw [spec_l3Table.l0]) ?_⟩
  exact ev_ifp (by omega) (a3 _ b3)
theorem tabG_ev {v : List Int} (hl : v.length ≤ 1048576) (hv : ∀ x ∈ v, 1 ≤ x ∧ x ≤ 1048576) {most : Int} (hm0 : 0 ≤ most) (hm : most ≤ 1048576) :
 ∃ t : List Bool, (t.length : Int) = most + 1 ∧ (∀ j, 0 ≤ j → j ≤ most → (rdOf false t j = true ↔ Su v j)) ∧ Ev (fun k => spec_l3Table.f k v most) t := by
 have e0 : ((List.replicate (most + 1).toNat false).length : Int) = most + 1 := by simp; omega
 obtain ⟨t, a, b, c⟩ := tab_l0 hl hv hm most.toNat 1 ((List.replicate (most + 1).toNat false).set (0 : Int).toNat true) (by omega) (by omega) (by rw [List.length_set]; exact e0) ⟨fun j hj hj' => by
  rw [rdb_set _ (by omega) (by omega) hj, if_pos (by omega), show j = 0 from by omega]
  exact ⟨fun _ => Su.zero v, fun _ => rfl⟩, fun j hj => by
  rw [rdb_set _ (by omega) (by omega) (by omega), if_neg (by omega)]; exact rdb_rep⟩
 refine ⟨t, a, b, ?_⟩
 unfold spec_l3Table.f
 rw [w64 (by omega) (by omega)]
 simp only [Option.bind_some]
 exact ev_ifp (by omega) (ev_ifp (by omega) (ev_ifp (by omega) c))
theorem tabS_ev {v : List Int} (hl : v.length ≤ 20) (hv : ∀ x ∈ v, 1 ≤ x ∧ x ≤ 60) {most : Int} (hm0 : 0 ≤ most) (hm : most ≤ 1048576) :
 ∃ t : List Bool, (t.length : Int) = most + 1 ∧ (∀ j, 0 ≤ j → j ≤ most → (rdOf false t j = true ↔ Su v j)) ∧ Ev (fun k => spec_l3Table.f k v most) t :=
 tabG_ev (by omega) (fun x hx => ⟨(hv x hx).1, by have := (hv x hx).2; omega⟩) hm0 hm
end Go.Proofs.Ytapdhljbhekcdaa.E
end
section
namespace Go.Proofs.Ytapdhljbhekcdaa.E
open Go.RowKit Go.Proofs.Ytapdhljbhekcdaa.PD Go.Proofs.YtapdhljbhekcdaaW.PrintWords Go.Proofs.YtapdhljbhekcdaaW.PrintLast Go.Proofs.YtapdhljbhekcdaaW.PrintMore
set_option linter.unusedVariables false
set_option linter.unusedSimpArgs false
noncomputable def stab (v : List Int) (m : Int) : List Bool := (List.range (m + 1).toNat).map (fun n : Nat => decide (Su v (n : Int)))
theorem stab_len {v : List Int} {m : Int} (h : 0 ≤ m) : ((stab v m).length : Int) = m + 1 := by unfold stab; simp; omega
theorem rdb_lt {l : List Bool} {i : Int} (h0 : 0 ≤ i) (h : i < l.length) : rdOf false l i = l[i.toNat]'(by omega) := by
 unfold rdOf; rw [List.getD_eq_getElem?_getD, List.getElem?_eq_getElem (by omega)]; rfl
theorem rdb_ext {l m : List Bool} (hl : l.length = m.length) (h : ∀ i : Int, 0 ≤ i → i < l.length → rdOf false l i = rdOf false m i) : l = m := by
 refine List.ext_getElem hl fun n h1 h2 => ?_
 have := h n (by omega) (by omega)
 rw [rdb_lt (by omega) (by omega), rdb_lt (by omega) (by omega)] at this
 simpa using this
theorem stab_rd {v : List Int} {m j : Int} (h0 : 0 ≤ j) (h : j ≤ m) : rdOf false (stab v m) j = decide (Su v j) := by
 have := stab_len (v := v) (m := m) (by omega)
 rw [rdb_lt h0 (by omega)]
 unfold stab
 rw [List.getElem_map, List.getElem_range, show ((j.toNat : Nat) : Int) = j from by omega]
theorem stab_iff {v : List Int} {m j : Int} (h0 : 0 ≤ j) (h : j ≤ m) : rdOf false (stab v m) j = true ↔ Su v j := by rw [stab_rd h0 h]; simp
theorem stab_eq {v : List Int} {m : Int} (hm : 0 ≤ m) {t : List Bool} (hl : (t.length : Int) = m + 1) (h : ∀ j, 0 ≤ j → j ≤ m → (rdOf false t j = true ↔ Su v j)) : t = stab v m := by
 have e := stab_len (v := v) hm
 refine rdb_ext (by omega) fun i h0 h1 => ?_
 rw [stab_rd h0 (by omega), Bool.eq_iff_iff, h i h0 (by omega), decide_eq_true_eq]
theorem tabS_st {v : List Int} (hl : v.length ≤ 20) (hv : ∀ x ∈ v, 1 ≤ x ∧ x ≤ 60) {most : Int} (h0 : 0 ≤ most) (hm : most ≤ 1048576) : Ev (fun k => spec_l3Table.f k v most) (stab v most) := by
 obtain ⟨t, a, b, c⟩ := tabS_ev hl hv h0 hm
 rw [stab_eq h0 a b] at c
 exact c
theorem tabI_l {v u : List Int} (hu : UL v) (hg : gl v = 1) (hL : Lst v (rd v 0) 60 u) {most : Int} (hm0 : 0 ≤ most) (hm : most ≤ 1048576) (d : Nat) : ∀ (i : Int) (out : List Bool), 0 ≤ i → i + d = most + 1 → (out.length : Int) = most + 1 → (∀ j, 0 ≤ j → j < i → (rdOf false out j = true ↔ Su v j)) → Ev (fun k => impl_table.l0 k u out (most + 1) i v) (stab v most) := by
 have f := hu.first
 obtain ⟨_, fa, fb⟩ := f
 have f := hu.first
 have hlen := hu.1
 have hll := hL.len
 induction d with
 | zero =>
  intro i out h0 h1 h2 h3
  refine Ev.step (fun k => by rw [impl_table.l0]) ?_
  rw [stab_eq (v := v) (m := most) (t := out) (by omega) h2 (fun j a b => h3 j a (by omega))]
  exact ev_ifn (by omega) (Ev.now _)
 | succ d ih =>
  intro i out h0 h1 h2 h3
  have q0 := Int.emod_nonneg i (b := rd v 0) (by omega)
  have q1 := Int.emod_lt_of_pos i (b := rd v 0) (by omega)
  have p := hL.all f.2.1 hu.2 hg q0 q1
  have s := hL.su f.2.1 (Su.mem f.1) (n := i)
  refine Ev.step (fun k => by rw [impl_table.l0]) ?_
  rw [Int.tmod_eq_emod_of_nonneg h0, w64 (x := i + 1) (by omega) (by omega)]
  refine ev_ifp (by omega) (ev_ifp (by omega) (ev_ifn (by omega) (ev_ifp q0 (ev_ifp (by omega) (ev_ifp h0 (ev_ifp (by omega) (ih (i + 1) _ (by omega) (by omega) (by simpa using h2) fun j hj hj' => ?_)))))))
  rw [rdb_set _ h0 (by omega) hj]
  by_cases e : j = i
  · subst e
    rw [if_pos rfl, decide_eq_true_eq, s]
    exact ⟨fun h => ⟨p, h⟩, fun h => h.2⟩
  · rw [if_neg e]; exact h3 j hj (by omega)
theorem tabI_st {v : List Int} (hu : UL v) (hg : gl v = 1) {most : Int} (h0 : 0 ≤ most) (hm : most ≤ 1048576) : Ev (fun k => impl_table.f k v most) (stab v most) := by
 obtain ⟨f1, f2, f3⟩ := hu.first
 have hlen := hu.1
 obtain ⟨u, hL, hE⟩ := leasts_ev (G := 60) (a := rd v 0) hu.2 (by omega) (by omega) f2 (by omega) (by omega)
 have e0 : ((List.replicate (most + 1).toNat false).length : Int) = most + 1 := by simp; omega
 unfold impl_table.f
 refine ev_ifp (by omega) (ev_bind _ hE ?_)
 rw [w64 (by omega) (by omega)]
 simp only [Option.bind_some]
 refine ev_ifp (by omega) (ev_ifp (by omega) ?_)
 rw [e0]
 exact tabI_l hu hg hL h0 hm (most + 1).toNat 0 _ (by omega) (by omega) e0 (fun j a b => by omega)
end Go.Proofs.Ytapdhljbhekcdaa.E
end
section
namespace Go.Proofs.Ytapdhljbhekcdaa.E
open Go.RowKit Go.Proofs.Ytapdhljbhekcdaa.PD Go.Proofs.YtapdhljbhekcdaaW.PrintWords Go.Proofs.YtapdhljbhekcdaaW.PrintLast Go.Proofs.YtapdhljbhekcdaaW.PrintMore
set_option linter.unusedVariables false
set_option linter.unusedSimpArgs false
noncomputable def isgap (v : List Int) (n : Int) : Bool := !decide (Su v n)
noncomputable def gp (v : List Int) : List Int := fl (isgap v) 1 199
theorem isgap_t {v : List Int} {n : Int} : isgap v n = true ↔ ¬ Su v n := by unfold isgap; simp
theorem SG.su200 {v : List Int} (h : SG v) : Su v 200 := h.ends 200 (by omega)
theorem SG.sutab {v : List Int} (h : SG v) {m : Int} (h0 : 0 ≤ m) (hm : m ≤ 1048576) : Ev (fun k => impl_table.f k v m) (stab v m) := tabI_st h.ul h.gcd h0 hm
theorem SG.sutabS {v : List Int} (h : SG v) {m : Int} (h0 : 0 ≤ m) (hm : m ≤ 1048576) : Ev (fun k => spec_l3Table.f k v m) (stab v m) := tabS_st (by have := h.len; omega) h.ul.2 h0 hm
theorem gp_wide {v : List Int} (h : SG v) : fl (isgap v) 0 201 = gp v := by
 have a : ¬ isgap v 0 = true := by rw [isgap_t]; simpa using Su.zero v
 have b : ¬ isgap v 200 = true := by rw [isgap_t]; simpa using h.su200
 rw [show (201 : Nat) = 200 + 1 from rfl, fl_no a, show (200 : Nat) = 199 + 1 from rfl, fl_app, show (0 : Int) + 1 = 1 from rfl, show (1 : Int) + ((199 : Nat) : Int) = 200 from rfl, show (1 : Nat) = 0 + 1 from rfl, fl_no b]
 unfold gp
 rw [show fl (isgap v) (200 + 1) 0 = [] from rfl, List.append_nil]
theorem gp_mem {v : List Int} {x : Int} : x ∈ gp v ↔ 1 ≤ x ∧ x < 200 ∧ ¬ Su v x := by
 unfold gp; rw [fl_mem, isgap_t]; constructor <;> rintro ⟨a, b, c⟩ <;> exact ⟨a, by omega, c⟩
theorem gp_len (v : List Int) : (gp v).length ≤ 199 := fl_len _ _ _
end Go.Proofs.Ytapdhljbhekcdaa.E
end
section
namespace Go.Proofs.Ytapdhljbhekcdaa.E
open Go.RowKit Go.Proofs.YtapdhljbhekcdaaW.PrintWords Go.Proofs.YtapdhljbhekcdaaW.PrintLast Go.Proofs.YtapdhljbhekcdaaW.PrintMore
set_option linter.unusedVariables false
set_option linter.unusedSimpArgs false
noncomputable def gps (v : List Int) : List Int := if SG v then gp v else []
noncomputable def fob (v : List Int) : Int := if (gps v).length = 0 then -1 else rd (gps v) ((gps v).length - 1)
noncomputable def cd (v : List Int) : Int := fob v + 1
theorem gps_len (v : List Int) : (gps v).length ≤ 199 := by
 unfold gps; split
 · exact gp_len v
 · simp
theorem gps_sg {v : List Int} (h : SG v) : gps v = gp v := by unfold gps; rw [if_pos h]
theorem gps_no {v : List Int} (h : ¬ SG v) : gps v = [] := by unfold gps; rw [if_neg h]
theorem fob_some {v : List Int} (h : SG v) (hn : gp v ≠ []) : 1 ≤ fob v ∧ fob v < 200 ∧ ¬ Su v (fob v) ∧ ∀ n, fob v < n → Su v n := by
 obtain ⟨x, a, b, c, e, f⟩ := fl_last (p := isgap v) (i := 1) (d := 199) hn
 have hl : ¬ (gp v).length = 0 := by simpa using hn
 have ex : fob v = x := by
  unfold fob; rw [gps_sg h, if_neg hl]; exact f
 rw [ex]
 refine ⟨a, by omega, isgap_t.1 c, fun n hn => ?_⟩
 by_cases hn' : n < 200
 · have := e n hn (by omega)
   rw [isgap_t] at this
   exact Classical.byContradiction this
 · exact h.ends n (by omega)
theorem fob_none {v : List Int} (h : gps v = []) : fob v = -1 := by unfold fob; rw [h]; rfl
theorem SG.pos {v : List Int} (h : SG v) : ∀ x ∈ v, 1 ≤ x := fun x hx => (h.ul.2 x hx).1
theorem cd_fact {v : List Int} (h : SG v) : 0 ≤ cd v ∧ cd v ≤ 200 ∧ cd v ≠ 1 ∧ (∀ n, cd v ≤ n → Su v n) ∧ ¬ Su v (cd v - 1) := by
 unfold cd
 by_cases hn : gp v = []
 · rw [fob_none (by rw [gps_sg h, hn])]
   refine ⟨by omega, by omega, by omega, fun n hn' => ?_, fun k => by have := k.pos h.pos; omega⟩
   by_cases c : Su v n
   · exact c
   · by_cases e : n = 0
     · rw [e]; exact Su.zero v
     · have : n ∈ gp v := gp_mem.2 ⟨by omega, by
        by_cases c2 : n < 200
        · exact c2
        · exact absurd (h.ends n (by omega)) c, c⟩
       rw [hn] at this; simp at this
 · obtain ⟨a, b, c, e⟩ := fob_some h hn
   exact ⟨by omega, by omega, by omega, fun n hn' => e n (by omega), by rw [show fob v + 1 - 1 = fob v from by omega]; exact c⟩
theorem cd_zero {v : List Int} (h : SG v) : cd v = 0 ↔ (gp v).length = 0 := by
 constructor
 · intro e
   by_cases hn : gp v = []
   · rw [hn]; rfl
   · have := (fob_some h hn).1; unfold cd at e; omega
 · intro e
   have : gp v = [] := by simpa using e
   unfold cd; rw [fob_none (by rw [gps_sg h, this])]; rfl
noncomputable def sml (v : List Int) (m : Int) : List Int := fl (fun n => decide (Su v n)) 0 m.toNat
theorem sml_len (v : List Int) (m : Int) : (sml v m).length ≤ m.toNat := fl_len _ _ _
end Go.Proofs.Ytapdhljbhekcdaa.E
end
section
namespace Go.Proofs.Ytapdhljbhekcdaa.E
open Go.RowKit Go.Proofs.Ytapdhljbhekcdaa.PD Go.Proofs.YtapdhljbhekcdaaW.PrintWords Go.Proofs.YtapdhljbhekcdaaW.PrintLast Go.Proofs.YtapdhljbhekcdaaW.PrintMore
set_option linter.unusedVariables false
set_option linter.unusedSimpArgs false
theorem gapsI_l {v : List Int} (d : Nat) : ∀ (i : Int) (out : List Int), 0 ≤ i → i + d = 201 → (out.length : Int) ≤ i → Ev (fun k => impl_Gaps.l0 k out (stab v 200) 201 i) (out ++ fl (isgap v) i d) := by
 have sl := stab_len (v := v) (m := 200) (by omega)
 induction d with
 | zero =>
  intro i out h0 h1 h2
  refine Ev.step (fun k => by rw [impl_Gaps.l0]) (ev_ifn (by omega) (ev_to (Ev.now _) ?_))
  simp [fl]
 | succ d ih =>
  intro i out h0 h1 h2
  have s := stab_iff (v := v) (m := 200) h0 (by omega)
  refine Ev.step (fun k => by rw [impl_Gaps.l0]) ?_
  rw [w64 (x := i + 1) (by omega) (by omega)]
  by_cases c : Su v i
  · rw [fl_no (by rw [isgap_t]; simpa using c)]
    exact ev_ifp (by omega) (ev_ifp h0 (ev_ifp (by omega) (ev_ifp (s.2 c) (ih (i + 1) out (by omega) (by omega) (by omega)))))
  · rw [fl_yes (isgap_t.2 c)]
    refine ev_ifp (by omega) (ev_ifp h0 (ev_ifp (by omega) (ev_ifn (fun h => c (s.1 h)) (ev_ifp (by omega) (ev_to (ih (i + 1) (out ++ [i]) (by omega) (by omega) (by simp; omega)) ?_)))))
    simp
theorem gapsS_l {v : List Int} (d : Nat) : ∀ (i : Int) (out : List Int), 0 ≤ i → i + d = 200 → (out.length : Int) ≤ i → Ev (fun k => spec_l4Gaps.l0 k out (stab v 200) i) (out ++ fl (isgap v) i d) := by
 have sl := stab_len (v := v) (m := 200) (by omega)
 induction d with
 | zero =>
  intro i out h0 h1 h2
  refine Ev.step (fun k => by rw [spec_l4Gaps.l0]) (ev_ifn (by omega) (ev_to (Ev.now _) ?_))
  simp [fl]
 | succ d ih =>
  intro i out h0 h1 h2
  have s := stab_iff (v := v) (m := 200) h0 (by omega)
  refine Ev.step (fun k => by rw [spec_l4Gaps.l0]) ?_
  rw [w64 (x := i + 1) (by omega) (by omega)]
  by_cases c : Su v i
  · rw [fl_no (by rw [isgap_t]; simpa using c)]
    exact ev_ifp (by omega) (ev_ifp h0 (ev_ifp (by omega) (ev_ifp (s.2 c) (ih (i + 1) out (by omega) (by omega) (by omega)))))
  · rw [fl_yes (isgap_t.2 c)]
    refine ev_ifp (by omega) (ev_ifp h0 (ev_ifp (by omega) (ev_ifn (fun h => c (s.1 h)) (ev_ifp (by omega) (ev_to (ih (i + 1) (out ++ [i]) (by omega) (by omega) (by simp; omega)) ?_)))))
    simp
theorem l4Gaps_ev {v : List Int} (h : SG v) : Ev (fun k => spec_l4Gaps.f k v) (gp v) := by
 unfold spec_l4Gaps.f
 exact ev_bind _ (h.sutabS (by omega) (by omega)) (gapsS_l 199 1 [] (by omega) (by omega) (by simp))
theorem gapsI_ev {v : List Int} (hl : v.length ≤ 1099511627776) : Ev (fun k => impl_Gaps.f k v) (if SG v then gp v else []) := by
 unfold impl_Gaps.f
 refine ev_bind _ (sgI_ev hl) ?_
 by_cases c : SG v
 · rw [if_pos c]
   refine ev_ifp (by simpa using c) (ev_bind _ (c.sutab (by omega) (by omega)) ?_)
   rw [stab_len (by omega), ← gp_wide c]
   exact gapsI_l 201 0 [] (by omega) (by omega) (by simp)
 · rw [if_neg c]; exact ev_ifn (by simpa using c) (Ev.now _)
end Go.Proofs.Ytapdhljbhekcdaa.E
end
section
namespace Go.Proofs.Ytapdhljbhekcdaa.E
open Go.RowKit Go.Proofs.Ytapdhljbhekcdaa.PD Go.Proofs.YtapdhljbhekcdaaW.PrintWords Go.Proofs.YtapdhljbhekcdaaW.PrintLast Go.Proofs.YtapdhljbhekcdaaW.PrintMore
set_option linter.unusedVariables false
set_option linter.unusedSimpArgs false
theorem gapsI_gps {v : List Int} (hl : v.length ≤ 1099511627776) : Ev (fun k => impl_Gaps.f k v) (gps v) := gapsI_ev hl
end Go.Proofs.Ytapdhljbhekcdaa.E
end
section
namespace Go.Proofs.Ytapdhljbhekcdaa.E
open Go.RowKit Go.Proofs.Ytapdhljbhekcdaa.PD Go.Proofs.YtapdhljbhekcdaaW.PrintWords Go.Proofs.YtapdhljbhekcdaaW.PrintLast Go.Proofs.YtapdhljbhekcdaaW.PrintMore
set_option linter.unusedVariables false
set_option linter.unusedSimpArgs false
theorem sortS_asc_l {v : List Int} (hl : v.length ≤ 1048576) (ha : Asc v) (d : Nat) : ∀ i : Int, 0 ≤ i → i + d = v.length → Ev (fun k => spec_SortList.l0 k v (v.take i.toNat) i) v := by
 induction d with
 | zero =>
  intro i h0 h1
  refine Ev.step (fun k => by rw [spec_SortList.l0]) ?_
  rw [List.take_of_length_le (by omega)]
  exact ev_ifn (by omega) (Ev.now _)
 | succ d ih =>
  intro i h0 h1
  have tl := take_len (v := v) (i := i) (by omega) (by omega)
  have nx := ih (i + 1) (by omega) (by omega)
  rw [take_rd h0 (by omega)] at nx
  refine Ev.step (fun k => by rw [spec_SortList.l0]) (ev_ifp (by omega) ?_)
  rw [tl]
  refine Ev.step (fun k => by rw [spec_SortList.l1]) ?_
  simp only [Option.bind_some]
  rw [w64 (x := i - 1) (by omega) (by omega), w64 (x := i + 1) (by omega) (by omega), List.drop_of_length_le (l := v.take i.toNat) (by omega), List.take_of_length_le (l := v.take i.toNat) (by omega)]
  have e0 : ([] : List Int).length + ([] : List Int).length < 17592186044416 := by simp
  have e1 : (v.take i.toNat).length < 17592186044416 := by omega
  have e2 : (v.take i.toNat ++ [rd v i]).length + ([] ++ [] : List Int).length < 17592186044416 := by simp; omega
  by_cases c : i > 0
  · have lt : rd (v.take i.toNat) (i - 1) < rd v i := by
     have e : rd (v.take i.toNat) (i - 1) = rd v (i - 1) := by
      rw [rd_lt (by omega) (by omega), rd_lt (by omega) (by omega), List.getElem_take]
     rw [e]; exact ha i c (by omega)
    refine ev_ifp c (ev_ifp (by omega) (ev_ifp (by omega) (ev_ifp h0 (ev_ifp (by omega) (ev_ifn (by omega) (ev_ifn (by omega) (ev_ifp h0 (ev_ifp (by omega) (ev_ifp e0 (ev_ifp e1 (ev_ifp e2 ?_)))))))))))
    simpa using nx
  · refine ev_ifn c (ev_ifp h0 (ev_ifp (by omega) (ev_ifp e0 (ev_ifp h0 (ev_ifp (by omega) (ev_ifp e1 (ev_ifp e2 ?_)))))))
    simpa using nx
theorem sortS_asc {v : List Int} (hl : v.length ≤ 1048576) (ha : Asc v) : Ev (fun k => spec_SortList.f k v) v := by
 unfold spec_SortList.f
 exact sortS_asc_l hl ha v.length 0 (by omega) (by omega)
theorem min_l {v : List Int} (hu : UL v) (d : Nat) : ∀ (i : Int) (out : List Int), 0 ≤ i → i + d = v.length → ((out = v.take i.toNat ∧ ∀ j : Int, 1 ≤ j → j < i → ¬ Su (v.take j.toNat) (rd v j)) ∨ ((out.length : Int) < i ∧ ¬ ∀ j : Int, 1 ≤ j → j < i → ¬ Su (v.take j.toNat) (rd v j))) →
 ∃ r, r.length ≤ 20 ∧ Ev (fun k => spec_l3Minimal.l0 k out v i) r ∧ (r = v ↔ ∀ j : Int, 1 ≤ j → j < v.length → ¬ Su (v.take j.toNat) (rd v j)) := by
 have hlen := hu.1
 induction d with
 | zero =>
  intro i out h0 h1 h2
  obtain rfl : i = v.length := by omega
  have hE : Ev (fun k => spec_l3Minimal.l0 k out v v.length) out := Ev.step (fun k => by rw [spec_l3Minimal.l0]) (ev_ifn (by omega) (Ev.now _))
  rcases h2 with ⟨e, h⟩ | ⟨e, h⟩
  · rw [List.take_of_length_le (by omega)] at e
    exact ⟨out, by rw [e]; omega, hE, fun _ => h, fun _ => e⟩
  · exact ⟨out, by omega, hE, fun e' => by rw [e'] at e; omega, fun h' => absurd h' h⟩
 | succ d ih =>
  intro i out h0 h1 h2
  have hx := hu.2 _ (rd_mem (l := v) h0 (by omega))
  have tl := take_len (v := v) (i := i) (by omega) (by omega)
  have ol : (out.length : Int) ≤ i := by
   rcases h2 with ⟨e, _⟩ | ⟨e, _⟩
   · rw [e, tl]; exact Int.le_refl _
   · omega
  by_cases c0 : i = 0
  · obtain ⟨r, r1, r2, r3⟩ := ih (i + 1) (out ++ [rd v i]) (by omega) (by omega) (by
     rcases h2 with ⟨e, _⟩ | ⟨e, _⟩
     · exact .inl ⟨by rw [take_rd h0 (by omega), e], fun j hj hj' => by omega⟩
     · omega)
    refine ⟨r, r1, Ev.step (fun k => by rw [spec_l3Minimal.l0]) ?_, r3⟩
    rw [w64 (x := i + 1) (by omega) (by omega)]
    exact ev_ifp (by omega) (ev_ifp c0 (ev_ifp h0 (ev_ifp (by omega) r2)))
  · obtain ⟨t, t1, t2, hE⟩ := tabS_ev (v := v.take i.toNat) (by omega) (take_ul hu.2 _) (most := rd v i) (by omega) (by omega)
    have ht := t2 (rd v i) (by omega) (Int.le_refl _)
    by_cases c : Su (v.take i.toNat) (rd v i)
    · obtain ⟨r, r1, r2, r3⟩ := ih (i + 1) out (by omega) (by omega) (.inr ⟨by omega, fun h => h i (by omega) (by omega) c⟩)
      refine ⟨r, r1, Ev.step (fun k => by rw [spec_l3Minimal.l0]) ?_, r3⟩
      rw [w64 (x := i + 1) (by omega) (by omega)]
      exact ev_ifp (by omega) (ev_ifn c0 (ev_ifp h0 (ev_ifp (by omega) (ev_bind _ hE (ev_ifp (by omega) (ev_ifp (by omega) (ev_ifp (ht.2 c) r2)))))))
    · obtain ⟨r, r1, r2, r3⟩ := ih (i + 1) (out ++ [rd v i]) (by omega) (by omega) (by
       rcases h2 with ⟨e, h⟩ | ⟨e, h⟩
       · refine .inl ⟨by rw [take_rd h0 (by omega), e], fun j hj hj' => ?_⟩
         by_cases ej : j = i
         · rw [ej]; exact c
         · exact h j hj (by omega)
       · refine .inr ⟨by simp; omega, fun h' => h fun j hj hj' => h' j hj (by omega)⟩)
      refine ⟨r, r1, Ev.step (fun k => by rw [spec_l3Minimal.l0]) ?_, r3⟩
      rw [w64 (x := i + 1) (by omega) (by omega)]
      exact ev_ifp (by omega) (ev_ifn c0 (ev_ifp h0 (ev_ifp (by omega) (ev_bind _ hE (ev_ifp (by omega) (ev_ifp (by omega) (ev_ifn (fun h => c (ht.1 h)) (ev_ifp (by omega) r2))))))))
theorem same2_l {l m : List Int} (hl : l.length ≤ 1099511627776) (e : l.length = m.length) (d : Nat) : ∀ (i : Int), 0 ≤ i → i + d = l.length → Ev (fun k => spec_l2Same.l0 k l m i) (decide (l.drop i.toNat = m.drop i.toNat)) := by
 induction d with
 | zero =>
  intro i h0 h1
  refine Ev.step (fun k => by rw [spec_l2Same.l0]) ?_
  refine ev_ifn (by omega) (ev_to (Ev.now _) ?_)
  rw [List.drop_of_length_le (by omega), List.drop_of_length_le (by omega)]; simp
 | succ d ih =>
  intro i h0 h1
  refine Ev.step (fun k => by rw [spec_l2Same.l0]) ?_
  rw [w64 (x := i + 1) (by omega) (by omega), drop_rd h0 (by omega), drop_rd (l := m) h0 (by omega)]
  refine ev_ifp (by omega) (ev_ifp h0 (ev_ifp (by omega) ?_))
  by_cases h : rd l i = rd m i
  · refine ev_ifp h (ev_to (ih (i + 1) (by omega) (by omega)) ?_)
    simp [h]
  · refine ev_ifn h (ev_to (Ev.now _) ?_)
    simp [h]
theorem same2_ev {l m : List Int} (hl : l.length ≤ 1099511627776) : Ev (fun k => spec_l2Same.f k l m) (decide (l = m)) := by
 unfold spec_l2Same.f
 by_cases e : l.length = m.length
 · refine ev_ifp (by omega) (ev_to (same2_l hl e l.length 0 (by omega) (by omega)) ?_)
   simp
 · refine ev_ifn (by omega) (ev_to (Ev.now _) ?_)
   simp; intro h; exact e (by rw [h])
theorem endsS_l {v : List Int} (hu : UL v) {t : List Bool} (t1 : (t.length : Int) = 261) (t2 : ∀ j, 0 ≤ j → j ≤ 260 → (rdOf false t j = true ↔ Su v j)) (d : Nat) : ∀ i : Int, 200 ≤ i → i + d = 200 + rd v 0 → ∃ r : Bool, Ev (fun k => spec_l3Ends.l0 k v t i) r ∧ (r = true ↔ ∀ n, i ≤ n → n < 200 + rd v 0 → Su v n) := by
 have f := hu.first
 have hlen := hu.1
 induction d with
 | zero =>
  intro i h0 h1
  refine ⟨true, Ev.step (fun k => by rw [spec_l3Ends.l0]) ?_, fun _ n hn hn' => by omega, fun _ => rfl⟩
  rw [w64 (x := 200 + rd v 0) (by omega) (by omega)]
  exact ev_ifp (by omega) (ev_ifn (by omega) (Ev.now _))
 | succ d ih =>
  intro i h0 h1
  have ht := t2 i (by omega) (by omega)
  by_cases c : Su v i
  · obtain ⟨r, hE, hr⟩ := ih (i + 1) (by omega) (by omega)
    refine ⟨r, Ev.step (fun k => by rw [spec_l3Ends.l0]) ?_, ?_⟩
    · rw [w64 (x := 200 + rd v 0) (by omega) (by omega), w64 (x := i + 1) (by omega) (by omega)]
      exact ev_ifp (by omega) (ev_ifp (by omega) (ev_ifp (by omega) (ev_ifp (by omega) (ev_ifp (ht.2 c) hE))))
    · rw [hr]
      constructor
      · intro h n hn hn'
        by_cases e : n = i
        · rw [e]; exact c
        · exact h n (by omega) hn'
      · intro h n hn hn'; exact h n (by omega) hn'
  · refine ⟨false, Ev.step (fun k => by rw [spec_l3Ends.l0]) ?_, fun h => (by cases h), fun h => absurd (h i (Int.le_refl _) (by omega)) c⟩
    rw [w64 (x := 200 + rd v 0) (by omega) (by omega)]
    exact ev_ifp (by omega) (ev_ifp (by omega) (ev_ifp (by omega) (ev_ifp (by omega) (ev_ifn (fun h => c (ht.1 h)) (Ev.now _)))))
theorem sgS_ev {v : List Int} (hl : v.length ≤ 1099511627776) : Ev (fun k => spec_IsSemigroup.f k v) (decide (SG v)) := by
 unfold spec_IsSemigroup.f
 by_cases hu : UL v
 · refine ev_bind _ (gensS_ev hl) (ev_ifp (by simpa using hu) ?_)
   by_cases c1 : (v.length : Int) ≤ 12
   · refine ev_ifp c1 ?_
     by_cases c3 : Asc v
     · refine ev_bind _ (ascS_ev hl) (ev_ifp (by simpa using c3) (ev_bind _ (gcdListS_ev hl) ?_))
       by_cases c4 : gl v = 1
       · have hlen := hu.1
         obtain ⟨f1, f2, f3⟩ := hu.first
         obtain ⟨r, r1, r2, r3⟩ := min_l hu v.length 0 [] (by omega) (by omega) (.inl ⟨by simp, fun j hj hj' => by omega⟩)
         refine ev_ifp c4 (ev_bind r ?_ (ev_bind _ (same2_ev (l := r) (m := v) (by omega)) ?_))
         · unfold spec_l3Minimal.f
           exact ev_bind _ (sortS_asc (by omega) c3) r2
         · by_cases c5 : r = v
           · obtain ⟨t, t1, t2, hE⟩ := tabS_ev (v := v) (by omega) hu.2 (most := 260) (by omega) (by omega)
             obtain ⟨b, b1, b2⟩ := endsS_l hu (by omega) t2 (rd v 0).toNat 200 (by omega) (by omega)
             refine ev_ifp (by simpa using c5) (ev_bind b ?_ (ev_to (Ev.now _) ?_))
             · unfold spec_l3Ends.f
               exact ev_bind _ hE b1
             · rw [Bool.eq_iff_iff, b2, ← ends_iff f2 (Su.mem f1), decide_eq_true_eq]
               exact ⟨fun h => ⟨hu, c1, c3, c4, r3.1 c5, h⟩, fun h => h.ends⟩
           · exact ev_ifn (by simpa using c5) (ev_to (Ev.now _) (decide_eq_false (fun h => c5 (r3.2 h.min))).symm)
       · exact ev_ifn c4 (ev_to (Ev.now _) (decide_eq_false (fun h => c4 h.gcd)).symm)
     · exact ev_bind _ (ascS_ev hl) (ev_ifn (by simpa using c3) (ev_to (Ev.now _) (decide_eq_false (fun h => c3 h.asc)).symm))
   · exact ev_ifn c1 (ev_to (Ev.now _) (decide_eq_false (fun h => c1 h.len)).symm)
 · exact ev_bind _ (gensS_ev hl) (ev_ifn (by simpa using hu) (ev_to (Ev.now _) (decide_eq_false (fun h => hu h.ul)).symm))
end Go.Proofs.Ytapdhljbhekcdaa.E
end
section
namespace Go.Proofs.Ytapdhljbhekcdaa.E
open Go.RowKit Go.Proofs.Ytapdhljbhekcdaa.PD Go.Proofs.YtapdhljbhekcdaaW.PrintWords Go.Proofs.YtapdhljbhekcdaaW.PrintLast Go.Proofs.YtapdhljbhekcdaaW.PrintMore
set_option linter.unusedVariables false
set_option linter.unusedSimpArgs false
theorem gapsS_gps {v : List Int} (hl : v.length ≤ 1099511627776) : Ev (fun k => spec_Gaps.f k v) (gps v) := by
 unfold spec_Gaps.f
 refine ev_bind _ (sgS_ev hl) ?_
 by_cases c : SG v
 · rw [gps_sg c]; exact ev_ifp (by simpa using c) (ev_bind _ (l4Gaps_ev c) (Ev.now _))
 · rw [gps_no c]; exact ev_ifn (by simpa using c) (Ev.now _)
theorem frI_ev {v : List Int} (hl : v.length ≤ 1099511627776) : Ev (fun k => impl_FrobeniusOf.f k v) (fob v) := by
 have g := gps_len v
 unfold impl_FrobeniusOf.f fob
 refine ev_bind _ (gapsI_gps hl) ?_
 by_cases c : (gps v).length = 0
 · rw [if_pos c]; exact ev_ifp (by omega) (Ev.now _)
 · rw [if_neg c, w64 (x := ((gps v).length : Int) - 1) (by omega) (by omega)]
   exact ev_ifn (by omega) (ev_ifp (by omega) (ev_ifp (by omega) (Ev.now _)))
theorem frS_ev {v : List Int} (hl : v.length ≤ 1099511627776) : Ev (fun k => spec_FrobeniusOf.f k v) (fob v) := by
 have g := gps_len v
 unfold spec_FrobeniusOf.f fob
 refine ev_bind _ (gapsS_gps hl) ?_
 by_cases c : (gps v).length = 0
 · rw [if_pos c]; exact ev_ifp (by omega) (Ev.now _)
 · rw [if_neg c, w64 (x := ((gps v).length : Int) - 1) (by omega) (by omega)]
   exact ev_ifn (by omega) (ev_ifp (by omega) (ev_ifp (by omega) (Ev.now _)))
theorem fob_small (v : List Int) : -1 ≤ fob v ∧ fob v ≤ 199 := by
 by_cases c : SG v
 · have := cd_fact c; unfold cd at this; omega
 · rw [fob_none (gps_no c)]; omega
end Go.Proofs.Ytapdhljbhekcdaa.E
end
section
namespace Go.Proofs.Ytapdhljbhekcdaa.E
open Go.RowKit Go.Proofs.Ytapdhljbhekcdaa.PD Go.Proofs.YtapdhljbhekcdaaW.PrintWords Go.Proofs.YtapdhljbhekcdaaW.PrintLast Go.Proofs.YtapdhljbhekcdaaW.PrintMore
set_option linter.unusedVariables false
set_option linter.unusedSimpArgs false
theorem cdI_ev {v : List Int} (hl : v.length ≤ 1099511627776) : Ev (fun k => impl_ConductorOf.f k v) (cd v) := by
 have := fob_small v
 unfold impl_ConductorOf.f cd
 refine ev_bind _ (frI_ev hl) ?_
 rw [w64 (by omega) (by omega)]; exact Ev.now _
theorem cdS_ev {v : List Int} (hl : v.length ≤ 1099511627776) : Ev (fun k => spec_ConductorOf.f k v) (cd v) := by
 have := fob_small v
 unfold spec_ConductorOf.f cd
 refine ev_bind _ (frS_ev hl) ?_
 rw [w64 (by omega) (by omega)]; exact Ev.now _
end Go.Proofs.Ytapdhljbhekcdaa.E
end
section
namespace Go.Proofs.Ytapdhljbhekcdaa.E
open Go.RowKit Go.Proofs.Ytapdhljbhekcdaa.PD Go.Proofs.YtapdhljbhekcdaaW.PrintWords Go.Proofs.YtapdhljbhekcdaaW.PrintLast Go.Proofs.YtapdhljbhekcdaaW.PrintMore
set_option linter.unusedVariables false
set_option linter.unusedSimpArgs false
theorem depth_ev {v : List Int} (hl : v.length ≤ 1099511627776) : ∃ r, Ev (fun k => impl_DepthOf.f k v) r ∧ Ev (fun k => spec_DepthOf.f k v) r := by
 unfold impl_DepthOf.f spec_DepthOf.f
 by_cases c : SG v
 · have f := c.ul.first
   have hlen := c.ul.1
   obtain ⟨_, fa, fb⟩ := f
   exact ⟨_, ev_bind _ (sgI_ev hl) (ev_ifp (by simpa using c) (ev_bind _ (cdI_ev hl) (ev_ifp (by omega) (ev_ifn (by omega) (Ev.now _))))), ev_bind _ (sgS_ev hl) (ev_ifp (by simpa using c) (ev_bind _ (cdS_ev hl) (ev_ifp (by omega) (ev_ifn (by omega) (Ev.now _)))))⟩
 · exact ⟨-1, ev_bind _ (sgI_ev hl) (ev_ifn (by simpa using c) (Ev.now _)), ev_bind _ (sgS_ev hl) (ev_ifn (by simpa using c) (Ev.now _))⟩
end Go.Proofs.Ytapdhljbhekcdaa.E
end
section
namespace Go.Proofs.Ytapdhljbhekcdaa.E
open Go.RowKit Go.Proofs.Ytapdhljbhekcdaa.PD Go.Proofs.YtapdhljbhekcdaaW.PrintWords Go.Proofs.YtapdhljbhekcdaaW.PrintLast Go.Proofs.YtapdhljbhekcdaaW.PrintMore
set_option linter.unusedVariables false
set_option linter.unusedSimpArgs false
theorem and255 (a : Int) : 0 ≤ Go.bits .and .i64 a 255 ∧ Go.bits .and .i64 a 255 ≤ 255 := by
 have h : ((BitVec.ofInt 64 a &&& BitVec.ofInt 64 255).toNat : Nat) ≤ 255 := by
  rw [BitVec.toNat_and]
  exact Nat.le_trans Nat.and_le_right (by decide)
 show 0 ≤ IntKind.i64.wrap ((BitVec.ofInt 64 a &&& BitVec.ofInt 64 255).toNat : Int) ∧ IntKind.i64.wrap ((BitVec.ofInt 64 a &&& BitVec.ofInt 64 255).toNat : Int) ≤ 255
 rw [Go.IntKind.wrap_i64]
 omega
def Cu (b : List Int) (i : Int) : Prop := 0 ≤ i ∧ i ≤ b.length ∧ (b.length : Int) ≤ 1099511627776
theorem byte_ok {b : List Int} {i : Int} (h : Int) (c : Cu b i) : ∃ x j g, spec_l1Byte.f b i h = some (x, j, g) ∧ (0 ≤ x ∧ x ≤ 255) ∧ Cu b j := by
 obtain ⟨c1, c2, c3⟩ := c
 unfold spec_l1Byte.f
 by_cases e : i < b.length
 · rw [if_pos e, if_pos c1, w64 (x := i + 1) (by omega) (by omega)]
   exact ⟨_, _, _, rfl, and255 _, by omega, by omega, c3⟩
 · rw [if_neg e]
   exact ⟨_, _, _, rfl, and255 _, c1, c2, c3⟩
theorem below_ok {b : List Int} {i : Int} (h : Int) (c : Cu b i) {n : Int} (hn : 0 < n) : ∃ x j g, spec_l1Below.f b i h n = some (x, j, g) ∧ (0 ≤ x ∧ x < n) ∧ Cu b j := by
 unfold spec_l1Below.f
 rw [if_neg (by omega)]
 by_cases e : n ≤ 256
 · obtain ⟨x, j, g, e1, hx, c'⟩ := byte_ok h c
   rw [if_pos e, e1]
   simp only [Option.bind_some]
   rw [if_neg (by omega), Int.tmod_eq_emod_of_nonneg hx.1]
   exact ⟨_, _, _, rfl, ⟨Int.emod_nonneg _ (by omega), Int.emod_lt_of_pos _ hn⟩, c'⟩
 · obtain ⟨x, j, g, e1, hx, c1⟩ := byte_ok h c
   obtain ⟨y, j2, g2, e2, hy, c2⟩ := byte_ok g c1
   obtain ⟨z, j3, g3, e3, hz, c3⟩ := byte_ok g2 c2
   obtain ⟨u, j4, g4, e4, hu, c4⟩ := byte_ok g3 c3
   rw [if_neg e, e1]
   simp only [Option.bind_some]
   rw [e2]
   simp only [Option.bind_some]
   rw [e3]
   simp only [Option.bind_some]
   rw [e4]
   simp only [Option.bind_some]
   rw [if_neg (by omega), w64 (x := x * 16777216) (by omega) (by omega), w64 (x := y * 65536) (by omega) (by omega), w64 (x := z * 256) (by omega) (by omega), w64 (x := x * 16777216 + y * 65536) (by omega) (by omega), w64 (x := x * 16777216 + y * 65536 + z * 256) (by omega) (by omega), w64 (x := x * 16777216 + y * 65536 + z * 256 + u) (by omega) (by omega), Int.tmod_eq_emod_of_nonneg (by omega)]
   exact ⟨_, _, _, rfl, ⟨Int.emod_nonneg _ (by omega), Int.emod_lt_of_pos _ hn⟩, c4⟩
theorem pick_ok {b : List Int} {i : Int} (h : Int) (c : Cu b i) {l : List Int} (hl : 0 < (l.length : Int)) : ∃ x j g, spec_l1PickInt.f b i h l = some (x, j, g) ∧ x ∈ l ∧ Cu b j := by
 obtain ⟨x, j, g, e, hx, c'⟩ := below_ok h c hl
 unfold spec_l1PickInt.f
 rw [e]
 simp only [Option.bind_some]
 rw [if_pos hx.1, if_pos hx.2]
 exact ⟨_, _, _, rfl, rd_mem hx.1 hx.2, c'⟩
theorem new_l {b : List Int} (hb : (b.length : Int) ≤ 1099511627776) (d : Nat) : ∀ i h : Int, 0 ≤ i → i + d = max i (min 4000 b.length) → ∃ g, Ev (fun k => spec_l1New.l0 k b h i) (b, 0, g) := by
 induction d with
 | zero =>
  intro i h h0 h1
  refine ⟨h, Ev.step (fun k => by rw [spec_l1New.l0]) ?_⟩
  by_cases c : i < b.length
  · exact ev_ifp c (ev_ifn (by omega) (Ev.now _))
  · exact ev_ifn c (Ev.now _)
 | succ d ih =>
  intro i h h0 h1
  obtain ⟨g, hE⟩ := ih (i + 1) (Go.bits .and .i64 (wrap64 ((wrap64 ((wrap64 (h * 131)) + (wrap64 (rd b i)))) + 7)) 1073741823) (by omega) (by omega)
  refine ⟨g, Ev.step (fun k => by rw [spec_l1New.l0]) ?_⟩
  rw [w64 (x := i + 1) (by omega) (by omega)]
  exact ev_ifp (by omega) (ev_ifp (by omega) (ev_ifp h0 hE))
theorem new_ev {b : List Int} (hb : (b.length : Int) ≤ 1099511627776) : ∃ g, Ev (fun k => spec_l1New.f k b) (b, 0, g) ∧ Cu b 0 := by
 obtain ⟨g, hE⟩ := new_l hb (min 4000 b.length) 0 (wrap64 (26583 + (b.length : Int))) (by omega) (by omega)
 exact ⟨g, hE, by omega, by omega, hb⟩
end Go.Proofs.Ytapdhljbhekcdaa.E
end
section
namespace Go.Proofs.Ytapdhljbhekcdaa.E
open Go.RowKit Go.Proofs.YtapdhljbhekcdaaW.PrintWords Go.Proofs.YtapdhljbhekcdaaW.PrintLast Go.Proofs.YtapdhljbhekcdaaW.PrintMore
set_option linter.unusedVariables false
set_option linter.unusedSimpArgs false
theorem asc_lt {g : List Int} (h : Asc g) (d : Nat) : ∀ i j : Int, 0 ≤ i → j = i + d + 1 → j < g.length → rd g i < rd g j := by
 induction d with
 | zero =>
  intro i j h0 h1 h2
  have := h j (by omega) h2
  rwa [show j - 1 = i from by omega] at this
 | succ d ih =>
  intro i j h0 h1 h2
  have a := ih i (j - 1) h0 (by omega) (by omega)
  have b := h j (by omega) h2
  omega
end Go.Proofs.Ytapdhljbhekcdaa.E
end
section
namespace Go.Proofs.Ytapdhljbhekcdaa.E
open Go.RowKit Go.Proofs.Ytapdhljbhekcdaa.PD Go.Proofs.YtapdhljbhekcdaaW.PrintWords Go.Proofs.YtapdhljbhekcdaaW.PrintLast Go.Proofs.YtapdhljbhekcdaaW.PrintMore
set_option linter.unusedVariables false
set_option linter.unusedSimpArgs false
def pw (l : List Int) : Prop := l.Pairwise (· < ·)
theorem pw_asc {l : List Int} (h : pw l) : Asc l := by
 induction l with
 | nil => intro i h0 h1; simp at h1; omega
 | cons x l ih => exact asc_cons (List.pairwise_cons.1 h).1 (ih (List.pairwise_cons.1 h).2)
theorem pw_eq : ∀ {a b : List Int}, pw a → pw b → (∀ z, z ∈ a ↔ z ∈ b) → a = b
 | [], [], _, _, _ => rfl
 | [], y :: b, _, _, h => absurd ((h y).2 (List.mem_cons_self ..)) (by simp)
 | x :: a, [], _, _, h => absurd ((h x).1 (List.mem_cons_self ..)) (by simp)
 | x :: a, y :: b, ha, hb, h => by
  have ha' := List.pairwise_cons.1 ha
  have hb' := List.pairwise_cons.1 hb
  have e : x = y := by
   rcases List.mem_cons.1 ((h x).1 (List.mem_cons_self ..)) with k | k
   · exact k
   · rcases List.mem_cons.1 ((h y).2 (List.mem_cons_self ..)) with q | q
     · exact q.symm
     · have := ha'.1 y q; have := hb'.1 x k; omega
  subst e
  refine congrArg (x :: ·) (pw_eq ha'.2 hb'.2 fun z => ⟨fun k => ?_, fun k => ?_⟩)
  · rcases List.mem_cons.1 ((h z).1 (List.mem_cons_of_mem _ k)) with q | q
    · have := ha'.1 z k; omega
    · exact q
  · rcases List.mem_cons.1 ((h z).2 (List.mem_cons_of_mem _ k)) with q | q
    · have := hb'.1 z k; omega
    · exact q
def ins1 (x : Int) : List Int → List Int
 | [] => [x]
 | y :: l => if x < y then x :: y :: l else if x = y then y :: l else y :: ins1 x l
theorem ins1_mem {x z : Int} : ∀ {l : List Int}, z ∈ ins1 x l ↔ z = x ∨ z ∈ l
 | [] => by simp [ins1]
 | y :: l => by
  unfold ins1
  split
  · simp
  · split
    · rename_i e; subst e; simp
    · rw [List.mem_cons, ins1_mem, List.mem_cons]; constructor
      · rintro (a | a | a)
        · exact .inr (.inl a)
        · exact .inl a
        · exact .inr (.inr a)
      · rintro (a | a | a)
        · exact .inr (.inl a)
        · exact .inl a
        · exact .inr (.inr a)
theorem ins1_pw {x : Int} : ∀ {l : List Int}, pw l → pw (ins1 x l)
 | [], _ => by simp [ins1, pw]
 | y :: l, h => by
  have h' := List.pairwise_cons.1 h
  unfold ins1
  split
  · rename_i c
    refine List.pairwise_cons.2 ⟨fun z hz => ?_, h⟩
    rcases List.mem_cons.1 hz with rfl | k
    · exact c
    · have := h'.1 z k; omega
  · split
    · exact h
    · rename_i c e
      refine List.pairwise_cons.2 ⟨fun z hz => ?_, ins1_pw h'.2⟩
      rcases ins1_mem.1 hz with rfl | k
      · omega
      · exact h'.1 z k
def srt (l : List Int) : List Int := l.foldr ins1 []
theorem srt_mem {z : Int} : ∀ {l : List Int}, z ∈ srt l ↔ z ∈ l
 | [] => by simp [srt]
 | x :: l => by
  have := srt_mem (z := z) (l := l)
  unfold srt at this ⊢
  rw [List.foldr_cons, ins1_mem, this, List.mem_cons]
theorem srt_pw : ∀ l : List Int, pw (srt l)
 | [] => by simp [srt, pw]
 | x :: l => by have := srt_pw l; unfold srt at this ⊢; rw [List.foldr_cons]; exact ins1_pw this
theorem ins1_len {x : Int} : ∀ {l : List Int}, (ins1 x l).length ≤ l.length + 1
 | [] => by simp [ins1]
 | y :: l => by
  have := ins1_len (x := x) (l := l)
  unfold ins1
  split
  · simp
  · split <;> simp <;> omega
theorem srt_len : ∀ l : List Int, (srt l).length ≤ l.length
 | [] => by simp [srt]
 | x :: l => by
  have := srt_len l
  have h := ins1_len (x := x) (l := srt l)
  unfold srt at this h ⊢
  rw [List.foldr_cons, List.length_cons]; omega
theorem pw_put {l : List Int} {x : Int} {p : Nat} (h : pw l) (lo : ∀ z ∈ l.take p, z < x) (hi : ∀ z ∈ l.drop p, x < z) : pw (l.take p ++ [x] ++ l.drop p) := by
 unfold pw at h ⊢
 rw [List.append_assoc]
 refine List.pairwise_append.2 ⟨h.sublist (List.take_sublist ..), List.pairwise_append.2 ⟨by simp, h.sublist (List.drop_sublist ..), fun a ha b hb => ?_⟩, fun a ha b hb => ?_⟩
 · rw [List.mem_singleton] at ha; subst ha; exact hi b hb
 · rcases List.mem_append.1 hb with q | q
   · rw [List.mem_singleton] at q; subst q; exact lo a ha
   · have := lo a ha; have := hi b q; omega
theorem srt_l1 {l : List Int} (hl : l.length ≤ 1048576) {i : Int} (h0 : 0 ≤ i) (hi : i < l.length) {x3 : List Int} (h3 : pw x3) (hn : (x3.length : Int) ≤ i) {r : List Int} (N : ∀ y, pw y → (y.length : Int) ≤ i + 1 → (∀ z, z ∈ y ↔ z ∈ x3 ∨ z = rd l i) → Ev (fun k => spec_SortList.l0 k l y (i + 1)) r) (d : Nat) : ∀ p : Int, p = d → p ≤ x3.length → (∀ z ∈ x3.drop p.toNat, rd l i < z) → Ev (fun k => spec_SortList.l1 k l x3 i p) r := by
 have put : ∀ p : Int, 0 ≤ p → p ≤ x3.length → (∀ z ∈ x3.take p.toNat, z < rd l i) → (∀ z ∈ x3.drop p.toNat, rd l i < z) → Ev (fun k => spec_SortList.l0 k l (x3.take p.toNat ++ [rd l i] ++ ([] ++ x3.drop p.toNat)) (i + 1)) r := fun p p0 p1 a b => by
  rw [List.nil_append]
  refine N _ (pw_put h3 a b) ?_ fun z => ?_
  · have := take_len p0 p1
    rw [List.length_append, List.length_append, List.length_singleton, List.length_drop]; omega
  · have e := List.take_append_drop p.toNat x3
    constructor
    · intro k
      rcases List.mem_append.1 k with k | k
      · rcases List.mem_append.1 k with k | k
        · exact .inl (List.mem_of_mem_take k)
        · exact .inr (List.mem_singleton.1 k)
      · exact .inl (List.mem_of_mem_drop k)
    · rintro (k | k)
      · rw [← e] at k
        rcases List.mem_append.1 k with k | k
        · exact List.mem_append_left _ (List.mem_append_left _ k)
        · exact List.mem_append_right _ k
      · exact List.mem_append_left _ (List.mem_append_right _ (List.mem_singleton.2 k))
 have w1 := w64 (x := i + 1) (by omega) (by omega)
 induction d with
 | zero =>
  intro p hp hp' hh
  have pt := put p (by omega) hp' (fun z hz => by rw [show p.toNat = 0 from by omega] at hz; simp at hz) hh
  have tl := take_len (v := x3) (i := p) (by omega) hp'
  refine Ev.step (fun k => by rw [spec_SortList.l1]) (ev_ifn (by omega) ?_)
  simp only [Option.bind_some]
  rw [w1]
  have dl : (x3.drop p.toNat).length ≤ x3.length := by rw [List.length_drop]; omega
  refine ev_ifp (by omega) (ev_ifp (by omega) (ev_ifp (by simp only [List.length_nil]; omega) (ev_ifp (by omega) (ev_ifp (by omega) (ev_ifp (by omega) (ev_ifp (by simp only [List.length_append, List.length_nil, List.length_singleton]; omega) pt))))))
 | succ d ih =>
  intro p hp hp' hh
  have dr := drop_rd (l := x3) (i := p - 1) (by omega) (by omega)
  rw [show p - 1 + 1 = p from by omega] at dr
  have tl := take_len (v := x3) (i := p) (by omega) hp'
  have dl : (x3.drop p.toNat).length ≤ x3.length := by rw [List.length_drop]; omega
  refine Ev.step (fun k => by rw [spec_SortList.l1]) (ev_ifp (by omega) ?_)
  rw [w64 (x := p - 1) (by omega) (by omega), w1]
  refine ev_ifp (by omega) (ev_ifp (by omega) (ev_ifp (by omega) (ev_ifp (by omega) ?_)))
  by_cases c : rd x3 (p - 1) > rd l i
  · exact ev_ifp c (ih (p - 1) (by omega) (by omega) (fun z hz => by
     rw [dr] at hz
     rcases List.mem_cons.1 hz with rfl | k
     · exact c
     · exact hh z k))
  · refine ev_ifn c ?_
    by_cases e : rd x3 (p - 1) = rd l i
    · refine ev_ifp e (N x3 h3 (by omega) fun z => ⟨fun k => .inl k, fun k => ?_⟩)
      rcases k with k | k
      · exact k
      · rw [k, ← e]; exact rd_mem (by omega) (by omega)
    · have pt := put p (by omega) hp' (fun z hz => by
       obtain ⟨j, j0, j1, j2⟩ := mem_rd hz
       rw [tl] at j1
       rw [← j2, rd_lt j0 (by rw [tl]; exact j1), List.getElem_take]
       rw [show x3[j.toNat]'(by omega) = rd x3 j from (rd_lt j0 (by omega)).symm]
       by_cases q : j = p - 1
       · rw [q]; omega
       · have := asc_lt (pw_asc h3) (p - 1 - j - 1).toNat j (p - 1) j0 (by omega) (by omega)
         omega) hh
      refine ev_ifn e ?_
      simp only [Option.bind_some]
      refine ev_ifp (by omega) (ev_ifp (by omega) (ev_ifp (by simp only [List.length_nil]; omega) (ev_ifp (by omega) (ev_ifp (by simp only [List.length_append, List.length_nil, List.length_singleton]; omega) pt))))
theorem srt_l0 {l : List Int} (hl : l.length ≤ 1048576) (d : Nat) : ∀ (i : Int) (x3 : List Int), 0 ≤ i → i + d = l.length → pw x3 → (x3.length : Int) ≤ i → (∀ z, z ∈ x3 ↔ z ∈ l.take i.toNat) → Ev (fun k => spec_SortList.l0 k l x3 i) (srt l) := by
 induction d with
 | zero =>
  intro i x3 h0 h1 h3 h4 h5
  refine Ev.step (fun k => by rw [spec_SortList.l0]) (ev_ifn (by omega) (ev_to (Ev.now _) ?_))
  rw [show i.toNat = l.length from by omega, List.take_length] at h5
  exact pw_eq h3 (srt_pw l) fun z => by rw [h5, srt_mem]
 | succ d ih =>
  intro i x3 h0 h1 h3 h4 h5
  refine Ev.step (fun k => by rw [spec_SortList.l0]) (ev_ifp (by omega) (srt_l1 hl h0 (by omega) h3 h4 (fun y y1 y2 y3 => ih (i + 1) y (by omega) (by omega) y1 y2 fun z => ?_) x3.length x3.length rfl (Int.le_refl _) (fun z hz => by simp at hz)))
  rw [y3, h5, take_rd h0 (by omega), List.mem_append, List.mem_singleton]
theorem sortS_srt {l : List Int} (hl : l.length ≤ 1048576) : Ev (fun k => spec_SortList.f k l) (srt l) :=
 srt_l0 hl l.length 0 [] (by omega) (by omega) (by simp [pw]) (by simp) (fun z => by simp)
end Go.Proofs.Ytapdhljbhekcdaa.E
end
section
namespace Go.Proofs.Ytapdhljbhekcdaa.E
open Go.RowKit Go.Proofs.Ytapdhljbhekcdaa.PD Go.Proofs.YtapdhljbhekcdaaW.PrintWords Go.Proofs.YtapdhljbhekcdaaW.PrintLast Go.Proofs.YtapdhljbhekcdaaW.PrintMore
set_option linter.unusedVariables false
set_option linter.unusedSimpArgs false
theorem Su.all {v u : List Int} (h : ∀ x ∈ u, Su v x) {n : Int} (k : Su u n) : Su v n := by
 obtain ⟨c, w⟩ := k
 induction w with
 | zero => exact Su.zero v
 | add hx _ ih => exact ih.add (h _ hx)
noncomputable def mnk (u : List Int) : Nat → List Int
 | 0 => []
 | i + 1 => if Su (u.take i) (rd u i) then mnk u i else mnk u i ++ [rd u i]
theorem mnk_yes {u : List Int} {i : Nat} (c : Su (u.take i) (rd u i)) : mnk u (i + 1) = mnk u i := if_pos c
theorem mnk_no {u : List Int} {i : Nat} (c : ¬ Su (u.take i) (rd u i)) : mnk u (i + 1) = mnk u i ++ [rd u i] := if_neg c
theorem su_nil {n : Int} (h : Su [] n) : n = 0 := by
 obtain ⟨c, w⟩ := h
 cases w with
 | zero => rfl
 | add hm _ => simp at hm
theorem mnk_len (u : List Int) (i : Nat) : (mnk u i).length ≤ i := by
 induction i with
 | zero => exact Nat.le_refl 0
 | succ i ih =>
  unfold mnk
  split
  · omega
  · rw [List.length_append, List.length_singleton]; omega
theorem mnk_mem {u : List Int} (i : Nat) : i ≤ u.length → ∀ x ∈ mnk u i, x ∈ u.take i := by
 induction i with
 | zero => intro _ x hx; exact absurd hx (by rw [show mnk u 0 = [] from rfl]; simp)
 | succ i ih =>
  intro hi x hx
  have tr := take_rd (l := u) (i := i) (by omega) (by omega)
  rw [show ((i : Int) + 1).toNat = i + 1 from by omega, show (i : Int).toNat = i from by omega] at tr
  rw [tr, List.mem_append, List.mem_singleton]
  unfold mnk at hx
  split at hx
  · exact .inl (ih (by omega) x hx)
  · rcases List.mem_append.1 hx with k | k
    · exact .inl (ih (by omega) x k)
    · exact .inr (List.mem_singleton.1 k)
theorem srt_ul {l : List Int} (h : UL l) : UL (srt l) := by
 have hl := h.1
 refine ⟨⟨?_, by have := srt_len l; omega⟩, fun x hx => h.2 x (srt_mem.1 hx)⟩
 have := List.length_pos_of_mem (srt_mem.2 h.first.1)
 omega
theorem min_mnk {u : List Int} (hu : UL u) (d : Nat) : ∀ i : Nat, i + d = u.length → Ev (fun k => spec_l3Minimal.l0 k (mnk u i) u i) (mnk u u.length) := by
 have hlen := hu.1
 induction d with
 | zero =>
  intro i hi
  rw [show i = u.length from by omega]
  exact Ev.step (fun k => by rw [spec_l3Minimal.l0]) (ev_ifn (by omega) (Ev.now _))
 | succ d ih =>
  intro i hi
  have nx := ih (i + 1) (by omega)
  have ml := mnk_len u i
  have hx := hu.2 _ (rd_mem (l := u) (i := (i : Int)) (by omega) (by omega))
  refine Ev.step (fun k => by rw [spec_l3Minimal.l0]) ?_
  rw [w64 (x := (i : Int) + 1) (by omega) (by omega)]
  rw [show (((i + 1 : Nat)) : Int) = (i : Int) + 1 from by omega] at nx
  by_cases c0 : (i : Int) = 0
  · have : i = 0 := by omega
    subst this
    rw [mnk_no (i := 0) (fun c => by rw [List.take_zero] at c; have := su_nil c; omega)] at nx
    exact ev_ifp (by omega) (ev_ifp c0 (ev_ifp (by omega) (ev_ifp (by omega) nx)))
  · have tl := take_len (v := u) (i := (i : Int)) (by omega) (by omega)
    obtain ⟨t, t1, t2, hE⟩ := tabS_ev (v := u.take (i : Int).toNat) (by omega) (take_ul hu.2 _) (most := rd u (i : Int)) (by omega) (by omega)
    have ht := t2 (rd u (i : Int)) (by omega) (Int.le_refl _)
    rw [show (i : Int).toNat = i from by omega] at ht hE
    rw [show (i : Int).toNat = i from by omega]
    by_cases c : Su (u.take i) (rd u (i : Int))
    · rw [mnk_yes c] at nx
      exact ev_ifp (by omega) (ev_ifn c0 (ev_ifp (by omega) (ev_ifp (by omega) (ev_bind _ hE (ev_ifp (by omega) (ev_ifp (by omega) (ev_ifp (ht.2 c) nx)))))))
    · rw [mnk_no c] at nx
      exact ev_ifp (by omega) (ev_ifn c0 (ev_ifp (by omega) (ev_ifp (by omega) (ev_bind _ hE (ev_ifp (by omega) (ev_ifp (by omega) (ev_ifn (fun h => c (ht.1 h)) (ev_ifp (by omega) nx))))))))
noncomputable def mns (l : List Int) : List Int := mnk (srt l) (srt l).length
theorem mns_len {l : List Int} : (mns l).length ≤ l.length := Nat.le_trans (mnk_len _ _) (srt_len l)
theorem mns_mem {l : List Int} : ∀ x ∈ mns l, x ∈ l := fun x hx => srt_mem.1 (List.mem_of_mem_take (mnk_mem _ (Nat.le_refl _) x hx))
theorem l3Minimal_ev {l : List Int} (h : UL l) : Ev (fun k => spec_l3Minimal.f k l) (mns l) := by
 unfold spec_l3Minimal.f
 have := min_mnk (srt_ul h) (srt l).length 0 (by omega)
 exact ev_bind _ (sortS_srt (by have := h.1; omega)) this
def FN (l : List Int) : Prop := UL l ∧ SG (mns l)
noncomputable instance (l : List Int) : Decidable (FN l) := Classical.propDecidable _
noncomputable def fns (l : List Int) : List Int × Bool := if FN l then (mns l, true) else ([], false)
theorem fromGensS_ev {l : List Int} (hl : l.length ≤ 1099511627776) : Ev (fun k => spec_FromGens.f k l) (fns l) := by
 unfold spec_FromGens.f fns
 refine ev_bind _ (gensS_ev hl) ?_
 by_cases h : UL l
 · have ml := mns_len (l := l)
   refine ev_ifp (by simpa using h) (ev_bind _ (l3Minimal_ev h) (ev_bind _ (sgS_ev (by omega)) ?_))
   by_cases s : SG (mns l)
   · exact ev_ifp (by simpa using s) (ev_to (Ev.now _) (if_pos (show FN l from ⟨h, s⟩)).symm)
   · exact ev_ifn (by simpa using s) (ev_to (Ev.now _) (if_neg (show ¬ FN l from fun k => s k.2)).symm)
 · exact ev_ifn (by simpa using h) (ev_to (Ev.now _) (if_neg (show ¬ FN l from fun k => h k.1)).symm)
end Go.Proofs.Ytapdhljbhekcdaa.E
end
section
namespace Go.Proofs.Ytapdhljbhekcdaa.E
open Go.RowKit Go.Proofs.Ytapdhljbhekcdaa.PD Go.Proofs.YtapdhljbhekcdaaW.PrintWords Go.Proofs.YtapdhljbhekcdaaW.PrintLast Go.Proofs.YtapdhljbhekcdaaW.PrintMore
set_option linter.unusedVariables false
set_option linter.unusedSimpArgs false
theorem fg0 : spec_FromGens.f 3000 [1] = some ([1], true) := by kernel_rfl
theorem fg1 : spec_FromGens.f 3000 [3, 5] = some ([3, 5], true) := by kernel_rfl
theorem fg2 : spec_FromGens.f 3000 [4, 6, 9] = some ([4, 6, 9], true) := by kernel_rfl
theorem fg3 : spec_FromGens.f 3000 [3, 4, 5] = some ([3, 4, 5], true) := by kernel_rfl
theorem fg4 : spec_FromGens.f 3000 [6, 9, 20] = some ([6, 9, 20], true) := by kernel_rfl
theorem fg5 : spec_FromGens.f 3000 [5, 7, 9, 11] = some ([5, 7, 9, 11], true) := by kernel_rfl
theorem fg6 : spec_FromGens.f 3000 [2, 3] = some ([2, 3], true) := by kernel_rfl
theorem fg7 : spec_FromGens.f 3000 [4, 5, 11] = some ([4, 5, 11], true) := by kernel_rfl
def L8 : List (List Int) := [[1], [3, 5], [4, 6, 9], [3, 4, 5], [6, 9, 20], [5, 7, 9, 11], [2, 3], [4, 5, 11]]
theorem fg_L8 {l : List Int} (h : l ∈ L8) : Ev (fun k => spec_FromGens.f k l) (l, true) := by
 simp only [L8, List.mem_cons, List.not_mem_nil, or_false] at h
 rcases h with rfl | rfl | rfl | rfl | rfl | rfl | rfl | rfl
 · exact Ev.of (spec_FromGens.mono _) fg0
 · exact Ev.of (spec_FromGens.mono _) fg1
 · exact Ev.of (spec_FromGens.mono _) fg2
 · exact Ev.of (spec_FromGens.mono _) fg3
 · exact Ev.of (spec_FromGens.mono _) fg4
 · exact Ev.of (spec_FromGens.mono _) fg5
 · exact Ev.of (spec_FromGens.mono _) fg6
 · exact Ev.of (spec_FromGens.mono _) fg7
theorem sg_L8 {l : List Int} (h : l ∈ L8) : SG l := by
 have hl : l.length ≤ 1099511627776 := by
  simp only [L8, List.mem_cons, List.not_mem_nil, or_false] at h
  rcases h with rfl | rfl | rfl | rfl | rfl | rfl | rfl | rfl <;> simp
 have e := ev_one (fromGensS_ev hl) (fg_L8 h)
 unfold fns at e
 split at e
 · rename_i f
   rw [Prod.mk.injEq] at e
   exact e.1 ▸ f.2
 · simp at e
end Go.Proofs.Ytapdhljbhekcdaa.E
end
section
namespace Go.Proofs.Ytapdhljbhekcdaa.E
open Go.RowKit Go.Proofs.Ytapdhljbhekcdaa.PD Go.Proofs.YtapdhljbhekcdaaW.PrintWords Go.Proofs.YtapdhljbhekcdaaW.PrintLast Go.Proofs.YtapdhljbhekcdaaW.PrintMore
set_option linter.unusedVariables false
set_option linter.unusedSimpArgs false
theorem once_ok {b : List Int} {i : Int} (h : Int) (c : Cu b i) {n : Int} (hn : 0 < n) : ∃ x j g, spec_l1Once.f b i h n = some (x, j, g) ∧ Cu b j := by
 obtain ⟨x, j, g, e, _, cj⟩ := below_ok h c hn
 exact ⟨_, j, g, by unfold spec_l1Once.f; rw [e]; rfl, cj⟩
theorem list_ok {b : List Int} {i : Int} (h : Int) (c : Cu b i) : ∃ l j g, spec_l3List.f b i h = some (l, j, g) ∧ l ∈ L8 ∧ Cu b j := by
 obtain ⟨x, j, g, e, hx, cj⟩ := below_ok h c (n := 8) (by omega)
 unfold spec_l3List.f
 rw [e]
 simp only [Option.bind_some]
 by_cases c0 : x = 0
 · exact ⟨_, j, g, by rw [if_pos c0], by simp [L8], cj⟩
 rw [if_neg c0]
 by_cases c1 : x = 1
 · exact ⟨_, j, g, by rw [if_pos c1], by simp [L8], cj⟩
 rw [if_neg c1]
 by_cases c2 : x = 2
 · exact ⟨_, j, g, by rw [if_pos c2], by simp [L8], cj⟩
 rw [if_neg c2]
 by_cases c3 : x = 3
 · exact ⟨_, j, g, by rw [if_pos c3], by simp [L8], cj⟩
 rw [if_neg c3]
 by_cases c4 : x = 4
 · exact ⟨_, j, g, by rw [if_pos c4], by simp [L8], cj⟩
 rw [if_neg c4]
 by_cases c5 : x = 5
 · exact ⟨_, j, g, by rw [if_pos c5], by simp [L8], cj⟩
 rw [if_neg c5]
 by_cases c6 : x = 6
 · exact ⟨_, j, g, by rw [if_pos c6], by simp [L8], cj⟩
 exact ⟨_, j, g, by rw [if_neg c6], by simp [L8], cj⟩
end Go.Proofs.Ytapdhljbhekcdaa.E
end
section
namespace Go.Proofs.Ytapdhljbhekcdaa.E
open Go.RowKit Go.Proofs.YtapdhljbhekcdaaW.PrintWords Go.Proofs.YtapdhljbhekcdaaW.PrintLast Go.Proofs.YtapdhljbhekcdaaW.PrintMore
set_option linter.unusedVariables false
set_option linter.unusedSimpArgs false
def fz {α : Type} (n : Nat) (f : Nat → α) : α := Nat.rec (f 0) (fun m _ => f (Nat.succ m)) n
theorem fz_eq {α : Type} (n : Nat) (f : Nat → α) : fz n f = f n := by cases n <;> rfl
def clg : Nat → Nat → Nat → Nat
 | 0, _, M => M
 | k + 1, g, M => fz (Nat.lor M (Nat.shiftLeft M g)) fun N => clg k (Nat.add g g) N
def wide : Nat := 105312291668557186697918027683670432318895095400549111254310977536
theorem wide_eq : wide = 2 ^ 216 := by decide
def clw (x M : Nat) : Nat := Nat.mod (clg 8 x M) wide
theorem or_sh (M g n : Nat) : (Nat.lor M (Nat.shiftLeft M g)).testBit n = true ↔ M.testBit n = true ∨ g ≤ n ∧ M.testBit (n - g) = true := by
 show (M ||| (M <<< g)).testBit n = true ↔ _
 rw [Nat.testBit_or, Nat.testBit_shiftLeft]
 simp
theorem clg_bit (k : Nat) : ∀ g M n, (clg k g M).testBit n = true ↔ ∃ j, j < 2 ^ k ∧ j * g ≤ n ∧ M.testBit (n - j * g) = true := by
 induction k with
 | zero =>
  intro g M n
  constructor
  · intro h; exact ⟨0, by simp, by simp, by simpa [clg] using h⟩
  · rintro ⟨j, h1, h2, h3⟩
    have : j = 0 := by simp at h1; exact h1
    subst this
    simpa [clg] using h3
 | succ k ih =>
  intro g M n
  rw [clg, fz_eq, ih]
  rw [Nat.pow_succ]
  constructor
  · rintro ⟨j, h1, h2, h3⟩
    have e : j * Nat.add g g = (2 * j) * g := by
     show j * (g + g) = _
     rw [Nat.mul_add, Nat.mul_assoc, Nat.two_mul]
    rw [e] at h2 h3
    rcases (or_sh _ _ _).1 h3 with h | ⟨h, h'⟩
    · exact ⟨2 * j, by omega, h2, h⟩
    · have e1 : (2 * j + 1) * g = 2 * j * g + g := by rw [Nat.add_mul, Nat.one_mul]
      refine ⟨2 * j + 1, by omega, by omega, ?_⟩
      rw [e1, ← Nat.sub_sub]; exact h'
  · rintro ⟨j, h1, h2, h3⟩
    have e : (j / 2) * Nat.add g g = (2 * (j / 2)) * g := by
     show (j / 2) * (g + g) = _
     rw [Nat.mul_add, Nat.mul_assoc, Nat.two_mul]
    refine ⟨j / 2, by omega, ?_, ?_⟩
    · rw [e]; exact Nat.le_trans (Nat.mul_le_mul_right g (by omega)) h2
    · rw [e, or_sh]
      by_cases c : j % 2 = 0
      · left; rw [show 2 * (j / 2) = j from by omega]; exact h3
      · right
        have e1 : j * g = 2 * (j / 2) * g + g := by
         have q : j = 2 * (j / 2) + 1 := by omega
         have := congrArg (· * g) q
         simp only [Nat.add_mul, Nat.one_mul] at this
         exact this
        rw [e1] at h2 h3
        refine ⟨by omega, ?_⟩
        rw [Nat.sub_sub]; exact h3
theorem clw_bit {x M n : Nat} (hx : 1 ≤ x) (hn : n < 216) : (clw x M).testBit n = true ↔ ∃ j, j * x ≤ n ∧ M.testBit (n - j * x) = true := by
 show (clg 8 x M % wide).testBit n = true ↔ _
 rw [wide_eq, Nat.testBit_mod_two_pow, decide_eq_true hn, Bool.true_and, clg_bit]
 constructor
 · rintro ⟨j, _, h⟩; exact ⟨j, h⟩
 · rintro ⟨j, h1, h2⟩
   refine ⟨j, ?_, h1, h2⟩
   have : j * 1 ≤ j * x := Nat.mul_le_mul_left j hx
   omega
def topb (M : Nat) : Nat := fz (Nat.xor (Nat.sub wide 1) (Nat.mod M wide)) fun X => bif Nat.beq X 0 then 0 else Nat.succ (Nat.log2 X)
theorem xor_bit {M n : Nat} (hn : n < 216) : (Nat.xor (Nat.sub wide 1) (Nat.mod M wide)).testBit n = !M.testBit n := by
 show ((wide - 1) ^^^ (M % wide)).testBit n = _
 rw [wide_eq, Nat.testBit_xor, Nat.testBit_two_pow_sub_one, Nat.testBit_mod_two_pow, decide_eq_true hn]
 simp
theorem xor_far {M n : Nat} (hn : 216 ≤ n) : (Nat.xor (Nat.sub wide 1) (Nat.mod M wide)).testBit n = false := by
 show ((wide - 1) ^^^ (M % wide)).testBit n = _
 rw [wide_eq, Nat.testBit_xor, Nat.testBit_two_pow_sub_one, Nat.testBit_mod_two_pow, decide_eq_false (by omega)]
 simp
theorem log2_bit {X : Nat} (h : X ≠ 0) : X.testBit (Nat.log2 X) = true := by
 have h1 := Nat.log2_self_le h
 have h2 := @Nat.lt_log2_self X
 rw [Nat.testBit_eq_decide_div_mod_eq, decide_eq_true_eq]
 have : X / 2 ^ Nat.log2 X = 1 := by
  apply Nat.div_eq_of_lt_le
  · omega
  · rw [Nat.pow_succ] at h2; omega
 rw [this]
theorem log2_far {X n : Nat} (h : Nat.log2 X < n) : X.testBit n = false := by
 apply Nat.testBit_lt_two_pow
 exact Nat.lt_of_lt_of_le (@Nat.lt_log2_self X) (Nat.pow_le_pow_right (by omega) h)
theorem topb_spec (M : Nat) : topb M ≤ 216 ∧ (∀ n, topb M ≤ n → n < 216 → M.testBit n = true) ∧ (0 < topb M → M.testBit (topb M - 1) = false) := by
 unfold topb
 rw [fz_eq]
 have B := fun n (hn : n < 216) => xor_bit (M := M) hn
 have F := fun n (hn : 216 ≤ n) => xor_far (M := M) hn
 generalize Nat.xor (Nat.sub wide 1) (Nat.mod M wide) = X at B F
 by_cases c : X = 0
 · subst c
   refine ⟨by simp, fun n _ hn => ?_, by simp⟩
   have := B n hn
   simp at this
   exact this
 · have e : Nat.beq X 0 = false := by cases X with | zero => exact absurd rfl c | succ n => rfl
   rw [e, cond_false]
   have b := log2_bit c
   have lt : Nat.log2 X < 216 := by
    by_cases q : Nat.log2 X < 216
    · exact q
    · rw [F _ (by omega)] at b; cases b
   refine ⟨lt, fun n h1 h2 => ?_, fun _ => ?_⟩
   · have := B n h2
     rw [log2_far h1] at this
     simpa using this
   · have := B _ lt
     rw [b] at this
     simpa using this
def cntb (M : Nat) : Nat → Nat → Nat
 | 0, a => a
 | c + 1, a => fz (Nat.add a (Nat.mod (Nat.shiftRight M c) 2)) fun b => cntb M c b
def chk (e M : Nat) : Bool := fz (topb M) fun c => bif Nat.ble 201 c then true else fz (Nat.mul e (cntb M c 0)) fun w => bif Nat.ble c w then (bif Nat.beq e 2 then Nat.beq w c else true) else false
def ap (e y M : Nat) : Bool := bif Nat.beq (Nat.mod (Nat.shiftRight M y) 2) 1 then true else chk (Nat.succ e) (clw y M)
def leaf (e M : Nat) : Bool := bif chk e M then (bif ap e 12 M then ap e 60 M else false) else false
def en : Nat → Nat → Nat → Nat → Nat → Bool
 | 0, _, _, e, M => leaf e M
 | _ + 1, _, 0, e, M => leaf e M
 | d + 1, x, b + 1, e, M => bif en d (Nat.succ x) (b + 1) e M then (bif Nat.beq (Nat.mod (Nat.shiftRight M x) 2) 1 then true else fz (clw x M) fun N => en d (Nat.succ x) b (Nat.succ e) N) else false
def ens : Nat → Bool
 | 0 => true
 | h + 1 => bif ens h then (fz (clw (h + 2) 1) fun N => en (Nat.min 12 (19 - h)) (h + 3) 4 1 N) else false
end Go.Proofs.Ytapdhljbhekcdaa.E
end
section
namespace Go.Proofs.Ytapdhljbhekcdaa.E
open Go.RowKit Go.Proofs.Ytapdhljbhekcdaa.PD Go.Proofs.YtapdhljbhekcdaaW.PrintWords Go.Proofs.YtapdhljbhekcdaaW.PrintLast Go.Proofs.YtapdhljbhekcdaaW.PrintMore
set_option linter.unusedVariables false
set_option linter.unusedSimpArgs false
theorem smI_l {v : List Int} {c : Int} (hc : c ≤ 200) (d : Nat) : ∀ (i : Int) (out : List Int), 0 ≤ i → i + d = c → (out.length : Int) ≤ i → Ev (fun k => impl_SmallElements.l0 k out (stab v 200) c i) (out ++ fl (fun n => decide (Su v n)) i d) := by
 have sl := stab_len (v := v) (m := 200) (by omega)
 induction d with
 | zero =>
  intro i out h0 h1 h2
  refine Ev.step (fun k => by rw [impl_SmallElements.l0]) (ev_ifn (by omega) (ev_to (Ev.now _) ?_))
  simp [fl]
 | succ d ih =>
  intro i out h0 h1 h2
  have s := stab_iff (v := v) (m := 200) h0 (by omega)
  refine Ev.step (fun k => by rw [impl_SmallElements.l0]) ?_
  rw [w64 (x := i + 1) (by omega) (by omega)]
  by_cases c : Su v i
  · rw [fl_yes (by simpa using c)]
    refine ev_ifp (by omega) (ev_ifp h0 (ev_ifp (by omega) (ev_ifp (s.2 c) (ev_ifp (by omega) (ev_to (ih (i + 1) (out ++ [i]) (by omega) (by omega) (by simp; omega)) ?_)))))
    simp
  · rw [fl_no (by simpa using c)]
    exact ev_ifp (by omega) (ev_ifp h0 (ev_ifp (by omega) (ev_ifn (fun h => c (s.1 h)) (ih (i + 1) out (by omega) (by omega) (by omega)))))
theorem smS_l {v : List Int} {c : Int} (hc : c ≤ 1000) (hc0 : 0 ≤ c) (d : Nat) : ∀ (i : Int) (out : List Int), 0 ≤ i → i + d = c → (out.length : Int) ≤ i → Ev (fun k => spec_l4Small.l0 k c out (stab v c) i) (out ++ fl (fun n => decide (Su v n)) i d) := by
 have sl := stab_len (v := v) (m := c) hc0
 induction d with
 | zero =>
  intro i out h0 h1 h2
  refine Ev.step (fun k => by rw [spec_l4Small.l0]) (ev_ifn (by omega) (ev_to (Ev.now _) ?_))
  simp [fl]
 | succ d ih =>
  intro i out h0 h1 h2
  have s := stab_iff (v := v) (m := c) h0 (by omega)
  refine Ev.step (fun k => by rw [spec_l4Small.l0]) ?_
  rw [w64 (x := i + 1) (by omega) (by omega)]
  by_cases c : Su v i
  · rw [fl_yes (by simpa using c)]
    refine ev_ifp (by omega) (ev_ifp h0 (ev_ifp (by omega) (ev_ifp (s.2 c) (ev_ifp (by omega) (ev_to (ih (i + 1) (out ++ [i]) (by omega) (by omega) (by simp; omega)) ?_)))))
    simp
  · rw [fl_no (by simpa using c)]
    exact ev_ifp (by omega) (ev_ifp h0 (ev_ifp (by omega) (ev_ifn (fun h => c (s.1 h)) (ih (i + 1) out (by omega) (by omega) (by omega)))))
theorem l4Small_ev {v : List Int} (h : SG v) {c : Int} (hc : c ≤ 1000) : Ev (fun k => spec_l4Small.f k v c) (sml v c) := by
 unfold spec_l4Small.f sml
 simp only [Option.bind_some]
 by_cases e : c < 1
 · rw [show c.toNat = 0 from by omega]; exact ev_ifp e (Ev.now _)
 · exact ev_ifn e (ev_bind _ (h.sutabS (by omega) (by omega)) (smS_l hc (by omega) c.toNat 0 [] (by omega) (by omega) (by simp)))
noncomputable def sme (v : List Int) : List Int := if SG v then sml v (cd v) else []
theorem sme_len (v : List Int) : (sme v).length ≤ 200 := by
 unfold sme; split
 · rename_i c
   have := sml_len v (cd v); have := cd_fact c; omega
 · simp
theorem smI_ev {v : List Int} (hl : v.length ≤ 1099511627776) : Ev (fun k => impl_SmallElements.f k v) (sme v) := by
 unfold impl_SmallElements.f sme
 refine ev_bind _ (sgI_ev hl) ?_
 by_cases c : SG v
 · have f := cd_fact c
   rw [if_pos c]
   exact ev_ifp (by simpa using c) (ev_bind _ (c.sutab (by omega) (by omega)) (ev_bind _ (cdI_ev hl) (smI_l f.2.1 (cd v).toNat 0 [] (by omega) (by omega) (by simp))))
 · rw [if_neg c]; exact ev_ifn (by simpa using c) (Ev.now _)
theorem smS_ev {v : List Int} (hl : v.length ≤ 1099511627776) : Ev (fun k => spec_SmallElements.f k v) (sme v) := by
 unfold spec_SmallElements.f sme
 refine ev_bind _ (sgS_ev hl) ?_
 by_cases c : SG v
 · have f := cd_fact c
   rw [if_pos c]
   exact ev_ifp (by simpa using c) (ev_bind _ (cdS_ev hl) (ev_bind _ (l4Small_ev c (by omega)) (Ev.now _)))
 · rw [if_neg c]; exact ev_ifn (by simpa using c) (Ev.now _)
end Go.Proofs.Ytapdhljbhekcdaa.E
end
section
namespace Go.Proofs.Ytapdhljbhekcdaa.E
open Go.RowKit Go.Proofs.Ytapdhljbhekcdaa.PD Go.Proofs.YtapdhljbhekcdaaW.PrintWords Go.Proofs.YtapdhljbhekcdaaW.PrintLast Go.Proofs.YtapdhljbhekcdaaW.PrintMore
set_option linter.unusedVariables false
set_option linter.unusedSimpArgs false
noncomputable def lc (v : List Int) : Int := if SG v then ((sme v).length : Int) else -1
theorem lc_sg {v : List Int} (h : SG v) : lc v = (sme v).length := by unfold lc; rw [if_pos h]
theorem lcI_ev {v : List Int} (hl : v.length ≤ 1099511627776) : Ev (fun k => impl_LeftCount.f k v) (lc v) := by
 unfold impl_LeftCount.f lc
 refine ev_bind _ (sgI_ev hl) ?_
 by_cases c : SG v
 · rw [if_pos c]; exact ev_ifp (by simpa using c) (ev_bind _ (smI_ev hl) (Ev.now _))
 · rw [if_neg c]; exact ev_ifn (by simpa using c) (Ev.now _)
theorem lcS_ev {v : List Int} (hl : v.length ≤ 1099511627776) : Ev (fun k => spec_LeftCount.f k v) (lc v) := by
 unfold spec_LeftCount.f lc
 refine ev_bind _ (sgS_ev hl) ?_
 by_cases c : SG v
 · rw [if_pos c]; exact ev_ifp (by simpa using c) (ev_bind _ (smS_ev hl) (Ev.now _))
 · rw [if_neg c]; exact ev_ifn (by simpa using c) (Ev.now _)
noncomputable def wilf (v : List Int) : Int := if SG v then wrap64 (wrap64 ((v.length : Int) * lc v) - cd v) else -1
theorem wilfI_ev {v : List Int} (hl : v.length ≤ 1099511627776) : Ev (fun k => impl_WilfNumber.f k v) (wilf v) := by
 unfold impl_WilfNumber.f wilf
 refine ev_bind _ (sgI_ev hl) ?_
 by_cases c : SG v
 · rw [if_pos c]; exact ev_ifp (by simpa using c) (ev_bind _ (lcI_ev hl) (ev_bind _ (cdI_ev hl) (Ev.now _)))
 · rw [if_neg c]; exact ev_ifn (by simpa using c) (Ev.now _)
theorem wilfS_ev {v : List Int} (hl : v.length ≤ 1099511627776) : Ev (fun k => spec_WilfNumber.f k v) (wilf v) := by
 unfold spec_WilfNumber.f wilf
 refine ev_bind _ (sgS_ev hl) ?_
 by_cases c : SG v
 · rw [if_pos c]; exact ev_ifp (by simpa using c) (ev_bind _ (lcS_ev hl) (ev_bind _ (cdS_ev hl) (Ev.now _)))
 · rw [if_neg c]; exact ev_ifn (by simpa using c) (Ev.now _)
end Go.Proofs.Ytapdhljbhekcdaa.E
end
section
namespace Go.Proofs.Ytapdhljbhekcdaa.E
open Go.RowKit Go.Proofs.YtapdhljbhekcdaaW.PrintWords Go.Proofs.YtapdhljbhekcdaaW.PrintLast Go.Proofs.YtapdhljbhekcdaaW.PrintMore
set_option linter.unusedVariables false
set_option linter.unusedSimpArgs false
theorem bit_eq (M x : Nat) : Nat.beq (Nat.mod (Nat.shiftRight M x) 2) 1 = M.testBit x := by
 show Nat.beq (M >>> x % 2) 1 = _
 rw [Nat.testBit_eq_decide_div_mod_eq, Nat.shiftRight_eq_div_pow, Bool.eq_iff_iff, Nat.beq_eq, decide_eq_true_eq]
def Ms (M : Nat) (u : List Int) : Prop := ∀ n : Nat, n < 216 → (M.testBit n = true ↔ Su u n)
theorem Ms.nil : Ms 1 [] := fun n hn => by
 rw [Nat.testBit_one_eq_true_iff_self_eq_zero]
 exact ⟨fun h => h ▸ Su.zero [], fun h => by have := su_nil h; omega⟩
theorem su_app {u : List Int} {x n : Int} : Su (u ++ [x]) n ↔ ∃ j : Nat, Su u (n - j * x) := by
 constructor
 · rintro ⟨c, w⟩
   induction w with
   | zero => exact ⟨0, by simpa using Su.zero u⟩
   | @add y k c hy _ ih =>
    obtain ⟨j, h⟩ := ih
    rcases List.mem_append.1 hy with q | q
    · exact ⟨j, by have := h.add (Su.mem q); rwa [show k - j * x + y = k + y - j * x from by omega] at this⟩
    · rw [List.mem_singleton] at q
      subst q
      exact ⟨j + 1, by rwa [show k + y - ((j + 1 : Nat) : Int) * y = k - j * y from by rw [Int.natCast_add, Int.add_mul]; omega]⟩
 · rintro ⟨j, h⟩
   have h1 := h.mono (u := u ++ [x]) fun y hy => List.mem_append_left _ hy
   have h2 := (Su.mem (v := u ++ [x]) (x := x) (by simp)).times j
   have := h1.add h2
   rwa [show n - j * x + j * x = n from by omega] at this
theorem Ms.app {M : Nat} {u : List Int} (h : Ms M u) (hu : ∀ y ∈ u, 1 ≤ y) {x : Nat} (hx : 1 ≤ x) : Ms (clw x M) (u ++ [(x : Int)]) := fun n hn => by
 rw [clw_bit hx hn, su_app]
 constructor
 · rintro ⟨j, h1, h2⟩
   refine ⟨j, ?_⟩
   have := (h _ (by omega)).1 h2
   rwa [Int.natCast_sub h1, Int.natCast_mul] at this
 · rintro ⟨j, hs⟩
   have p := hs.pos hu
   have e : ((j * x : Nat) : Int) = (j : Int) * x := Int.natCast_mul j x
   have le : j * x ≤ n := by omega
   refine ⟨j, le, (h _ (by omega)).2 ?_⟩
   rwa [Int.natCast_sub le, Int.natCast_mul]
theorem bif_t {a b c : Bool} (h : (bif a then b else c) = true) : (a = true ∧ b = true) ∨ (a = false ∧ c = true) := by
 cases a
 · exact .inr ⟨rfl, h⟩
 · exact .inl ⟨rfl, h⟩
theorem bif_f {a b : Bool} (h : (bif a then b else false) = true) : a = true ∧ b = true := by
 cases a
 · cases h
 · exact ⟨rfl, h⟩
theorem en_sound (d : Nat) : ∀ (x b e M : Nat) (u t : List Int), en d x b e M = true → Ms M u → 1 ≤ x → x + d ≤ 200 → (∀ y ∈ u, 1 ≤ y) → pw t → (∀ y ∈ t, (x : Int) ≤ y ∧ y < x + d) → t.length ≤ b → u.length = e → (∀ (k : Nat) (hk : k < t.length), ¬ Su (u ++ t.take k) t[k]) → ∃ N, Ms N (u ++ t) ∧ leaf (u ++ t).length N = true := by
 induction d with
 | zero =>
  intro x b e M u t hen hM hx hd hu ht hr hb he hm
  cases t with
  | nil => rw [en] at hen; exact ⟨M, by simpa using hM, by rw [List.append_nil, he]; exact hen⟩
  | cons y t => have := hr y (by simp); omega
 | succ d ih =>
  intro x b e M u t hen hM hx hd hu ht hr hb he hm
  cases b with
  | zero =>
   cases t with
   | nil => rw [en] at hen; exact ⟨M, by simpa using hM, by rw [List.append_nil, he]; exact hen⟩
   | cons y t => simp at hb
  | succ b =>
   rw [en] at hen
   obtain ⟨h1, h2⟩ := bif_f hen
   cases t with
   | nil => exact ih (x + 1) (b + 1) e M u [] h1 hM (by omega) (by omega) hu ht (by simp) (by simp) he hm
   | cons y t =>
    have hy := hr y (by simp)
    have ht' := List.pairwise_cons.1 ht
    by_cases c : y = x
    · have nb : ¬ M.testBit x = true := fun k => hm 0 (by simp) (by simpa [c] using (hM x (by omega)).1 k)
      rw [bit_eq] at h2
      rcases bif_t h2 with ⟨q, _⟩ | ⟨_, q⟩
      · exact absurd q nb
      rw [fz_eq] at q
      have hM' := hM.app hu hx
      obtain ⟨N, n1, n2⟩ := ih (x + 1) b (e + 1) (clw x M) (u ++ [(x : Int)]) t q hM' (by omega) (by omega)
       (fun z hz => by
        rcases List.mem_append.1 hz with k | k
        · exact hu z k
        · rw [List.mem_singleton] at k; omega)
       ht'.2 (fun z hz => by have := ht'.1 z hz; have := hr z (by simp [hz]); omega) (by simp at hb; omega) (by simp [he])
       (fun k hk => by
        have := hm (k + 1) (by simpa using hk)
        rw [List.take_succ_cons, List.getElem_cons_succ] at this
        rwa [List.append_assoc, ← c])
      rw [List.append_assoc, ← c] at n1 n2
      exact ⟨N, n1, n2⟩
    · exact ih (x + 1) (b + 1) e M u (y :: t) h1 hM (by omega) (by omega) hu ht
       (fun z hz => by
        rcases List.mem_cons.1 hz with k | k
        · have := hr z hz; omega
        · have := ht'.1 z k; have := hr z hz; omega) hb he hm
theorem ens_at : ∀ {n h : Nat}, ens n = true → h < n → en (Nat.min 12 (19 - h)) (h + 3) 4 1 (clw (h + 2) 1) = true
 | 0, _, _, hl => absurd hl (Nat.not_lt_zero _)
 | n + 1, h, he, hl => by
  rw [ens] at he
  obtain ⟨h1, h2⟩ := bif_f he
  rw [fz_eq] at h2
  by_cases c : h = n
  · rw [c]; exact h2
  · exact ens_at h1 (by omega)
theorem asc_pw {v : List Int} (h : Asc v) : pw v := by
 unfold pw
 rw [List.pairwise_iff_getElem]
 intro i j hi hj hij
 have := asc_lt h (j - i - 1) (i : Int) (j : Int) (by omega) (by omega) (by omega)
 rw [rd_lt (by omega) (by omega), rd_lt (by omega) (by omega)] at this
 simpa using this
theorem SG.min' {v : List Int} (h : SG v) (k : Nat) (h1 : 1 ≤ k) (hk : k < v.length) : ¬ Su (v.take k) v[k] := by
 have := h.min (k : Int) (by omega) (by omega)
 rw [rd_lt (by omega) (by omega)] at this
 simpa using this
def Win (v : List Int) : Prop := v.length ≤ 5 ∧ ∃ m : Int, (2 ≤ m ∧ m ≤ 9) ∧ ∀ x ∈ v, m ≤ x ∧ x ≤ m + 12
theorem win_leaf (E : ens 20 = true) {v : List Int} (h : SG v) (w : Win v) : ∃ N, Ms N v ∧ leaf v.length N = true := by
 obtain ⟨hl, m, hm, hr⟩ := w
 have l1 := h.ul.1
 cases v with
 | nil => simp at l1
 | cons a t =>
  have p := List.pairwise_cons.1 (asc_pw h.asc)
  have ha := hr a (by simp)
  obtain ⟨n, rfl⟩ : ∃ n : Nat, a = (n + 2 : Nat) := ⟨(a - 2).toNat, by omega⟩
  have e := ens_at E (h := n) (by omega)
  have := en_sound _ (n + 3) 4 1 _ [((n + 2 : Nat) : Int)] t e (by have := Ms.nil.app (by simp) (x := n + 2) (by omega); simpa using this) (by omega) (by have : Nat.min 12 (19 - n) ≤ 12 := Nat.min_le_left _ _; omega) (by intro y hy; rw [List.mem_singleton] at hy; omega) p.2
   (fun y hy => by
    have q := p.1 y hy
    have r := hr y (by simp [hy])
    have : Nat.min 12 (19 - n) = 12 ∨ Nat.min 12 (19 - n) = 19 - n := by show min 12 (19 - n) = 12 ∨ min 12 (19 - n) = 19 - n; omega
    omega)
   (by simp at hl; omega) rfl
   (fun k hk => by
    have := h.min' (k + 1) (by omega) (by simpa using hk)
    rw [List.take_succ_cons, List.getElem_cons_succ] at this
    exact this)
  exact this
theorem fl_cnt (M : Nat) (v : List Int) (hM : Ms M v) (c : Nat) : c ≤ 216 → ∀ a, cntb M c a = a + (fl (fun n => decide (Su v n)) 0 c).length := by
 induction c with
 | zero => intro _ a; simp [cntb, fl]
 | succ c ih =>
  intro hc a
  rw [cntb, fz_eq, ih (by omega), fl_app _ c 1, List.length_append]
  have e := bit_eq M c
  have m := hM c (by omega)
  have q : Nat.mod (Nat.shiftRight M c) 2 < 2 := Nat.mod_lt _ (by omega)
  show a + Nat.mod (Nat.shiftRight M c) 2 + _ = _
  by_cases s : Su v (c : Int)
  · rw [m.2 s] at e
    have : Nat.mod (Nat.shiftRight M c) 2 = 1 := Nat.eq_of_beq_eq_true e
    rw [this, fl_yes (d := 0) (by rw [Int.zero_add]; simpa using s)]
    simp [fl]; omega
  · have nb : ¬ M.testBit c = true := fun k => s (m.1 k)
    have : Nat.mod (Nat.shiftRight M c) 2 ≠ 1 := fun k => nb (by rw [← e, k]; rfl)
    have z : Nat.mod (Nat.shiftRight M c) 2 = 0 := by omega
    rw [fl_no (d := 0) (by rw [Int.zero_add]; simpa using s), z]
    simp [fl]
theorem cd_top {M : Nat} {v : List Int} (h : SG v) (hM : Ms M v) : cd v = (topb M : Int) := by
 have f := cd_fact h
 obtain ⟨t1, t2, t3⟩ := topb_spec M
 have a : cd v ≤ topb M := by
  by_cases c : cd v ≤ topb M
  · exact c
  · exfalso
    refine f.2.2.2.2 ?_
    have := (hM (cd v - 1).toNat (by omega)).1 (t2 _ (by omega) (by omega))
    rwa [show (((cd v - 1).toNat : Nat) : Int) = cd v - 1 from by omega] at this
 have b : (topb M : Int) ≤ cd v := by
  by_cases c : (topb M : Int) ≤ cd v
  · exact c
  · exfalso
    have g := t3 (by omega)
    have := (hM (topb M - 1) (by omega)).2 (by rw [show (((topb M - 1 : Nat)) : Int) = (topb M : Int) - 1 from by omega]; exact f.2.2.2.1 _ (by omega))
    rw [g] at this
    cases this
 omega
theorem wilf_chk {M : Nat} {v : List Int} (h : SG v) (hM : Ms M v) (hc : chk v.length M = true) : 0 ≤ wilf v ∧ ((v.length : Int) = 2 → wilf v = 0) := by
 have f := cd_fact h
 have e := cd_top h hM
 have l := h.len
 unfold chk at hc
 rw [fz_eq] at hc
 have t : topb M ≤ 200 := by omega
 rw [show Nat.ble 201 (topb M) = false from by
  cases q : Nat.ble 201 (topb M)
  · rfl
  · have := Nat.le_of_ble_eq_true q; omega] at hc
 rw [cond_false, fz_eq] at hc
 have n := fl_cnt M v hM (topb M) (by omega) 0
 have s : lc v = (cntb M (topb M) 0 : Nat) := by
  rw [lc_sg h, n]
  unfold sme
  rw [if_pos h]
  unfold sml
  rw [e, Int.toNat_natCast]
  omega
 have s2 := sme_len v
 rw [lc_sg h] at s
 have bound : cntb M (topb M) 0 ≤ 200 := by omega
 have hb : (v.length : Int) * (cntb M (topb M) 0 : Nat) = ((v.length * cntb M (topb M) 0 : Nat) : Int) := by rw [Int.natCast_mul]
 have hb2 : v.length * cntb M (topb M) 0 ≤ 12 * 200 := Nat.mul_le_mul (by omega) bound
 have w : wilf v = ((v.length * cntb M (topb M) 0 : Nat) : Int) - topb M := by
  unfold wilf
  rw [if_pos h, lc_sg h, s, hb, e, w64 (x := ((v.length * cntb M (topb M) 0 : Nat) : Int)) (by omega) (by omega), w64 (by omega) (by omega)]
 rw [w]
 obtain ⟨c1, c2⟩ := bif_f hc
 have c1 := Nat.le_of_ble_eq_true c1
 have c1 : topb M ≤ v.length * cntb M (topb M) 0 := c1
 refine ⟨by omega, fun h2 => ?_⟩
 have : v.length = 2 := by omega
 rw [this] at c2
 have := Nat.eq_of_beq_eq_true (show Nat.beq (Nat.mul 2 (cntb M (topb M) 0)) (topb M) = true from c2)
 have this : 2 * cntb M (topb M) 0 = topb M := this
 rw [‹v.length = 2›]
 omega
theorem wilf_ap {N : Nat} {s : List Int} (hs : SG s) (hN : Ms N s) {y : Nat} (h1 : 1 ≤ y) (h2 : y < 200) (ha : ap s.length y N = true) (hv : SG (s ++ [(y : Int)])) : 0 ≤ wilf (s ++ [(y : Int)]) ∧ (((s ++ [(y : Int)]).length : Int) = 2 → wilf (s ++ [(y : Int)]) = 0) := by
 have hm := hv.min' s.length (by have := hs.ul.1; omega) (by simp)
 rw [List.take_left, List.getElem_append_right (Nat.le_refl _)] at hm
 simp only [Nat.sub_self, List.getElem_cons_zero] at hm
 unfold ap at ha
 rw [bit_eq] at ha
 rcases bif_t ha with ⟨q, _⟩ | ⟨_, q⟩
 · exact absurd ((hN y (by omega)).1 q) hm
 · exact wilf_chk hv (hN.app (fun z hz => (hs.ul.2 z hz).1) h1) (by simpa using q)
theorem leaf_all {N : Nat} {s : List Int} (hs : SG s) (hN : Ms N s) (hl : leaf s.length N = true) : (0 ≤ wilf s ∧ ((s.length : Int) = 2 → wilf s = 0)) ∧ ∀ y, y ∈ [(0 : Int), 61, 12, (-3), 60] → SG (s ++ [y]) → 0 ≤ wilf (s ++ [y]) ∧ (((s ++ [y]).length : Int) = 2 → wilf (s ++ [y]) = 0) := by
 unfold leaf at hl
 obtain ⟨c1, c2⟩ := bif_f hl
 obtain ⟨c2, c3⟩ := bif_f c2
 refine ⟨wilf_chk hs hN c1, fun y hy hv => ?_⟩
 have hy' := hv.ul.2 y (by simp)
 simp only [List.mem_cons, List.not_mem_nil, or_false] at hy
 rcases hy with rfl | rfl | rfl | rfl | rfl
 · omega
 · omega
 · exact wilf_ap hs hN (y := 12) (by omega) (by omega) c2 hv
 · omega
 · exact wilf_ap hs hN (y := 60) (by omega) (by omega) c3 hv
def mkm (l : List Int) : Nat := l.foldl (fun M x => clw x.toNat M) 1
theorem Ms.fold : ∀ {l u : List Int} {M : Nat}, Ms M u → (∀ y ∈ u, 1 ≤ y) → (∀ y ∈ l, 1 ≤ y) → Ms (l.foldl (fun M x => clw x.toNat M) M) (u ++ l)
 | [], u, M, h, _, _ => by simpa using h
 | x :: l, u, M, h, hu, hl => by
  have hx := hl x (by simp)
  have a := h.app hu (x := x.toNat) (by omega)
  rw [show ((x.toNat : Nat) : Int) = x from by omega] at a
  have hu' : ∀ z ∈ u ++ [((x.toNat : Nat) : Int)], 1 ≤ z := fun z hz => by
   rcases List.mem_append.1 hz with k | k
   · exact hu z k
   · rw [List.mem_singleton] at k; omega
  rw [show ((x.toNat : Nat) : Int) = x from by omega] at hu'
  have := Ms.fold (l := l) a hu' (fun y hy => hl y (by simp [hy]))
  rw [List.append_assoc] at this
  exact this
theorem sg_mkm {v : List Int} (h : SG v) : Ms (mkm v) v := by
 have := Ms.fold (l := v) Ms.nil (by simp) (fun y hy => (h.ul.2 y hy).1)
 rw [List.nil_append] at this
 exact this
def L8ok : Bool := L8.all fun l => bif leaf l.length (mkm l) then chk (l.drop 1).length (mkm (l.drop 1)) else false
def YSok : Bool := chk 2 (mkm [59, 60]) && chk 2 (mkm [4, 60])
def Dr (s : List Int) : Prop := SG s ∧ (s ∈ L8 ∨ Win s)
def Bn (v : List Int) : Prop := ∃ s, Dr s ∧ (v = s ∨ v = s.drop 1 ∨ (∃ y, y ∈ [(0 : Int), 61, 12, (-3), 60] ∧ v = s ++ [y]) ∨ ∃ y, y ∈ [(0 : Int), 59, 4] ∧ v = [y, 60])
theorem wilf_bent (E : ens 20 = true) (F : L8ok = true) (G : YSok = true) {v : List Int} (hb : Bn v) (h : SG v) : 0 ≤ wilf v ∧ ((v.length : Int) = 2 → wilf v = 0) := by
 obtain ⟨s, ⟨hs, hd⟩, hv⟩ := hb
 have lf : ∃ N, Ms N s ∧ leaf s.length N = true := by
  rcases hd with k | k
  · have := List.all_eq_true.1 F s k
    exact ⟨_, sg_mkm hs, (bif_f this).1⟩
  · exact win_leaf E hs k
 obtain ⟨N, n1, n2⟩ := lf
 have A := leaf_all hs n1 n2
 rcases hv with rfl | rfl | ⟨y, hy, rfl⟩ | ⟨y, hy, rfl⟩
 · exact A.1
 · rcases hd with k | ⟨k1, m, hm, k2⟩
   · have := List.all_eq_true.1 F s k
     exact wilf_chk h (sg_mkm h) (bif_f this).2
   · obtain ⟨N, n1, n2⟩ := win_leaf E h ⟨by rw [List.length_drop]; omega, m, hm, fun x hx => k2 x (List.mem_of_mem_drop hx)⟩
     exact (leaf_all h n1 n2).1
 · exact A.2 y hy h
 · have p := h.ul.2 y (by simp)
   simp only [YSok, Bool.and_eq_true] at G
   simp only [List.mem_cons, List.not_mem_nil, or_false] at hy
   rcases hy with rfl | rfl | rfl
   · omega
   · exact wilf_chk h (sg_mkm h) G.1
   · exact wilf_chk h (sg_mkm h) G.2
end Go.Proofs.Ytapdhljbhekcdaa.E
end
