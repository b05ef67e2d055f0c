-- Bundled by shake.py from this session's printed and written texts; Lean checks it.
import Derived.KernelRfl
import Derived.Lib.SlicesCompact
import Derived.Test.YtjjajcldmkmgkaaZFnGluedx10
import Derived.Test.YtjjajcldmkmgkaaZFnGluedx11
import Derived.Test.YtjjajcldmkmgkaaZFnGluedx12
import Derived.Test.YtjjajcldmkmgkaaZFnGluedx2
import Derived.Test.YtjjajcldmkmgkaaZFnGluedx3
import Derived.Test.YtjjajcldmkmgkaaZFnGluedx4
import Derived.Test.YtjjajcldmkmgkaaZFnGluedx5
import Derived.Test.YtjjajcldmkmgkaaZFnGluedx6
import Derived.Test.YtjjajcldmkmgkaaZFnGluedx7
import Derived.Test.YtjjajcldmkmgkaaZFnGluedx8
import Derived.Test.YtjjajcldmkmgkaaZFnGluedx9
section
namespace Go.Proofs.Ytjjajcldmkmgkaa.E
open Go.RowKit Go.Proofs.Ytjjajcldmkmgkaa.PA Go.Proofs.YtjjajcldmkmgkaaW.PrintWords Go.Proofs.YtjjajcldmkmgkaaW.PrintLast Go.Proofs.YtjjajcldmkmgkaaW.PrintMore
set_option linter.unusedVariables false
set_option linter.unusedSimpArgs false
def gl (l : List Int) : Int := l.foldl gcdOf 0
theorem gcdListI_l {l : List Int} (hl : l.length ≤ 1099511627776) (d : Nat) : ∀ (i acc : Int), 0 ≤ i → i + d = l.length → Ev (fun k => impl_GcdOfList.l0 k acc l l.length i) ((l.drop i.toNat).foldl gcdOf acc) := by
 induction d with
 | zero =>
  intro i acc h0 h1
  refine Ev.step (fun k => by rw [impl_GcdOfList.l0]) ?_
  rw [List.drop_of_length_le (by omega)]
  exact ev_ifn (by omega) (Ev.now _)
 | succ d ih =>
  intro i acc h0 h1
  refine Ev.step (fun k => by rw [impl_GcdOfList.l0]) ?_
  rw [drop_rd h0 (by omega), List.foldl_cons, w64 (by omega) (by omega)]
  exact ev_ifp (by omega) (ev_ifp h0 (ev_ifp (by omega) (ev_bind _ (gcdI_ev _ _) (ih (i + 1) _ (by omega) (by omega)))))
theorem gcdListI_ev {l : List Int} (hl : l.length ≤ 1099511627776) : Ev (fun k => impl_GcdOfList.f k l) (gl l) := by
 unfold impl_GcdOfList.f
 have := gcdListI_l hl l.length 0 0 (by omega) (by omega)
 simpa [gl] using this
theorem gcdListS_l {l : List Int} (hl : l.length ≤ 1099511627776) (d : Nat) : ∀ (i acc : Int), 0 ≤ i → i + d = l.length → Ev (fun k => spec_GcdOfList.l0 k l acc i) ((l.drop i.toNat).foldl gcdOf acc) := by
 induction d with
 | zero =>
  intro i acc h0 h1
  refine Ev.step (fun k => by rw [spec_GcdOfList.l0]) ?_
  rw [List.drop_of_length_le (by omega)]
  exact ev_ifn (by omega) (Ev.now _)
 | succ d ih =>
  intro i acc h0 h1
  refine Ev.step (fun k => by rw [spec_GcdOfList.l0]) ?_
  rw [drop_rd h0 (by omega), List.foldl_cons, w64 (by omega) (by omega)]
  exact ev_ifp (by omega) (ev_ifp h0 (ev_bind _ (gcdS_ev _ _) (ih (i + 1) _ (by omega) (by omega))))
theorem gcdListS_ev {l : List Int} (hl : l.length ≤ 1099511627776) : Ev (fun k => spec_GcdOfList.f k l) (gl l) := by
 unfold spec_GcdOfList.f
 have := gcdListS_l hl l.length 0 0 (by omega) (by omega)
 simpa [gl] using this
theorem gcdOf_small {a x : Int} (h0 : 0 ≤ a) (h1 : a ≤ 60) (hx : 1 ≤ x ∧ x ≤ 60) : 1 ≤ gcdOf a x ∧ gcdOf a x ≤ 60 ∧ gcdOf a x ∣ a ∧ gcdOf a x ∣ x := by
 have e : gcdOf a x = (Int.gcd a x : Int) := by unfold gcdOf; rw [if_pos ⟨⟨by omega, by omega⟩, by omega, by omega⟩]
 have d1 := Int.gcd_dvd_left a x
 have d2 := Int.gcd_dvd_right a x
 have p : 0 < Int.gcd a x := Int.gcd_pos_of_ne_zero_right _ (by omega)
 have le := Int.le_of_dvd (by omega) d2
 rw [e]
 exact ⟨by omega, by omega, d1, d2⟩
theorem gl_fold {l : List Int} (h : ∀ x ∈ l, 1 ≤ x ∧ x ≤ 60) : ∀ acc : Int, 0 ≤ acc → acc ≤ 60 → 0 ≤ l.foldl gcdOf acc ∧ l.foldl gcdOf acc ≤ 60 ∧ (1 ≤ acc ∨ l ≠ [] → 1 ≤ l.foldl gcdOf acc) ∧ l.foldl gcdOf acc ∣ acc ∧ ∀ x ∈ l, l.foldl gcdOf acc ∣ x := by
 induction l with
 | nil => intro acc h0 h1; exact ⟨h0, h1, fun h => by simpa using h, Int.dvd_refl _, by simp⟩
 | cons a l ih =>
  intro acc h0 h1
  obtain ⟨g1, g2, g3, g4⟩ := gcdOf_small h0 h1 (h a (by simp))
  obtain ⟨i1, i2, i3, i4, i5⟩ := ih (fun x hx => h x (by simp [hx])) (gcdOf acc a) (by omega) g2
  rw [List.foldl_cons]
  refine ⟨i1, i2, fun _ => i3 (.inl g1), Int.dvd_trans i4 g3, fun x hx => ?_⟩
  rcases List.mem_cons.1 hx with rfl | hx
  · exact Int.dvd_trans i4 g4
  · exact i5 x hx
theorem gl_pos {l : List Int} (h : ∀ x ∈ l, 1 ≤ x ∧ x ≤ 60) (hn : l ≠ []) : 1 ≤ gl l ∧ gl l ≤ 60 := by
 have := gl_fold h 0 (by omega) (by omega)
 exact ⟨this.2.2.1 (.inr hn), this.2.1⟩
theorem gl_dvd {l : List Int} (h : ∀ x ∈ l, 1 ≤ x ∧ x ≤ 60) : ∀ x ∈ l, gl l ∣ x := (gl_fold h 0 (by omega) (by omega)).2.2.2.2
end Go.Proofs.Ytjjajcldmkmgkaa.E
end
section
namespace Go.Proofs.Ytjjajcldmkmgkaa.E
open Go.RowKit Go.Proofs.YtjjajcldmkmgkaaW.PrintWords Go.Proofs.YtjjajcldmkmgkaaW.PrintLast Go.Proofs.YtjjajcldmkmgkaaW.PrintMore
set_option linter.unusedVariables false
set_option linter.unusedSimpArgs false
def Dn (v : List Int) (a z : Int) : Prop := ∃ n, Su v n ∧ n % a = z % a
theorem Dn.add {v : List Int} {a z y : Int} (h : Dn v a z) (k : Dn v a y) : Dn v a (z + y) := by
 obtain ⟨n, h1, h2⟩ := h; obtain ⟨m, k1, k2⟩ := k
 exact ⟨n + m, h1.add k1, by rw [Int.add_emod, h2, k2, ← Int.add_emod]⟩
theorem Dn.mul {v : List Int} {a z : Int} (ha : 1 ≤ a) (h : Dn v a z) (k : Int) : Dn v a (z * k) := by
 obtain ⟨n, h1, h2⟩ := h
 have q := Int.emod_nonneg k (b := a) (by omega)
 have := h1.times (k % a).toNat
 rw [show (((k % a).toNat : Nat) : Int) = k % a from by omega] at this
 refine ⟨_, this, ?_⟩
 rw [Int.mul_comm, Int.mul_emod, h2, Int.emod_emod_of_dvd _ (Int.dvd_refl a), ← Int.mul_emod]
theorem Dn.gcd {v : List Int} {a : Int} (ha : 1 ≤ a) (m : Nat) : ∀ n : Nat, Dn v a m → Dn v a n → Dn v a (Nat.gcd m n : Int) := by
 induction m using Nat.strongRecOn with
 | _ m ih =>
  intro n hm hn
  by_cases h : m = 0
  · subst h; simpa using hn
  · rw [Nat.gcd_rec]
    refine ih _ (Nat.mod_lt _ (by omega)) m ?_ hm
    have := hn.add (hm.mul ha (-((n / m : Nat) : Int)))
    have e : (n : Int) + (m : Int) * -((n / m : Nat) : Int) = ((n % m : Nat) : Int) := by
     have := Nat.div_add_mod n m
     have e2 : ((m * (n / m) + n % m : Nat) : Int) = (n : Int) := by rw [this]
     rw [Int.natCast_add, Int.natCast_mul] at e2
     rw [Int.mul_neg]; omega
    rwa [e] at this
theorem Dn.fold {v : List Int} {a : Int} (ha : 1 ≤ a) {l : List Int} (hl : ∀ x ∈ l, (1 ≤ x ∧ x ≤ 60) ∧ Dn v a x) : ∀ acc : Int, 0 ≤ acc → acc ≤ 60 → Dn v a acc → Dn v a (l.foldl gcdOf acc) := by
 induction l with
 | nil => intro acc _ _ h; exact h
 | cons x l ih =>
  intro acc h0 h1 h
  have hx := hl x (by simp)
  have g := gcdOf_small h0 h1 hx.1
  rw [List.foldl_cons]
  refine ih (fun y hy => hl y (by simp [hy])) _ (by omega) g.2.1 ?_
  have e : gcdOf acc x = (Int.gcd acc x : Int) := by unfold gcdOf; rw [if_pos ⟨⟨by omega, by omega⟩, by omega, by omega⟩]
  rw [e, show Int.gcd acc x = Nat.gcd acc.toNat x.toNat from by unfold Int.gcd; congr 1 <;> omega]
  refine Dn.gcd ha _ _ ?_ ?_
  · rwa [show ((acc.toNat : Nat) : Int) = acc from by omega]
  · rw [show ((x.toNat : Nat) : Int) = x from by omega]; exact hx.2
theorem all_classes {v : List Int} {a : Int} (ha : 1 ≤ a) (hv : ∀ x ∈ v, 1 ≤ x ∧ x ≤ 60) (hg : gl v = 1) (z : Int) : Dn v a z := by
 have h1 : Dn v a 1 := by
  rw [← hg]
  exact Dn.fold ha (fun x hx => ⟨hv x hx, x, Su.mem hx, rfl⟩) 0 (by omega) (by omega) ⟨0, Su.zero v, rfl⟩
 have := h1.mul ha z
 rwa [Int.one_mul] at this
end Go.Proofs.Ytjjajcldmkmgkaa.E
end
section
namespace Go.Proofs.Ytjjajcldmkmgkaa.E
open Go.RowKit Go.Proofs.Ytjjajcldmkmgkaa.PA Go.Proofs.YtjjajcldmkmgkaaW.PrintWords Go.Proofs.YtjjajcldmkmgkaaW.PrintLast Go.Proofs.YtjjajcldmkmgkaaW.PrintMore
set_option linter.unusedVariables false
set_option linter.unusedSimpArgs false
theorem leasts_l3 {v : List Int} {a G M : Int} (hv : ∀ x ∈ v, 1 ≤ x ∧ x ≤ G) (hG : 0 ≤ G) (hG' : G ≤ 1000) (ha : 1 ≤ a) (ha' : a ≤ 200) (hl : v.length ≤ 20) {r n : Int} (hr0 : 0 ≤ r) (hr1 : r < a) {P : List Int → Prop}
 (H : ∀ (t : List Int) (ch : Bool), LInv v a G t → weight (a * G + 1) t ≤ M → (ch = true → weight (a * G + 1) t < M) → (ch = false → ∀ s, 0 ≤ s → s < r + 1 → 0 ≤ rd t s → ∀ g ∈ v, 0 ≤ rd t ((rd t s + g) % a) ∧ rd t ((rd t s + g) % a) ≤ rd t s + g) → ∃ u, P u ∧ Ev (fun k => impl_leasts.l2 k v a t ch a (r + 1)) u) (d : Nat) :
 ∀ (t : List Int) (ch : Bool) (i : Int), 0 ≤ i → i + d = v.length → LInv v a G t → rd t r = n → 0 ≤ n → weight (a * G + 1) t ≤ M → (ch = true → weight (a * G + 1) t < M) →
  (ch = false → ∀ s, 0 ≤ s → s < r → 0 ≤ rd t s → ∀ g ∈ v, 0 ≤ rd t ((rd t s + g) % a) ∧ rd t ((rd t s + g) % a) ≤ rd t s + g) → (ch = false → ∀ j, 0 ≤ j → j < i → 0 ≤ rd t ((rd t r + rd v j) % a) ∧ rd t ((rd t r + rd v j) % a) ≤ rd t r + rd v j) →
  ∃ u, P u ∧ Ev (fun k => impl_leasts.l3 k v a t ch r n a r v v.length i) u := by
 have hm : a * G = (a - 1) * G + G := by rw [Int.sub_mul]; omega
 have haG : a * G ≤ 200 * 1000 := Int.mul_le_mul ha' hG' hG (by omega)
 induction d with
 | zero =>
  intro t ch i h0 h1 I hn hn0 hM h2 h3 h4
  obtain ⟨u, hu, hE⟩ := H t ch I hM h2 (by
   intro hc s hs0 hs1 hs g hg
   by_cases e : s = r
   · subst e
     obtain ⟨j, hj0, hj1, rfl⟩ := mem_rd hg
     exact h4 hc j hj0 (by omega)
   · exact h3 hc s hs0 (by omega) hs g hg)
  refine ⟨u, hu, Ev.step (fun k => by rw [impl_leasts.l3]) (ev_ifn (by omega) ?_)⟩
  rw [w64 (by omega) (by omega)]; exact hE
 | succ d ih =>
  intro t ch i h0 h1 I hn hn0 hM h2 h3 h4
  have hgm := rd_mem (l := v) h0 (by omega)
  have hg := hv _ hgm
  have hb := I.top hG hr0 hr1
  have hlen := I.len
  have hto : Int.tmod (r + rd v i) a = (rd t r + rd v i) % a := by
   rw [Int.tmod_eq_emod_of_nonneg (by omega), Int.add_emod (rd t r), (I.way r hr0 hr1 (by omega)).2, Int.add_emod, Int.emod_eq_of_lt hr0 hr1]
  have q0 := Int.emod_nonneg (rd t r + rd v i) (b := a) (by omega)
  have q1 := Int.emod_lt_of_pos (rd t r + rd v i) (b := a) (by omega)
  have change : (rd t ((rd t r + rd v i) % a) < 0 ∨ rd t r + rd v i < rd t ((rd t r + rd v i) % a)) → ∃ u, P u ∧ Ev (fun k => impl_leasts.l3 k v a (t.set ((rd t r + rd v i) % a).toNat (n + rd v i)) true r n a r v v.length (i + 1)) u := by
   intro hc
   obtain ⟨I', w', _, hne⟩ := I.step hv ha hr0 hr1 hgm (by omega) hc
   rw [show n + rd v i = rd t r + rd v i from by omega]
   refine ih _ true (i + 1) (by omega) (by omega) I' ?_ (by omega) (by omega) (fun _ => by omega) (fun h => by cases h) (fun h => by cases h)
   rw [rd_set _ q0 (by omega) hr0, if_neg (fun e => hne e.symm)]; exact hn
  have stay : ¬ (rd t ((rd t r + rd v i) % a) < 0 ∨ rd t r + rd v i < rd t ((rd t r + rd v i) % a)) → ∃ u, P u ∧ Ev (fun k => impl_leasts.l3 k v a t ch r n a r v v.length (i + 1)) u := by
   intro hc
   refine ih t ch (i + 1) (by omega) (by omega) I hn hn0 hM h2 h3 (fun hf j hj0 hj1 => ?_)
   by_cases e : j = i
   · subst e; omega
   · exact h4 hf j hj0 (by omega)
  have head : ∀ u, (∀ c1 : rd t ((rd t r + rd v i) % a) < 0, Ev (fun k => impl_leasts.l3 k v a (t.set ((rd t r + rd v i) % a).toNat (n + rd v i)) true r n a r v v.length (i + 1)) u) → (∀ c1 : ¬ rd t ((rd t r + rd v i) % a) < 0, ∀ c2 : n + rd v i < rd t ((rd t r + rd v i) % a), Ev (fun k => impl_leasts.l3 k v a (t.set ((rd t r + rd v i) % a).toNat (n + rd v i)) true r n a r v v.length (i + 1)) u) → (∀ c1 : ¬ rd t ((rd t r + rd v i) % a) < 0, ∀ c2 : ¬ n + rd v i < rd t ((rd t r + rd v i) % a), Ev (fun k => impl_leasts.l3 k v a t ch r n a r v v.length (i + 1)) u) → Ev (fun k => impl_leasts.l3 k v a t ch r n a r v v.length i) u := by
   intro u f1 f2 f3
   refine Ev.step (fun k => by rw [impl_leasts.l3]) ?_
   rw [w64 (x := r + rd v i) (by omega) (by omega), hto, w64 (x := n + rd v i) (by omega) (by omega), w64 (x := i + 1) (by omega) (by omega)]
   refine ev_ifp (by omega) (ev_ifp h0 (ev_ifp (by omega) (ev_ifn (by omega) (ev_ifp q0 (ev_ifp (by omega) ?_)))))
   by_cases c1 : rd t ((rd t r + rd v i) % a) < 0
   · exact ev_ifp c1 (f1 c1)
   · by_cases c2 : n + rd v i < rd t ((rd t r + rd v i) % a)
     · exact ev_ifn c1 (ev_ifp c2 (f2 c1 c2))
     · exact ev_ifn c1 (ev_ifn c2 (f3 c1 c2))
  by_cases c1 : rd t ((rd t r + rd v i) % a) < 0
  · obtain ⟨u, hu, hE⟩ := change (.inl c1)
    exact ⟨u, hu, head u (fun _ => hE) (fun h => absurd c1 h) (fun h => absurd c1 h)⟩
  · by_cases c2 : n + rd v i < rd t ((rd t r + rd v i) % a)
    · obtain ⟨u, hu, hE⟩ := change (.inr (by omega))
      exact ⟨u, hu, head u (fun h => absurd h c1) (fun _ _ => hE) (fun _ h => absurd c2 h)⟩
    · obtain ⟨u, hu, hE⟩ := stay (by omega)
      exact ⟨u, hu, head u (fun h => absurd h c1) (fun _ h => absurd h c2) (fun _ _ => hE)⟩
theorem leasts_l2 {v : List Int} {a G M : Int} (hv : ∀ x ∈ v, 1 ≤ x ∧ x ≤ G) (hG : 0 ≤ G) (hG' : G ≤ 1000) (ha : 1 ≤ a) (ha' : a ≤ 200) (hl : v.length ≤ 20)
 (H : ∀ t : List Int, LInv v a G t → weight (a * G + 1) t < M → ∃ u, Lst v a G u ∧ Ev (fun k => impl_leasts.l1 k v a t true) u) (d : Nat) :
 ∀ (t : List Int) (ch : Bool) (r : Int), 0 ≤ r → r + d = a → LInv v a G t → weight (a * G + 1) t ≤ M → (ch = true → weight (a * G + 1) t < M) →
  (ch = false → ∀ s, 0 ≤ s → s < r → 0 ≤ rd t s → ∀ g ∈ v, 0 ≤ rd t ((rd t s + g) % a) ∧ rd t ((rd t s + g) % a) ≤ rd t s + g) →
  ∃ u, Lst v a G u ∧ Ev (fun k => impl_leasts.l2 k v a t ch a r) u := by
 induction d with
 | zero =>
  intro t ch r h0 h1 I hM h2 h3
  cases ch with
  | true =>
   obtain ⟨u, hu, hE⟩ := H t I (h2 rfl)
   exact ⟨u, hu, Ev.step (fun k => by rw [impl_leasts.l2]) (ev_ifn (by omega) hE)⟩
  | false =>
   refine ⟨t, I.done hv hG ha (fun s hs0 hs1 hs g hg => h3 rfl s hs0 (by omega) hs g hg), Ev.step (fun k => by rw [impl_leasts.l2]) (ev_ifn (by omega) (Ev.step (fun k => by rw [impl_leasts.l1]) (ev_ifn (by simp) (Ev.now _))))⟩
 | succ d ih =>
  intro t ch r h0 h1 I hM h2 h3
  have hlen := I.len
  by_cases c : rd t r < 0
  · obtain ⟨u, hu, hE⟩ := ih t ch (r + 1) (by omega) (by omega) I hM h2 (fun hf s hs0 hs1 hs g hg => by
     by_cases e : s = r
     · subst e; omega
     · exact h3 hf s hs0 (by omega) hs g hg)
    refine ⟨u, hu, Ev.step (fun k => by rw [impl_leasts.l2]) (ev_ifp (by omega) (ev_ifp h0 (ev_ifp (by omega) (ev_ifp c ?_))))⟩
    rw [w64 (by omega) (by omega)]; exact hE
  · obtain ⟨u, hu, hE⟩ := leasts_l3 (M := M) (P := Lst v a G) hv hG hG' ha ha' hl h0 (by omega) (fun t ch I hM h2 h3 => ih t ch (r + 1) (by omega) (by omega) I hM h2 h3) v.length t ch 0 (by omega) (by omega) I rfl (by omega) hM h2 h3 (fun _ j hj0 hj1 => by omega)
    exact ⟨u, hu, Ev.step (fun k => by rw [impl_leasts.l2]) (ev_ifp (by omega) (ev_ifp h0 (ev_ifp (by omega) (ev_ifn c hE))))⟩
theorem leasts_l1 {v : List Int} {a G : Int} (hv : ∀ x ∈ v, 1 ≤ x ∧ x ≤ G) (hG : 0 ≤ G) (hG' : G ≤ 1000) (ha : 1 ≤ a) (ha' : a ≤ 200) (hl : v.length ≤ 20) (m : Nat) :
 ∀ t : List Int, LInv v a G t → weight (a * G + 1) t ≤ m → ∃ u, Lst v a G u ∧ Ev (fun k => impl_leasts.l1 k v a t true) u := by
 induction m using Nat.strongRecOn with
 | _ m ih =>
  intro t I hm
  have hB : 0 ≤ a * G + 1 := by have := Int.mul_nonneg (show 0 ≤ a by omega) hG; omega
  obtain ⟨u, hu, hE⟩ := leasts_l2 (M := weight (a * G + 1) t) hv hG hG' ha ha' hl (fun t' I' h' => ih (weight (a * G + 1) t').toNat (by have := weight_nonneg hB t'; have := weight_nonneg hB t; omega) t' I' (by have := weight_nonneg hB t'; omega)) a.toNat t false 0 (by omega) (by omega) I (Int.le_refl _) (fun h => by cases h) (fun _ s hs0 hs1 => by omega)
  refine ⟨u, hu, Ev.step (fun k => by rw [impl_leasts.l1]) (ev_ifp rfl ?_)⟩
  rw [I.len]; exact hE
theorem leasts_l0 {v : List Int} {a : Int} (ha : 1 ≤ a) (ha' : a ≤ 200) {u : List Int} (H : Ev (fun k => impl_leasts.l1 k v a ((List.replicate a.toNat (-1)).set 0 0) true) u) (d : Nat) :
 ∀ (i : Int) (row : List Int), 0 ≤ i → i + d = a → (row.length : Int) = a → (∀ j, 0 ≤ j → j < i → rd row j = -1) → Ev (fun k => impl_leasts.l0 k v a row a i) u := by
 induction d with
 | zero =>
  intro i row h0 h1 h2 h3
  have e : row = List.replicate a.toNat (-1) := rd_ext (by simp; omega) fun j hj hj' => by rw [h3 j hj (by omega), rd_rep hj (by omega)]
  subst e
  refine Ev.step (fun k => by rw [impl_leasts.l0]) ?_
  exact ev_ifn (by omega) (ev_ifp (by omega) H)
 | succ d ih =>
  intro i row h0 h1 h2 h3
  refine Ev.step (fun k => by rw [impl_leasts.l0]) ?_
  simp (disch := omega) only [if_pos, w64]
  refine ih (i + 1) _ (by omega) (by omega) (by simpa using h2) fun j hj hj' => ?_
  rw [rd_set _ h0 (by omega) hj]
  by_cases e : j = i
  · rw [if_pos e]
  · rw [if_neg e]; exact h3 j hj (by omega)
theorem leasts_ev {v : List Int} {a G : Int} (hv : ∀ x ∈ v, 1 ≤ x ∧ x ≤ G) (hG : 0 ≤ G) (hG' : G ≤ 1000) (ha : 1 ≤ a) (ha' : a ≤ 200) (hl : v.length ≤ 20) : ∃ u, Lst v a G u ∧ Ev (fun k => impl_leasts.f k v a) u := by
 have hB : 0 ≤ a * G + 1 := by have := Int.mul_nonneg (show 0 ≤ a by omega) hG; omega
 obtain ⟨u, hu, hE⟩ := leasts_l1 hv hG hG' ha ha' hl (weight (a * G + 1) ((List.replicate a.toNat (-1)).set 0 0)).toNat _ (LInv.first ha hG) (by have := weight_nonneg hB ((List.replicate a.toNat (-1)).set 0 0); omega)
 refine ⟨u, hu, ?_⟩
 unfold impl_leasts.f
 refine ev_ifp (by omega) (ev_ifp (by omega) ?_)
 simp only [Option.bind_some]
 rw [show ((List.replicate a.toNat (0 : Int)).length : Int) = a from by simp; omega]
 exact leasts_l0 ha ha' hE a.toNat 0 _ (by omega) (by omega) (by simp; omega) (fun j h h' => by omega)
theorem usableI_ev {v : List Int} (hl : v.length ≤ 1099511627776) : Ev (fun k => impl_usable.f k v) (decide (UL v)) := by
 unfold impl_usable.f
 simp only [within_eq, Option.bind_some]
 by_cases h : 1 ≤ (v.length : Int) ∧ (v.length : Int) ≤ 20
 · exact ev_ifp (by simpa using h) (ev_bind _ (allWithin_ev 1 60 hl) (ev_to (Ev.now _) (by simp only [UL, h, true_and])))
 · exact ev_ifn (by simpa using h) (ev_to (Ev.now _) (decide_eq_false (fun u => h u.1)).symm)
theorem gensS_l {v : List Int} (hl : v.length ≤ 1099511627776) (d : Nat) : ∀ i : Int, 0 ≤ i → i + d = v.length → (∀ j, 0 ≤ j → j < i → 1 ≤ rd v j ∧ rd v j ≤ 60) → Ev (fun k => spec_l3Gens.l0 k v i) (decide (UL v)) := by
 induction d with
 | zero =>
  intro i h0 h1 h2
  refine Ev.step (fun k => by rw [spec_l3Gens.l0]) ?_
  simp only [l1In_eq, Option.bind_some]
  refine ev_ifn (by omega) (ev_to (Ev.now _) ?_)
  have : ∀ x ∈ v, 1 ≤ x ∧ x ≤ 60 := fun x hx => by
   obtain ⟨j, hj, hj', rfl⟩ := mem_rd hx; exact h2 j hj (by omega)
  exact decide_eq_decide.2 ⟨fun h => ⟨h, this⟩, fun h => h.1⟩
 | succ d ih =>
  intro i h0 h1 h2
  refine Ev.step (fun k => by rw [spec_l3Gens.l0]) ?_
  simp only [l1In_eq, Option.bind_some]
  rw [w64 (by omega) (by omega)]
  by_cases h : 1 ≤ rd v i ∧ rd v i ≤ 60
  · refine ev_ifp (by omega) (ev_ifp h0 (ev_ifp (by simpa using h) (ih (i + 1) (by omega) (by omega) (fun j hj hj' => ?_))))
    by_cases e : j = i
    · rw [e]; exact h
    · exact h2 j hj (by omega)
  · exact ev_ifp (by omega) (ev_ifp h0 (ev_ifn (by simpa using h) (ev_to (Ev.now _) (decide_eq_false (fun u => h (u.2 _ (rd_mem h0 (by omega))))).symm)))
theorem gensS_ev {v : List Int} (hl : v.length ≤ 1099511627776) : Ev (fun k => spec_l3Gens.f k v) (decide (UL v)) :=
 gensS_l hl v.length 0 (by omega) (by omega) (fun j h h' => by omega)
def Gen (v : List Int) (n : Int) : Prop := UL v ∧ (0 ≤ n ∧ n ≤ 1000000) ∧ Su v n
noncomputable instance (v : List Int) (n : Int) : Decidable (Gen v n) := Classical.propDecidable _
theorem genI_ev {v : List Int} (n : Int) (hl : v.length ≤ 1099511627776) : Ev (fun k => impl_Generates.f k v n) (decide (Gen v n)) := by
 unfold impl_Generates.f
 simp only [within_eq, Option.bind_some]
 by_cases hu : UL v
 · by_cases hn : 0 ≤ n ∧ n ≤ 1000000
   · obtain ⟨f1, f2, f3⟩ := hu.first
     have hlen := hu.1
     obtain ⟨u, hL, hE⟩ := leasts_ev (G := 60) (a := rd v 0) hu.2 (by omega) (by omega) f2 (by omega) (by omega)
     have q0 := Int.emod_nonneg n (b := rd v 0) (by omega)
     have q1 := Int.emod_lt_of_pos n (b := rd v 0) (by omega)
     have hs := hL.su (n := n) f2 (Su.mem f1)
     have hll := hL.len
     rw [Int.tmod_eq_emod_of_nonneg hn.1]
     refine ev_bind _ (usableI_ev hl) (ev_ifp (by simpa using hu) (ev_ifp (by simpa using hn) (ev_ifp (by omega) (ev_bind _ hE (ev_ifn (by omega) (ev_ifp q0 (ev_ifp (by omega) ?_)))))))
     by_cases c : rd u (n % rd v 0) ≥ 0
     · refine ev_ifp c (ev_to (Ev.now _) (decide_eq_decide.2 ?_))
       exact ⟨fun h => ⟨hu, hn, hs.2 ⟨c, h⟩⟩, fun h => (hs.1 h.2.2).2⟩
     · exact ev_ifn c (ev_to (Ev.now _) (decide_eq_false (fun h => c (hs.1 h.2.2).1)).symm)
   · exact ev_bind _ (usableI_ev hl) (ev_ifp (by simpa using hu) (ev_ifn (by simpa using hn) (ev_to (Ev.now _) (decide_eq_false (fun h => hn h.2.1)).symm)))
 · exact ev_bind _ (usableI_ev hl) (ev_ifn (by simpa using hu) (ev_to (Ev.now _) (decide_eq_false (fun h => hu h.1)).symm))
end Go.Proofs.Ytjjajcldmkmgkaa.E
end
section
namespace Go.Proofs.Ytjjajcldmkmgkaa.E
open Go.RowKit Go.Proofs.YtjjajcldmkmgkaaW.PrintWords Go.Proofs.YtjjajcldmkmgkaaW.PrintLast Go.Proofs.YtjjajcldmkmgkaaW.PrintMore
set_option linter.unusedVariables false
set_option linter.unusedSimpArgs false
theorem take_ul {v : List Int} (hv : ∀ x ∈ v, 1 ≤ x ∧ x ≤ 60) (i : Nat) : ∀ x ∈ v.take i, 1 ≤ x ∧ x ≤ 60 := fun x hx => hv x (List.mem_of_mem_take hx)
theorem gl_take {v : List Int} (hv : ∀ x ∈ v, 1 ≤ x ∧ x ≤ 60) {i : Int} (h0 : 1 ≤ i) (hi : i ≤ v.length) : 1 ≤ gl (v.take i.toNat) ∧ gl (v.take i.toNat) ≤ 60 :=
 gl_pos (take_ul hv _) (fun e => by have := congrArg List.length e; rw [List.length_take, List.length_nil] at this; omega)
theorem take_len {v : List Int} {i : Int} (h0 : 0 ≤ i) (hi : i ≤ v.length) : ((v.take i.toNat).length : Int) = i := by rw [List.length_take]; omega
end Go.Proofs.Ytjjajcldmkmgkaa.E
end
section
namespace Go.Proofs.Ytjjajcldmkmgkaa.E
open Go.RowKit Go.Proofs.Ytjjajcldmkmgkaa.PA Go.Proofs.YtjjajcldmkmgkaaW.PrintWords Go.Proofs.YtjjajcldmkmgkaaW.PrintLast Go.Proofs.YtjjajcldmkmgkaaW.PrintMore
set_option linter.unusedVariables false
set_option linter.unusedSimpArgs false
structure SG (v : List Int) : Prop where
 ul : UL v
 len : (v.length : Int) ≤ 12
 asc : Asc v
 gcd : gl v = 1
 min : ∀ i : Int, 1 ≤ i → i < v.length → ¬ Su (v.take i.toNat) (rd v i)
 ends : ∀ n, 200 ≤ n → Su v n
noncomputable instance (v : List Int) : Decidable (SG v) := Classical.propDecidable _
theorem ends_iff {v : List Int} {a : Int} (ha : 1 ≤ a) (hav : Su v a) : (∀ n, 200 ≤ n → Su v n) ↔ ∀ n, 200 ≤ n → n < 200 + a → Su v n := by
 constructor
 · intro h n h1 _; exact h n h1
 · intro h n hn
   have q0 := Int.emod_nonneg (n - 200) (b := a) (by omega)
   have q1 := Int.emod_lt_of_pos (n - 200) (b := a) (by omega)
   have le := emod_le_self (n := n - 200) (x := a) (by omega) (by omega)
   refine Su.up ha hav (h (200 + (n - 200) % a) (by omega) (by omega)) (by omega) ?_
   rw [Int.add_emod_emod]; congr 1; omega
theorem Lst.all {v : List Int} {a G : Int} {t : List Int} (h : Lst v a G t) (ha : 1 ≤ a) (hv : ∀ x ∈ v, 1 ≤ x ∧ x ≤ 60) (hg : gl v = 1) {r : Int} (h0 : 0 ≤ r) (h1 : r < a) : 0 ≤ rd t r := by
 obtain ⟨n, ⟨c, w⟩, e⟩ := all_classes ha hv hg r
 have := (h.least n c w).1
 rwa [e, Int.emod_eq_of_lt h0 h1] at this
theorem ends_lst {v : List Int} {a G : Int} {t : List Int} (h : Lst v a G t) (ha : 1 ≤ a) (hav : Su v a) (hv : ∀ x ∈ v, 1 ≤ x ∧ x ≤ 60) (hg : gl v = 1) : (∀ n, 200 ≤ n → Su v n) ↔ ∀ r, 0 ≤ r → r < a → rd t r < 200 + a := by
 rw [ends_iff ha hav]
 constructor
 · intro k r h0 h1
   have q0 := Int.emod_nonneg (r - 200) (b := a) (by omega)
   have q1 := Int.emod_lt_of_pos (r - 200) (b := a) (by omega)
   have e : (200 + (r - 200) % a) % a = r := by
    rw [Int.add_emod_emod, show 200 + (r - 200) = r from by omega, Int.emod_eq_of_lt h0 h1]
   have := (h.su ha hav).1 (k (200 + (r - 200) % a) (by omega) (by omega))
   rw [e] at this
   omega
 · intro k n h0 h1
   have q0 := Int.emod_nonneg n (b := a) (by omega)
   have q1 := Int.emod_lt_of_pos n (b := a) (by omega)
   have p := h.all ha hv hg q0 q1
   have b := k _ q0 q1
   refine (h.su ha hav).2 ⟨p, ?_⟩
   have e := (h.way _ q0 q1 p).2
   by_cases c : rd t (n % a) ≤ n
   · exact c
   · exfalso
     have e1 := Int.mul_ediv_add_emod n a
     have e2 := Int.mul_ediv_add_emod (rd t (n % a)) a
     rw [e] at e2
     have hq : a * (n / a) < a * (rd t (n % a) / a) := by omega
     have hq' : n / a < rd t (n % a) / a := Int.lt_of_mul_lt_mul_left hq (by omega)
     have : a * (n / a + 1) ≤ a * (rd t (n % a) / a) := Int.mul_le_mul_of_nonneg_left (by omega) (by omega)
     rw [Int.mul_add] at this
     omega
theorem sgI_l1 {v u : List Int} {a : Int} (hl : 0 < (v.length : Int)) (ha : rd v 0 = a) (ha1 : 1 ≤ a ∧ a ≤ 60) (hul : (u.length : Int) = a) (hb : ∀ r, 0 ≤ r → r < a → -1 ≤ rd u r ∧ rd u r ≤ 3600) (d : Nat) : ∀ i : Int, 0 ≤ i → i + d = a → ∃ r : Bool, Ev (fun k => impl_IsSemigroup.l1 k v u a i) r ∧ (r = true ↔ ∀ j, i ≤ j → j < a → rd u j < 200 + a) := by
 induction d with
 | zero =>
  intro i h0 h1
  exact ⟨true, Ev.step (fun k => by rw [impl_IsSemigroup.l1]) (ev_ifn (by omega) (Ev.now _)), fun _ j hj hj' => by omega, fun _ => rfl⟩
 | succ d ih =>
  intro i h0 h1
  have b := hb i h0 (by omega)
  by_cases c : rd u i - a ≥ 200
  · refine ⟨false, Ev.step (fun k => by rw [impl_IsSemigroup.l1]) ?_, fun h => (by cases h), fun h => ?_⟩
    · rw [ha, w64 (x := rd u i - a) (by omega) (by omega)]
      exact ev_ifp (by omega) (ev_ifp h0 (ev_ifp (by omega) (ev_ifp hl (ev_ifp c (Ev.now _)))))
    · have := h i (Int.le_refl _) (by omega); omega
  · obtain ⟨r, hE, hr⟩ := ih (i + 1) (by omega) (by omega)
    refine ⟨r, Ev.step (fun k => by rw [impl_IsSemigroup.l1]) ?_, ?_⟩
    · rw [ha, w64 (x := rd u i - a) (by omega) (by omega), w64 (x := i + 1) (by omega) (by omega)]
      exact ev_ifp (by omega) (ev_ifp h0 (ev_ifp (by omega) (ev_ifp hl (ev_ifn c hE))))
    · rw [hr]
      constructor
      · intro h j hj hj'
        by_cases e : j = i
        · rw [e]; omega
        · exact h j (by omega) hj'
      · intro h j hj hj'; exact h j (by omega) hj'
theorem gen_take {v : List Int} (hu : UL v) {i : Int} (h0 : 1 ≤ i) (hi : i < v.length) : Gen (v.take i.toNat) (rd v i) ↔ Su (v.take i.toNat) (rd v i) := by
 have hx := hu.2 _ (rd_mem (l := v) (i := i) (by omega) hi)
 have hl := hu.1
 exact ⟨fun h => h.2.2, fun h => ⟨⟨by rw [take_len (by omega) (by omega)]; omega, take_ul hu.2 _⟩, by omega, h⟩⟩
theorem sgI_l0 {v : List Int} (hu : UL v) (hg : gl v = 1) (d : Nat) : ∀ i : Int, 1 ≤ i → i + d = max 1 v.length → ∃ r : Bool, Ev (fun k => impl_IsSemigroup.l0 k v i) r ∧ (r = true ↔ (∀ j : Int, i ≤ j → j < v.length → ¬ Su (v.take j.toNat) (rd v j)) ∧ ∀ n, 200 ≤ n → Su v n) := by
 have hlen := hu.1
 induction d with
 | zero =>
  intro i h0 h1
  obtain ⟨f1, f2, f3⟩ := hu.first
  obtain ⟨u, hL, hE⟩ := leasts_ev (G := 60) (a := rd v 0) hu.2 (by omega) (by omega) f2 (by omega) (by omega)
  have hll := hL.len
  obtain ⟨r, hE', hr⟩ := sgI_l1 (v := v) (u := u) (a := rd v 0) (by omega) rfl ⟨f2, f3⟩ hll (fun r h0 h1 => ⟨hL.ge r h0 h1, by have := hL.bound r h0 h1; omega⟩) (rd v 0).toNat 0 (by omega) (by omega)
  refine ⟨r, Ev.step (fun k => by rw [impl_IsSemigroup.l0]) ?_, ?_⟩
  · refine ev_ifn (by omega) (ev_ifp (by omega) (ev_bind _ hE ?_))
    rw [hll]; exact hE'
  · rw [hr, ends_lst hL f2 (Su.mem f1) hu.2 hg]
    exact ⟨fun h => ⟨fun j hj hj' => by omega, h⟩, fun h => h.2⟩
 | succ d ih =>
  intro i h0 h1
  have g := gen_take hu h0 (by omega)
  have tl := take_len (v := v) (i := i) (by omega) (by omega)
  by_cases c : Su (v.take i.toNat) (rd v i)
  · refine ⟨false, Ev.step (fun k => by rw [impl_IsSemigroup.l0]) ?_, fun h => (by cases h), fun h => absurd c (h.1 i (Int.le_refl _) (by omega))⟩
    exact ev_ifp (by omega) (ev_ifp (by omega) (ev_ifp (by omega) (ev_bind _ (genI_ev _ (by omega)) (ev_ifp (by simpa using g.2 c) (Ev.now _)))))
  · obtain ⟨r, hE, hr⟩ := ih (i + 1) (by omega) (by omega)
    refine ⟨r, Ev.step (fun k => by rw [impl_IsSemigroup.l0]) ?_, ?_⟩
    · rw [w64 (x := i + 1) (by omega) (by omega)]
      exact ev_ifp (by omega) (ev_ifp (by omega) (ev_ifp (by omega) (ev_bind _ (genI_ev _ (by omega)) (ev_ifn (by simpa using fun h => c (g.1 h)) hE))))
    · rw [hr]
      constructor
      · rintro ⟨h, h'⟩
        refine ⟨fun j hj hj' => ?_, h'⟩
        by_cases e : j = i
        · rw [e]; exact c
        · exact h j (by omega) hj'
      · rintro ⟨h, h'⟩; exact ⟨fun j hj hj' => h j (by omega) hj', h'⟩
theorem sgI_ev {v : List Int} (hl : v.length ≤ 1099511627776) : Ev (fun k => impl_IsSemigroup.f k v) (decide (SG v)) := by
 unfold impl_IsSemigroup.f
 simp only [within_eq, Option.bind_some]
 have no : ¬ SG v → Ev (fun k => impl_IsSemigroup.j0 k v true) (decide (SG v)) := fun h => by
  refine Ev.step (fun k => by rw [impl_IsSemigroup.j0]) ?_
  exact ev_ifp rfl (ev_to (Ev.now _) (decide_eq_false h).symm)
 by_cases c1 : 1 ≤ (v.length : Int) ∧ (v.length : Int) ≤ 12
 · refine ev_ifp (by simpa using c1) ?_
   by_cases c2 : ∀ x ∈ v, 1 ≤ x ∧ x ≤ 60
   · refine ev_bind _ (allWithin_ev 1 60 hl) (ev_ifp (by rw [decide_eq_true_eq]; exact c2) ?_)
     have hu : UL v := ⟨by omega, c2⟩
     by_cases c3 : Asc v
     · refine ev_bind _ (ascI_ev hl) (ev_ifp (by simpa using c3) (ev_bind _ (gcdListI_ev hl) ?_))
       by_cases c4 : gl v = 1
       · obtain ⟨r, hE, hr⟩ := sgI_l0 hu c4 (v.length - 1) 1 (by omega) (by omega)
         refine Ev.step (fun k => by rw [impl_IsSemigroup.j0]) ?_
         refine ev_ifn (by simpa using c4) (ev_to hE ?_)
         rw [Bool.eq_iff_iff, hr, decide_eq_true_eq]
         exact ⟨fun h => ⟨hu, c1.2, c3, c4, h.1, h.2⟩, fun h => ⟨h.min, h.ends⟩⟩
       · rw [show (gl v != 1) = true from by simpa using c4]
         exact no (fun h => c4 h.gcd)
     · exact ev_bind _ (ascI_ev hl) (ev_ifn (by simpa using c3) (no (fun h => c3 h.asc)))
   · exact ev_bind _ (allWithin_ev 1 60 hl) (ev_ifn (by rw [decide_eq_true_eq]; exact c2) (no (fun h => c2 h.ul.2)))
 · exact ev_ifn (by simpa using c1) (no (fun h => c1 ⟨h.ul.1.1, h.len⟩))
theorem sortS_asc_l {v : List Int} (hl : v.length ≤ 1048576) (ha : Asc v) (d : Nat) : ∀ i : Int, 0 ≤ i → i + d = v.length → Ev (fun k => spec_SortList.l0 k v (v.take i.toNat) i) v := by
 induction d with
 | zero =>
  intro i h0 h1
  refine Ev.step (fun k => by rw [spec_SortList.l0]) ?_
  rw [List.take_of_length_le (by omega)]
  exact ev_ifn (by omega) (Ev.now _)
 | succ d ih =>
  intro i h0 h1
  have tl := take_len (v := v) (i := i) (by omega) (by omega)
  have nx := ih (i + 1) (by omega) (by omega)
  rw [take_rd h0 (by omega)] at nx
  refine Ev.step (fun k => by rw [spec_SortList.l0]) (ev_ifp (by omega) ?_)
  rw [tl]
  refine Ev.step (fun k => by rw [spec_SortList.l1]) ?_
  simp only [Option.bind_some]
  rw [w64 (x := i - 1) (by omega) (by omega), w64 (x := i + 1) (by omega) (by omega), List.drop_of_length_le (l := v.take i.toNat) (by omega), List.take_of_length_le (l := v.take i.toNat) (by omega)]
  have e0 : ([] : List Int).length + ([] : List Int).length < 17592186044416 := by simp
  have e1 : (v.take i.toNat).length < 17592186044416 := by omega
  have e2 : (v.take i.toNat ++ [rd v i]).length + ([] ++ [] : List Int).length < 17592186044416 := by simp; omega
  by_cases c : i > 0
  · have lt : rd (v.take i.toNat) (i - 1) < rd v i := by
     have e : rd (v.take i.toNat) (i - 1) = rd v (i - 1) := by
      rw [rd_lt (by omega) (by omega), rd_lt (by omega) (by omega), List.getElem_take]
     rw [e]; exact ha i c (by omega)
    refine ev_ifp c (ev_ifp (by omega) (ev_ifp (by omega) (ev_ifp h0 (ev_ifp (by omega) (ev_ifn (by omega) (ev_ifn (by omega) (ev_ifp h0 (ev_ifp (by omega) (ev_ifp e0 (ev_ifp e1 (ev_ifp e2 ?_)))))))))))
    simpa using nx
  · refine ev_ifn c (ev_ifp h0 (ev_ifp (by omega) (ev_ifp e0 (ev_ifp h0 (ev_ifp (by omega) (ev_ifp e1 (ev_ifp e2 ?_)))))))
    simpa using nx
theorem sortS_asc {v : List Int} (hl : v.length ≤ 1048576) (ha : Asc v) : Ev (fun k => spec_SortList.f k v) v := by
 unfold spec_SortList.f
 exact sortS_asc_l hl ha v.length 0 (by omega) (by omega)
theorem min_l {v : List Int} (hu : UL v) (d : Nat) : ∀ (i : Int) (out : List Int), 0 ≤ i → i + d = v.length → ((out = v.take i.toNat ∧ ∀ j : Int, 1 ≤ j → j < i → ¬ Su (v.take j.toNat) (rd v j)) ∨ ((out.length : Int) < i ∧ ¬ ∀ j : Int, 1 ≤ j → j < i → ¬ Su (v.take j.toNat) (rd v j))) →
 ∃ r, r.length ≤ 20 ∧ Ev (fun k => spec_l3Minimal.l0 k out v i) r ∧ (r = v ↔ ∀ j : Int, 1 ≤ j → j < v.length → ¬ Su (v.take j.toNat) (rd v j)) := by
 have hlen := hu.1
 induction d with
 | zero =>
  intro i out h0 h1 h2
  obtain rfl : i = v.length := by omega
  have hE : Ev (fun k => spec_l3Minimal.l0 k out v v.length) out := Ev.step (fun k => by rw [spec_l3Minimal.l0]) (ev_ifn (by omega) (Ev.now _))
  rcases h2 with ⟨e, h⟩ | ⟨e, h⟩
  · rw [List.take_of_length_le (by omega)] at e
    exact ⟨out, by rw [e]; omega, hE, fun _ => h, fun _ => e⟩
  · exact ⟨out, by omega, hE, fun e' => by rw [e'] at e; omega, fun h' => absurd h' h⟩
 | succ d ih =>
  intro i out h0 h1 h2
  have hx := hu.2 _ (rd_mem (l := v) h0 (by omega))
  have tl := take_len (v := v) (i := i) (by omega) (by omega)
  have ol : (out.length : Int) ≤ i := by
   rcases h2 with ⟨e, _⟩ | ⟨e, _⟩
   · rw [e, tl]; exact Int.le_refl _
   · omega
  by_cases c0 : i = 0
  · obtain ⟨r, r1, r2, r3⟩ := ih (i + 1) (out ++ [rd v i]) (by omega) (by omega) (by
     rcases h2 with ⟨e, _⟩ | ⟨e, _⟩
     · exact .inl ⟨by rw [take_rd h0 (by omega), e], fun j hj hj' => by omega⟩
     · omega)
    refine ⟨r, r1, Ev.step (fun k => by rw [spec_l3Minimal.l0]) ?_, r3⟩
    rw [w64 (x := i + 1) (by omega) (by omega)]
    exact ev_ifp (by omega) (ev_ifp c0 (ev_ifp h0 (ev_ifp (by omega) r2)))
  · obtain ⟨t, t1, t2, hE⟩ := tabS_ev (v := v.take i.toNat) (by omega) (take_ul hu.2 _) (most := rd v i) (by omega) (by omega)
    have ht := t2 (rd v i) (by omega) (Int.le_refl _)
    by_cases c : Su (v.take i.toNat) (rd v i)
    · obtain ⟨r, r1, r2, r3⟩ := ih (i + 1) out (by omega) (by omega) (.inr ⟨by omega, fun h => h i (by omega) (by omega) c⟩)
      refine ⟨r, r1, Ev.step (fun k => by rw [spec_l3Minimal.l0]) ?_, r3⟩
      rw [w64 (x := i + 1) (by omega) (by omega)]
      exact ev_ifp (by omega) (ev_ifn c0 (ev_ifp h0 (ev_ifp (by omega) (ev_bind _ hE (ev_ifp (by omega) (ev_ifp (by omega) (ev_ifp (ht.2 c) r2)))))))
    · obtain ⟨r, r1, r2, r3⟩ := ih (i + 1) (out ++ [rd v i]) (by omega) (by omega) (by
       rcases h2 with ⟨e, h⟩ | ⟨e, h⟩
       · refine .inl ⟨by rw [take_rd h0 (by omega), e], fun j hj hj' => ?_⟩
         by_cases ej : j = i
         · rw [ej]; exact c
         · exact h j hj (by omega)
       · refine .inr ⟨by simp; omega, fun h' => h fun j hj hj' => h' j hj (by omega)⟩)
      refine ⟨r, r1, Ev.step (fun k => by rw [spec_l3Minimal.l0]) ?_, r3⟩
      rw [w64 (x := i + 1) (by omega) (by omega)]
      exact ev_ifp (by omega) (ev_ifn c0 (ev_ifp h0 (ev_ifp (by omega) (ev_bind _ hE (ev_ifp (by omega) (ev_ifp (by omega) (ev_ifn (fun h => c (ht.1 h)) (ev_ifp (by omega) r2))))))))
theorem same2_l {l m : List Int} (hl : l.length ≤ 1099511627776) (e : l.length = m.length) (d : Nat) : ∀ (i : Int), 0 ≤ i → i + d = l.length → Ev (fun k => spec_l2Same.l0 k l m i) (decide (l.drop i.toNat = m.drop i.toNat)) := by
 induction d with
 | zero =>
  intro i h0 h1
  refine Ev.step (fun k => by rw [spec_l2Same.l0]) ?_
  refine ev_ifn (by omega) (ev_to (Ev.now _) ?_)
  rw [List.drop_of_length_le (by omega), List.drop_of_length_le (by omega)]; simp
 | succ d ih =>
  intro i h0 h1
  refine Ev.step (fun k => by rw [spec_l2Same.l0]) ?_
  rw [w64 (x := i + 1) (by omega) (by omega), drop_rd h0 (by omega), drop_rd (l := m) h0 (by omega)]
  refine ev_ifp (by omega) (ev_ifp h0 (ev_ifp (by omega) ?_))
  by_cases h : rd l i = rd m i
  · refine ev_ifp h (ev_to (ih (i + 1) (by omega) (by omega)) ?_)
    simp [h]
  · refine ev_ifn h (ev_to (Ev.now _) ?_)
    simp [h]
theorem same2_ev {l m : List Int} (hl : l.length ≤ 1099511627776) : Ev (fun k => spec_l2Same.f k l m) (decide (l = m)) := by
 unfold spec_l2Same.f
 by_cases e : l.length = m.length
 · refine ev_ifp (by omega) (ev_to (same2_l hl e l.length 0 (by omega) (by omega)) ?_)
   simp
 · refine ev_ifn (by omega) (ev_to (Ev.now _) ?_)
   simp; intro h; exact e (by rw [h])
theorem endsS_l {v : List Int} (hu : UL v) {t : List Bool} (t1 : (t.length : Int) = 261) (t2 : ∀ j, 0 ≤ j → j ≤ 260 → (rdOf false t j = true ↔ Su v j)) (d : Nat) : ∀ i : Int, 200 ≤ i → i + d = 200 + rd v 0 → ∃ r : Bool, Ev (fun k => spec_l3Ends.l0 k v t i) r ∧ (r = true ↔ ∀ n, i ≤ n → n < 200 + rd v 0 → Su v n) := by
 have f := hu.first
 have hlen := hu.1
 induction d with
 | zero =>
  intro i h0 h1
  refine ⟨true, Ev.step (fun k => by rw [spec_l3Ends.l0]) ?_, fun _ n hn hn' => by omega, fun _ => rfl⟩
  rw [w64 (x := 200 + rd v 0) (by omega) (by omega)]
  exact ev_ifp (by omega) (ev_ifn (by omega) (Ev.now _))
 | succ d ih =>
  intro i h0 h1
  have ht := t2 i (by omega) (by omega)
  by_cases c : Su v i
  · obtain ⟨r, hE, hr⟩ := ih (i + 1) (by omega) (by omega)
    refine ⟨r, Ev.step (fun k => by rw [spec_l3Ends.l0]) ?_, ?_⟩
    · rw [w64 (x := 200 + rd v 0) (by omega) (by omega), w64 (x := i + 1) (by omega) (by omega)]
      exact ev_ifp (by omega) (ev_ifp (by omega) (ev_ifp (by omega) (ev_ifp (by omega) (ev_ifp (ht.2 c) hE))))
    · rw [hr]
      constructor
      · intro h n hn hn'
        by_cases e : n = i
        · rw [e]; exact c
        · exact h n (by omega) hn'
      · intro h n hn hn'; exact h n (by omega) hn'
  · refine ⟨false, Ev.step (fun k => by rw [spec_l3Ends.l0]) ?_, fun h => (by cases h), fun h => absurd (h i (Int.le_refl _) (by omega)) c⟩
    rw [w64 (x := 200 + rd v 0) (by omega) (by omega)]
    exact ev_ifp (by omega) (ev_ifp (by omega) (ev_ifp (by omega) (ev_ifp (by omega) (ev_ifn (fun h => c (ht.1 h)) (Ev.now _)))))
theorem sgS_ev {v : List Int} (hl : v.length ≤ 1099511627776) : Ev (fun k => spec_IsSemigroup.f k v) (decide (SG v)) := by
 unfold spec_IsSemigroup.f
 by_cases hu : UL v
 · refine ev_bind _ (gensS_ev hl) (ev_ifp (by simpa using hu) ?_)
   by_cases c1 : (v.length : Int) ≤ 12
   · refine ev_ifp c1 ?_
     by_cases c3 : Asc v
     · refine ev_bind _ (ascS_ev hl) (ev_ifp (by simpa using c3) (ev_bind _ (gcdListS_ev hl) ?_))
       by_cases c4 : gl v = 1
       · have hlen := hu.1
         obtain ⟨f1, f2, f3⟩ := hu.first
         obtain ⟨r, r1, r2, r3⟩ := min_l hu v.length 0 [] (by omega) (by omega) (.inl ⟨by simp, fun j hj hj' => by omega⟩)
         refine ev_ifp c4 (ev_bind r ?_ (ev_bind _ (same2_ev (l := r) (m := v) (by omega)) ?_))
         · unfold spec_l3Minimal.f
           exact ev_bind _ (sortS_asc (by omega) c3) r2
         · by_cases c5 : r = v
           · obtain ⟨t, t1, t2, hE⟩ := tabS_ev (v := v) (by omega) hu.2 (most := 260) (by omega) (by omega)
             obtain ⟨b, b1, b2⟩ := endsS_l hu (by omega) t2 (rd v 0).toNat 200 (by omega) (by omega)
             refine ev_ifp (by simpa using c5) (ev_bind b ?_ (ev_to (Ev.now _) ?_))
             · unfold spec_l3Ends.f
               exact ev_bind _ hE b1
             · rw [Bool.eq_iff_iff, b2, ← ends_iff f2 (Su.mem f1), decide_eq_true_eq]
               exact ⟨fun h => ⟨hu, c1, c3, c4, r3.1 c5, h⟩, fun h => h.ends⟩
           · exact ev_ifn (by simpa using c5) (ev_to (Ev.now _) (decide_eq_false (fun h => c5 (r3.2 h.min))).symm)
       · exact ev_ifn c4 (ev_to (Ev.now _) (decide_eq_false (fun h => c4 h.gcd)).symm)
     · exact ev_bind _ (ascS_ev hl) (ev_ifn (by simpa using c3) (ev_to (Ev.now _) (decide_eq_false (fun h => c3 h.asc)).symm))
   · exact ev_ifn c1 (ev_to (Ev.now _) (decide_eq_false (fun h => c1 h.len)).symm)
 · exact ev_bind _ (gensS_ev hl) (ev_ifn (by simpa using hu) (ev_to (Ev.now _) (decide_eq_false (fun h => hu h.ul)).symm))
end Go.Proofs.Ytjjajcldmkmgkaa.E
end
section
namespace Go.Proofs.Ytjjajcldmkmgkaa.E
open Go.RowKit Go.Proofs.YtjjajcldmkmgkaaW.PrintWords Go.Proofs.YtjjajcldmkmgkaaW.PrintLast Go.Proofs.YtjjajcldmkmgkaaW.PrintMore
set_option linter.unusedVariables false
set_option linter.unusedSimpArgs false
theorem asc_lt {g : List Int} (h : Asc g) (d : Nat) : ∀ i j : Int, 0 ≤ i → j = i + d + 1 → j < g.length → rd g i < rd g j := by
 induction d with
 | zero =>
  intro i j h0 h1 h2
  have := h j (by omega) h2
  rwa [show j - 1 = i from by omega] at this
 | succ d ih =>
  intro i j h0 h1 h2
  have a := ih i (j - 1) h0 (by omega) (by omega)
  have b := h j (by omega) h2
  omega
def fl (p : Int → Bool) (i : Int) : Nat → List Int
 | 0 => []
 | d + 1 => if p i = true then i :: fl p (i + 1) d else fl p (i + 1) d
theorem fl_yes {p : Int → Bool} {i : Int} {d : Nat} (h : p i = true) : fl p i (d + 1) = i :: fl p (i + 1) d := by rw [fl, if_pos h]
theorem fl_no {p : Int → Bool} {i : Int} {d : Nat} (h : ¬ p i = true) : fl p i (d + 1) = fl p (i + 1) d := by rw [fl, if_neg h]
theorem fl_app (p : Int → Bool) (d e : Nat) : ∀ i : Int, fl p i (d + e) = fl p i d ++ fl p (i + d) e := by
 induction d with
 | zero => intro i; simp [fl]
 | succ d ih =>
  intro i
  rw [show d + 1 + e = (d + e) + 1 from by omega, show i + ((d + 1 : Nat) : Int) = i + 1 + d from by omega]
  by_cases h : p i = true
  · rw [fl_yes h, fl_yes h, ih, List.cons_append]
  · rw [fl_no h, fl_no h, ih]
theorem fl_mem {p : Int → Bool} {x : Int} (d : Nat) : ∀ i : Int, x ∈ fl p i d ↔ i ≤ x ∧ x < i + d ∧ p x = true := by
 induction d with
 | zero => intro i; simp [fl]; omega
 | succ d ih =>
  intro i
  by_cases h : p i = true
  · rw [fl_yes h, List.mem_cons, ih]
    constructor
    · rintro (rfl | ⟨a, b, c⟩)
      · exact ⟨Int.le_refl _, by omega, h⟩
      · exact ⟨by omega, by omega, c⟩
    · rintro ⟨a, b, c⟩
      by_cases e : x = i
      · exact .inl e
      · exact .inr ⟨by omega, by omega, c⟩
  · rw [fl_no h, ih]
    constructor
    · rintro ⟨a, b, c⟩; exact ⟨by omega, by omega, c⟩
    · rintro ⟨a, b, c⟩
      by_cases e : x = i
      · subst e; exact absurd c h
      · exact ⟨by omega, by omega, c⟩
theorem fl_len (p : Int → Bool) (d : Nat) : ∀ i : Int, (fl p i d).length ≤ d := by
 induction d with
 | zero => intro i; simp [fl]
 | succ d ih =>
  intro i
  have := ih (i + 1)
  by_cases h : p i = true
  · rw [fl_yes h, List.length_cons]; omega
  · rw [fl_no h]; omega
theorem asc_cons {x : Int} {l : List Int} (h : ∀ y ∈ l, x < y) (ha : Asc l) : Asc (x :: l) := by
 intro i h0 h1
 rw [List.length_cons] at h1
 have e : ∀ j : Int, 0 < j → rd (x :: l) j = rd l (j - 1) := fun j hj => by
  unfold rd; rw [show j.toNat = (j - 1).toNat + 1 from by omega, List.getD_cons_succ]
 by_cases c : i = 1
 · subst c
   rw [e 1 (by omega)]
   exact h _ (rd_mem (by omega) (by omega))
 · rw [e i h0, e (i - 1) (by omega)]
   exact ha (i - 1) (by omega) (by omega)
theorem fl_last {p : Int → Bool} {i : Int} {d : Nat} (h : fl p i d ≠ []) : ∃ x, i ≤ x ∧ x < i + d ∧ p x = true ∧ (∀ y, x < y → y < i + d → ¬ p y = true) ∧ rd (fl p i d) ((fl p i d).length - 1) = x := by
 induction d with
 | zero => exact absurd rfl h
 | succ d ih =>
  rw [show d + 1 = d + 1 from rfl, fl_app p d 1 i] at h ⊢
  by_cases c : p (i + d) = true
  · refine ⟨i + d, by omega, by omega, c, fun y a b => by omega, ?_⟩
    rw [show fl p (i + d) 1 = [i + d] from by rw [show (1 : Nat) = 0 + 1 from rfl, fl_yes c]; rfl]
    rw [rd_append (by simp), if_neg (by simp)]
    simp [rd]
  · have e : fl p (i + d) 1 = [] := by rw [show (1 : Nat) = 0 + 1 from rfl, fl_no c]; rfl
    rw [e, List.append_nil] at h ⊢
    obtain ⟨x, a, b, q, r, s⟩ := ih h
    refine ⟨x, a, by omega, q, fun y hy hy' => ?_, s⟩
    by_cases ey : y = i + d
    · rw [ey]; exact c
    · exact r y hy (by omega)
end Go.Proofs.Ytjjajcldmkmgkaa.E
end
section
namespace Go.Proofs.Ytjjajcldmkmgkaa.E
open Go.RowKit Go.Proofs.Ytjjajcldmkmgkaa.PA Go.Proofs.YtjjajcldmkmgkaaW.PrintWords Go.Proofs.YtjjajcldmkmgkaaW.PrintLast Go.Proofs.YtjjajcldmkmgkaaW.PrintMore
set_option linter.unusedVariables false
set_option linter.unusedSimpArgs false
def pw (l : List Int) : Prop := l.Pairwise (· < ·)
theorem pw_asc {l : List Int} (h : pw l) : Asc l := by
 induction l with
 | nil => intro i h0 h1; simp at h1; omega
 | cons x l ih => exact asc_cons (List.pairwise_cons.1 h).1 (ih (List.pairwise_cons.1 h).2)
theorem pw_eq : ∀ {a b : List Int}, pw a → pw b → (∀ z, z ∈ a ↔ z ∈ b) → a = b
 | [], [], _, _, _ => rfl
 | [], y :: b, _, _, h => absurd ((h y).2 (List.mem_cons_self ..)) (by simp)
 | x :: a, [], _, _, h => absurd ((h x).1 (List.mem_cons_self ..)) (by simp)
 | x :: a, y :: b, ha, hb, h => by
  have ha' := List.pairwise_cons.1 ha
  have hb' := List.pairwise_cons.1 hb
  have e : x = y := by
   rcases List.mem_cons.1 ((h x).1 (List.mem_cons_self ..)) with k | k
   · exact k
   · rcases List.mem_cons.1 ((h y).2 (List.mem_cons_self ..)) with q | q
     · exact q.symm
     · have := ha'.1 y q; have := hb'.1 x k; omega
  subst e
  refine congrArg (x :: ·) (pw_eq ha'.2 hb'.2 fun z => ⟨fun k => ?_, fun k => ?_⟩)
  · rcases List.mem_cons.1 ((h z).1 (List.mem_cons_of_mem _ k)) with q | q
    · have := ha'.1 z k; omega
    · exact q
  · rcases List.mem_cons.1 ((h z).2 (List.mem_cons_of_mem _ k)) with q | q
    · have := hb'.1 z k; omega
    · exact q
def ins1 (x : Int) : List Int → List Int
 | [] => [x]
 | y :: l => if x < y then x :: y :: l else if x = y then y :: l else y :: ins1 x l
theorem ins1_mem {x z : Int} : ∀ {l : List Int}, z ∈ ins1 x l ↔ z = x ∨ z ∈ l
 | [] => by simp [ins1]
 | y :: l => by
  unfold ins1
  split
  · simp
  · split
    · rename_i e; subst e; simp
    · rw [List.mem_cons, ins1_mem, List.mem_cons]; constructor
      · rintro (a | a | a)
        · exact .inr (.inl a)
        · exact .inl a
        · exact .inr (.inr a)
      · rintro (a | a | a)
        · exact .inr (.inl a)
        · exact .inl a
        · exact .inr (.inr a)
theorem ins1_pw {x : Int} : ∀ {l : List Int}, pw l → pw (ins1 x l)
 | [], _ => by simp [ins1, pw]
 | y :: l, h => by
  have h' := List.pairwise_cons.1 h
  unfold ins1
  split
  · rename_i c
    refine List.pairwise_cons.2 ⟨fun z hz => ?_, h⟩
    rcases List.mem_cons.1 hz with rfl | k
    · exact c
    · have := h'.1 z k; omega
  · split
    · exact h
    · rename_i c e
      refine List.pairwise_cons.2 ⟨fun z hz => ?_, ins1_pw h'.2⟩
      rcases ins1_mem.1 hz with rfl | k
      · omega
      · exact h'.1 z k
def srt (l : List Int) : List Int := l.foldr ins1 []
theorem srt_mem {z : Int} : ∀ {l : List Int}, z ∈ srt l ↔ z ∈ l
 | [] => by simp [srt]
 | x :: l => by
  have := srt_mem (z := z) (l := l)
  unfold srt at this ⊢
  rw [List.foldr_cons, ins1_mem, this, List.mem_cons]
theorem srt_pw : ∀ l : List Int, pw (srt l)
 | [] => by simp [srt, pw]
 | x :: l => by have := srt_pw l; unfold srt at this ⊢; rw [List.foldr_cons]; exact ins1_pw this
theorem ins1_len {x : Int} : ∀ {l : List Int}, (ins1 x l).length ≤ l.length + 1
 | [] => by simp [ins1]
 | y :: l => by
  have := ins1_len (x := x) (l := l)
  unfold ins1
  split
  · simp
  · split <;> simp <;> omega
theorem srt_len : ∀ l : List Int, (srt l).length ≤ l.length
 | [] => by simp [srt]
 | x :: l => by
  have := srt_len l
  have h := ins1_len (x := x) (l := srt l)
  unfold srt at this h ⊢
  rw [List.foldr_cons, List.length_cons]; omega
theorem pw_put {l : List Int} {x : Int} {p : Nat} (h : pw l) (lo : ∀ z ∈ l.take p, z < x) (hi : ∀ z ∈ l.drop p, x < z) : pw (l.take p ++ [x] ++ l.drop p) := by
 unfold pw at h ⊢
 rw [List.append_assoc]
 refine List.pairwise_append.2 ⟨h.sublist (List.take_sublist ..), List.pairwise_append.2 ⟨by simp, h.sublist (List.drop_sublist ..), fun a ha b hb => ?_⟩, fun a ha b hb => ?_⟩
 · rw [List.mem_singleton] at ha; subst ha; exact hi b hb
 · rcases List.mem_append.1 hb with q | q
   · rw [List.mem_singleton] at q; subst q; exact lo a ha
   · have := lo a ha; have := hi b q; omega
theorem srt_l1 {l : List Int} (hl : l.length ≤ 1048576) {i : Int} (h0 : 0 ≤ i) (hi : i < l.length) {x3 : List Int} (h3 : pw x3) (hn : (x3.length : Int) ≤ i) {r : List Int} (N : ∀ y, pw y → (y.length : Int) ≤ i + 1 → (∀ z, z ∈ y ↔ z ∈ x3 ∨ z = rd l i) → Ev (fun k => spec_SortList.l0 k l y (i + 1)) r) (d : Nat) : ∀ p : Int, p = d → p ≤ x3.length → (∀ z ∈ x3.drop p.toNat, rd l i < z) → Ev (fun k => spec_SortList.l1 k l x3 i p) r := by
 have put : ∀ p : Int, 0 ≤ p → p ≤ x3.length → (∀ z ∈ x3.take p.toNat, z < rd l i) → (∀ z ∈ x3.drop p.toNat, rd l i < z) → Ev (fun k => spec_SortList.l0 k l (x3.take p.toNat ++ [rd l i] ++ ([] ++ x3.drop p.toNat)) (i + 1)) r := fun p p0 p1 a b => by
  rw [List.nil_append]
  refine N _ (pw_put h3 a b) ?_ fun z => ?_
  · have := take_len p0 p1
    rw [List.length_append, List.length_append, List.length_singleton, List.length_drop]; omega
  · have e := List.take_append_drop p.toNat x3
    constructor
    · intro k
      rcases List.mem_append.1 k with k | k
      · rcases List.mem_append.1 k with k | k
        · exact .inl (List.mem_of_mem_take k)
        · exact .inr (List.mem_singleton.1 k)
      · exact .inl (List.mem_of_mem_drop k)
    · rintro (k | k)
      · rw [← e] at k
        rcases List.mem_append.1 k with k | k
        · exact List.mem_append_left _ (List.mem_append_left _ k)
        · exact List.mem_append_right _ k
      · exact List.mem_append_left _ (List.mem_append_right _ (List.mem_singleton.2 k))
 have w1 := w64 (x := i + 1) (by omega) (by omega)
 induction d with
 | zero =>
  intro p hp hp' hh
  have pt := put p (by omega) hp' (fun z hz => by rw [show p.toNat = 0 from by omega] at hz; simp at hz) hh
  have tl := take_len (v := x3) (i := p) (by omega) hp'
  refine Ev.step (fun k => by rw [spec_SortList.l1]) (ev_ifn (by omega) ?_)
  simp only [Option.bind_some]
  rw [w1]
  have dl : (x3.drop p.toNat).length ≤ x3.length := by rw [List.length_drop]; omega
  refine ev_ifp (by omega) (ev_ifp (by omega) (ev_ifp (by simp only [List.length_nil]; omega) (ev_ifp (by omega) (ev_ifp (by omega) (ev_ifp (by omega) (ev_ifp (by simp only [List.length_append, List.length_nil, List.length_singleton]; omega) pt))))))
 | succ d ih =>
  intro p hp hp' hh
  have dr := drop_rd (l := x3) (i := p - 1) (by omega) (by omega)
  rw [show p - 1 + 1 = p from by omega] at dr
  have tl := take_len (v := x3) (i := p) (by omega) hp'
  have dl : (x3.drop p.toNat).length ≤ x3.length := by rw [List.length_drop]; omega
  refine Ev.step (fun k => by rw [spec_SortList.l1]) (ev_ifp (by omega) ?_)
  rw [w64 (x := p - 1) (by omega) (by omega), w1]
  refine ev_ifp (by omega) (ev_ifp (by omega) (ev_ifp (by omega) (ev_ifp (by omega) ?_)))
  by_cases c : rd x3 (p - 1) > rd l i
  · exact ev_ifp c (ih (p - 1) (by omega) (by omega) (fun z hz => by
     rw [dr] at hz
     rcases List.mem_cons.1 hz with rfl | k
     · exact c
     · exact hh z k))
  · refine ev_ifn c ?_
    by_cases e : rd x3 (p - 1) = rd l i
    · refine ev_ifp e (N x3 h3 (by omega) fun z => ⟨fun k => .inl k, fun k => ?_⟩)
      rcases k with k | k
      · exact k
      · rw [k, ← e]; exact rd_mem (by omega) (by omega)
    · have pt := put p (by omega) hp' (fun z hz => by
       obtain ⟨j, j0, j1, j2⟩ := mem_rd hz
       rw [tl] at j1
       rw [← j2, rd_lt j0 (by rw [tl]; exact j1), List.getElem_take]
       rw [show x3[j.toNat]'(by omega) = rd x3 j from (rd_lt j0 (by omega)).symm]
       by_cases q : j = p - 1
       · rw [q]; omega
       · have := asc_lt (pw_asc h3) (p - 1 - j - 1).toNat j (p - 1) j0 (by omega) (by omega)
         omega) hh
      refine ev_ifn e ?_
      simp only [Option.bind_some]
      refine ev_ifp (by omega) (ev_ifp (by omega) (ev_ifp (by simp only [List.length_nil]; omega) (ev_ifp (by omega) (ev_ifp (by simp only [List.length_append, List.length_nil, List.length_singleton]; omega) pt))))
theorem srt_l0 {l : List Int} (hl : l.length ≤ 1048576) (d : Nat) : ∀ (i : Int) (x3 : List Int), 0 ≤ i → i + d = l.length → pw x3 → (x3.length : Int) ≤ i → (∀ z, z ∈ x3 ↔ z ∈ l.take i.toNat) → Ev (fun k => spec_SortList.l0 k l x3 i) (srt l) := by
 induction d with
 | zero =>
  intro i x3 h0 h1 h3 h4 h5
  refine Ev.step (fun k => by rw [spec_SortList.l0]) (ev_ifn (by omega) (ev_to (Ev.now _) ?_))
  rw [show i.toNat = l.length from by omega, List.take_length] at h5
  exact pw_eq h3 (srt_pw l) fun z => by rw [h5, srt_mem]
 | succ d ih =>
  intro i x3 h0 h1 h3 h4 h5
  refine Ev.step (fun k => by rw [spec_SortList.l0]) (ev_ifp (by omega) (srt_l1 hl h0 (by omega) h3 h4 (fun y y1 y2 y3 => ih (i + 1) y (by omega) (by omega) y1 y2 fun z => ?_) x3.length x3.length rfl (Int.le_refl _) (fun z hz => by simp at hz)))
  rw [y3, h5, take_rd h0 (by omega), List.mem_append, List.mem_singleton]
theorem sortS_srt {l : List Int} (hl : l.length ≤ 1048576) : Ev (fun k => spec_SortList.f k l) (srt l) :=
 srt_l0 hl l.length 0 [] (by omega) (by omega) (by simp [pw]) (by simp) (fun z => by simp)
theorem Su.all {v u : List Int} (h : ∀ x ∈ u, Su v x) {n : Int} (k : Su u n) : Su v n := by
 obtain ⟨c, w⟩ := k
 induction w with
 | zero => exact Su.zero v
 | add hx _ ih => exact ih.add (h _ hx)
noncomputable def mnk (u : List Int) : Nat → List Int
 | 0 => []
 | i + 1 => if Su (u.take i) (rd u i) then mnk u i else mnk u i ++ [rd u i]
theorem mnk_yes {u : List Int} {i : Nat} (c : Su (u.take i) (rd u i)) : mnk u (i + 1) = mnk u i := if_pos c
theorem mnk_no {u : List Int} {i : Nat} (c : ¬ Su (u.take i) (rd u i)) : mnk u (i + 1) = mnk u i ++ [rd u i] := if_neg c
theorem su_nil {n : Int} (h : Su [] n) : n = 0 := by
 obtain ⟨c, w⟩ := h
 cases w with
 | zero => rfl
 | add hm _ => simp at hm
theorem mnk_len (u : List Int) (i : Nat) : (mnk u i).length ≤ i := by
 induction i with
 | zero => exact Nat.le_refl 0
 | succ i ih =>
  unfold mnk
  split
  · omega
  · rw [List.length_append, List.length_singleton]; omega
theorem mnk_mem {u : List Int} (i : Nat) : i ≤ u.length → ∀ x ∈ mnk u i, x ∈ u.take i := by
 induction i with
 | zero => intro _ x hx; exact absurd hx (by rw [show mnk u 0 = [] from rfl]; simp)
 | succ i ih =>
  intro hi x hx
  have tr := take_rd (l := u) (i := i) (by omega) (by omega)
  rw [show ((i : Int) + 1).toNat = i + 1 from by omega, show (i : Int).toNat = i from by omega] at tr
  rw [tr, List.mem_append, List.mem_singleton]
  unfold mnk at hx
  split at hx
  · exact .inl (ih (by omega) x hx)
  · rcases List.mem_append.1 hx with k | k
    · exact .inl (ih (by omega) x k)
    · exact .inr (List.mem_singleton.1 k)
theorem mnk_su {u : List Int} (i : Nat) : i ≤ u.length → ∀ n, Su (mnk u i) n ↔ Su (u.take i) n := by
 induction i with
 | zero => intro _ n; rw [List.take_zero]; exact Iff.rfl
 | succ i ih =>
  intro hi n
  have hm := mnk_mem (u := u) (i + 1) hi
  refine ⟨fun k => k.all fun x hx => Su.mem (hm x hx), fun k => k.all fun x hx => ?_⟩
  have tr := take_rd (l := u) (i := i) (by omega) (by omega)
  rw [show ((i : Int) + 1).toNat = i + 1 from by omega, show (i : Int).toNat = i from by omega] at tr
  rw [tr, List.mem_append, List.mem_singleton] at hx
  unfold mnk
  split
  · rename_i c
    rw [ih (by omega)]
    rcases hx with q | q
    · exact Su.mem q
    · rw [q]; exact c
  · rcases hx with q | q
    · exact ((ih (by omega) x).2 (Su.mem q)).mono fun y hy => List.mem_append_left _ hy
    · exact Su.mem (List.mem_append_right _ (List.mem_singleton.2 q))
theorem srt_ul {l : List Int} (h : UL l) : UL (srt l) := by
 have hl := h.1
 refine ⟨⟨?_, by have := srt_len l; omega⟩, fun x hx => h.2 x (srt_mem.1 hx)⟩
 have := List.length_pos_of_mem (srt_mem.2 h.first.1)
 omega
theorem min_mnk {u : List Int} (hu : UL u) (d : Nat) : ∀ i : Nat, i + d = u.length → Ev (fun k => spec_l3Minimal.l0 k (mnk u i) u i) (mnk u u.length) := by
 have hlen := hu.1
 induction d with
 | zero =>
  intro i hi
  rw [show i = u.length from by omega]
  exact Ev.step (fun k => by rw [spec_l3Minimal.l0]) (ev_ifn (by omega) (Ev.now _))
 | succ d ih =>
  intro i hi
  have nx := ih (i + 1) (by omega)
  have ml := mnk_len u i
  have hx := hu.2 _ (rd_mem (l := u) (i := (i : Int)) (by omega) (by omega))
  refine Ev.step (fun k => by rw [spec_l3Minimal.l0]) ?_
  rw [w64 (x := (i : Int) + 1) (by omega) (by omega)]
  rw [show (((i + 1 : Nat)) : Int) = (i : Int) + 1 from by omega] at nx
  by_cases c0 : (i : Int) = 0
  · have : i = 0 := by omega
    subst this
    rw [mnk_no (i := 0) (fun c => by rw [List.take_zero] at c; have := su_nil c; omega)] at nx
    exact ev_ifp (by omega) (ev_ifp c0 (ev_ifp (by omega) (ev_ifp (by omega) nx)))
  · have tl := take_len (v := u) (i := (i : Int)) (by omega) (by omega)
    obtain ⟨t, t1, t2, hE⟩ := tabS_ev (v := u.take (i : Int).toNat) (by omega) (take_ul hu.2 _) (most := rd u (i : Int)) (by omega) (by omega)
    have ht := t2 (rd u (i : Int)) (by omega) (Int.le_refl _)
    rw [show (i : Int).toNat = i from by omega] at ht hE
    rw [show (i : Int).toNat = i from by omega]
    by_cases c : Su (u.take i) (rd u (i : Int))
    · rw [mnk_yes c] at nx
      exact ev_ifp (by omega) (ev_ifn c0 (ev_ifp (by omega) (ev_ifp (by omega) (ev_bind _ hE (ev_ifp (by omega) (ev_ifp (by omega) (ev_ifp (ht.2 c) nx)))))))
    · rw [mnk_no c] at nx
      exact ev_ifp (by omega) (ev_ifn c0 (ev_ifp (by omega) (ev_ifp (by omega) (ev_bind _ hE (ev_ifp (by omega) (ev_ifp (by omega) (ev_ifn (fun h => c (ht.1 h)) (ev_ifp (by omega) nx))))))))
noncomputable def mns (l : List Int) : List Int := mnk (srt l) (srt l).length
theorem mns_len {l : List Int} : (mns l).length ≤ l.length := Nat.le_trans (mnk_len _ _) (srt_len l)
theorem mns_su {l : List Int} {n : Int} : Su (mns l) n ↔ Su l n := by
 unfold mns
 rw [mnk_su _ (Nat.le_refl _), List.take_length]
 exact ⟨fun h => h.mono fun x hx => srt_mem.1 hx, fun h => h.mono fun x hx => srt_mem.2 hx⟩
theorem l3Minimal_ev {l : List Int} (h : UL l) : Ev (fun k => spec_l3Minimal.f k l) (mns l) := by
 unfold spec_l3Minimal.f
 have := min_mnk (srt_ul h) (srt l).length 0 (by omega)
 exact ev_bind _ (sortS_srt (by have := h.1; omega)) this
def FN (l : List Int) : Prop := UL l ∧ SG (mns l)
noncomputable instance (l : List Int) : Decidable (FN l) := Classical.propDecidable _
noncomputable def fns (l : List Int) : List Int × Bool := if FN l then (mns l, true) else ([], false)
theorem fns_len (l : List Int) : (fns l).1.length ≤ 20 := by
 unfold fns
 split
 · rename_i h; have := h.1.1; have := mns_len (l := l); simp only; omega
 · simp
theorem fromGensS_ev {l : List Int} (hl : l.length ≤ 1099511627776) : Ev (fun k => spec_FromGens.f k l) (fns l) := by
 unfold spec_FromGens.f fns
 refine ev_bind _ (gensS_ev hl) ?_
 by_cases h : UL l
 · have ml := mns_len (l := l)
   refine ev_ifp (by simpa using h) (ev_bind _ (l3Minimal_ev h) (ev_bind _ (sgS_ev (by omega)) ?_))
   by_cases s : SG (mns l)
   · exact ev_ifp (by simpa using s) (ev_to (Ev.now _) (if_pos (show FN l from ⟨h, s⟩)).symm)
   · exact ev_ifn (by simpa using s) (ev_to (Ev.now _) (if_neg (show ¬ FN l from fun k => s k.2)).symm)
 · exact ev_ifn (by simpa using h) (ev_to (Ev.now _) (if_neg (show ¬ FN l from fun k => h k.1)).symm)
theorem fg0 : spec_FromGens.f 3000 [1] = some ([1], true) := by kernel_rfl
theorem fg1 : spec_FromGens.f 3000 [3, 5] = some ([3, 5], true) := by kernel_rfl
theorem fg2 : spec_FromGens.f 3000 [4, 6, 9] = some ([4, 6, 9], true) := by kernel_rfl
theorem fg3 : spec_FromGens.f 3000 [3, 4, 5] = some ([3, 4, 5], true) := by kernel_rfl
theorem fg4 : spec_FromGens.f 3000 [6, 9, 20] = some ([6, 9, 20], true) := by kernel_rfl
theorem fg5 : spec_FromGens.f 3000 [5, 7, 9, 11] = some ([5, 7, 9, 11], true) := by kernel_rfl
theorem fg6 : spec_FromGens.f 3000 [2, 3] = some ([2, 3], true) := by kernel_rfl
theorem fg7 : spec_FromGens.f 3000 [4, 5, 11] = some ([4, 5, 11], true) := by kernel_rfl
def L8 : List (List Int) := [[1], [3, 5], [4, 6, 9], [3, 4, 5], [6, 9, 20], [5, 7, 9, 11], [2, 3], [4, 5, 11]]
theorem fg_L8 {l : List Int} (h : l ∈ L8) : Ev (fun k => spec_FromGens.f k l) (l, true) := by
 simp only [L8, List.mem_cons, List.not_mem_nil, or_false] at h
 rcases h with rfl | rfl | rfl | rfl | rfl | rfl | rfl | rfl
 · exact Ev.of (spec_FromGens.mono _) fg0
 · exact Ev.of (spec_FromGens.mono _) fg1
 · exact Ev.of (spec_FromGens.mono _) fg2
 · exact Ev.of (spec_FromGens.mono _) fg3
 · exact Ev.of (spec_FromGens.mono _) fg4
 · exact Ev.of (spec_FromGens.mono _) fg5
 · exact Ev.of (spec_FromGens.mono _) fg6
 · exact Ev.of (spec_FromGens.mono _) fg7
theorem sg_L8 {l : List Int} (h : l ∈ L8) : SG l := by
 have hl : l.length ≤ 1099511627776 := by
  simp only [L8, List.mem_cons, List.not_mem_nil, or_false] at h
  rcases h with rfl | rfl | rfl | rfl | rfl | rfl | rfl | rfl <;> simp
 have e := ev_one (fromGensS_ev hl) (fg_L8 h)
 unfold fns at e
 split at e
 · rename_i f
   rw [Prod.mk.injEq] at e
   exact e.1 ▸ f.2
 · simp at e
theorem once_ok {b : List Int} {i : Int} (h : Int) (c : Cu b i) {n : Int} (hn : 0 < n) : ∃ x j g, spec_l1Once.f b i h n = some (x, j, g) ∧ Cu b j := by
 obtain ⟨x, j, g, e, _, cj⟩ := below_ok h c hn
 exact ⟨_, j, g, by unfold spec_l1Once.f; rw [e]; rfl, cj⟩
theorem list_ok {b : List Int} {i : Int} (h : Int) (c : Cu b i) : ∃ l j g, spec_l3List.f b i h = some (l, j, g) ∧ l ∈ L8 ∧ Cu b j := by
 obtain ⟨x, j, g, e, hx, cj⟩ := below_ok h c (n := 8) (by omega)
 unfold spec_l3List.f
 rw [e]
 simp only [Option.bind_some]
 by_cases c0 : x = 0
 · exact ⟨_, j, g, by rw [if_pos c0], by simp [L8], cj⟩
 rw [if_neg c0]
 by_cases c1 : x = 1
 · exact ⟨_, j, g, by rw [if_pos c1], by simp [L8], cj⟩
 rw [if_neg c1]
 by_cases c2 : x = 2
 · exact ⟨_, j, g, by rw [if_pos c2], by simp [L8], cj⟩
 rw [if_neg c2]
 by_cases c3 : x = 3
 · exact ⟨_, j, g, by rw [if_pos c3], by simp [L8], cj⟩
 rw [if_neg c3]
 by_cases c4 : x = 4
 · exact ⟨_, j, g, by rw [if_pos c4], by simp [L8], cj⟩
 rw [if_neg c4]
 by_cases c5 : x = 5
 · exact ⟨_, j, g, by rw [if_pos c5], by simp [L8], cj⟩
 rw [if_neg c5]
 by_cases c6 : x = 6
 · exact ⟨_, j, g, by rw [if_pos c6], by simp [L8], cj⟩
 exact ⟨_, j, g, by rw [if_neg c6], by simp [L8], cj⟩
theorem l3Draw_l1 {b : List Int} {x5 m : Int} (hm : m ≤ 4) (hx : 0 ≤ x5 ∧ x5 < 4) (N : ∀ j h, Cu b j → ∃ s j' h', SG s ∧ Cu b j' ∧ Ev (fun k => spec_l3Draw.l0 k (x5 + 1) b j h) (s, j', h')) (d : Nat) : ∀ (i j h : Int) (out : List Int), 0 ≤ i → i + d = max i m → (out.length : Int) = i + 1 → i ≤ 4 → Cu b j → ∃ s j' h', SG s ∧ Cu b j' ∧ Ev (fun k => spec_l3Draw.l1 k x5 out m i b j h) (s, j', h') := by
 induction d with
 | zero =>
  intro i j h out i0 hi ho i4 cj
  by_cases f : FN out
  · refine ⟨mns out, j, h, f.2, cj, Ev.step (fun k => by rw [spec_l3Draw.l1]) (ev_ifn (by omega) (ev_bind _ (fromGensS_ev (by omega)) ?_))⟩
    rw [show fns out = (mns out, true) from if_pos f]
    exact ev_ifp rfl (Ev.now _)
  · obtain ⟨s, j', h', s1, s2, s3⟩ := N j h cj
    refine ⟨s, j', h', s1, s2, Ev.step (fun k => by rw [spec_l3Draw.l1]) (ev_ifn (by omega) (ev_bind _ (fromGensS_ev (by omega)) ?_))⟩
    rw [show fns out = ([], false) from if_neg f, w64 (x := x5 + 1) (by omega) (by omega)]
    exact ev_ifn (by simp) s3
 | succ d ih =>
  intro i j h out i0 hi ho i4 cj
  obtain ⟨x, j1, g1, e, _, c1⟩ := below_ok h cj (n := 12) (by omega)
  obtain ⟨s, j', h', s1, s2, s3⟩ := ih (i + 1) j1 g1 (out ++ [wrap64 ((wrap64 ((rd out 0) + 1)) + x)]) (by omega) (by omega) (by rw [List.length_append, List.length_singleton]; omega) (by omega) c1
  refine ⟨s, j', h', s1, s2, Ev.step (fun k => by rw [spec_l3Draw.l1]) ?_⟩
  rw [e, w64 (x := i + 1) (by omega) (by omega)]
  simp only [Option.bind_some]
  exact ev_ifp (by omega) (ev_ifp (by omega) (ev_ifp (by omega) s3))
theorem l3Draw_l0 {b : List Int} (d : Nat) : ∀ (x5 j h : Int), 0 ≤ x5 → x5 + d = 4 → Cu b j → ∃ s j' h', SG s ∧ Cu b j' ∧ Ev (fun k => spec_l3Draw.l0 k x5 b j h) (s, j', h') := by
 induction d with
 | zero =>
  intro x5 j h x0 hx cj
  obtain ⟨l, j1, g1, e, hl, c1⟩ := list_ok h cj
  refine ⟨l, j1, g1, sg_L8 hl, c1, Ev.step (fun k => by rw [spec_l3Draw.l0]) ?_⟩
  rw [e]
  simp only [Option.bind_some]
  exact ev_ifn (by omega) (ev_bind _ (fg_L8 hl) (Ev.now _))
 | succ d ih =>
  intro x5 j h x0 hx cj
  obtain ⟨x, j1, g1, e1, hx1, c1⟩ := below_ok h cj (n := 8) (by omega)
  obtain ⟨y, j2, g2, e2, hx2, c2⟩ := below_ok g1 c1 (n := 4) (by omega)
  obtain ⟨s, j', h', s1, s2, s3⟩ := l3Draw_l1 (b := b) (x5 := x5) (m := 1 + y) (by omega) ⟨x0, by omega⟩ (fun j h c => ih (x5 + 1) j h (by omega) (by omega) c) (1 + y).toNat 0 j2 g2 [wrap64 (2 + x)] (Int.le_refl _) (by omega) (by simp) (by omega) c2
  refine ⟨s, j', h', s1, s2, Ev.step (fun k => by rw [spec_l3Draw.l0]) ?_⟩
  rw [e1]
  simp only [Option.bind_some]
  rw [e2]
  simp only [Option.bind_some]
  rw [w64 (x := 1 + y) (by omega) (by omega)]
  exact ev_ifp (by omega) s3
theorem l3Draw_ev {b : List Int} {j : Int} (h : Int) (c : Cu b j) : ∃ s j' h', SG s ∧ Cu b j' ∧ Ev (fun k => spec_l3Draw.f k b j h) (s, j', h') := by
 obtain ⟨x, j1, g1, e, c1⟩ := once_ok h c (n := 4) (by omega)
 by_cases hx : x = true
 · obtain ⟨l, j2, g2, e2, hl, c2⟩ := list_ok g1 c1
   refine ⟨l, j2, g2, sg_L8 hl, c2, ?_⟩
   unfold spec_l3Draw.f
   rw [e]
   simp only [Option.bind_some]
   rw [e2]
   simp only [Option.bind_some]
   exact ev_ifp hx (ev_bind _ (fg_L8 hl) (Ev.now _))
 · obtain ⟨s, j', h', s1, s2, s3⟩ := l3Draw_l0 4 0 j1 g1 (Int.le_refl _) (by omega) c1
   refine ⟨s, j', h', s1, s2, ?_⟩
   unfold spec_l3Draw.f
   rw [e]
   simp only [Option.bind_some]
   exact ev_ifn hx s3
theorem l3Bent_ev {b : List Int} {j : Int} (h : Int) (c : Cu b j) : ∃ s j' h', s.length ≤ 13 ∧ Cu b j' ∧ Ev (fun k => spec_l3Bent.f k b j h) (s, j', h') := by
 obtain ⟨s, j1, g1, s1, c1, s3⟩ := l3Draw_ev h c
 obtain ⟨x, j2, g2, e2, hx, c2⟩ := below_ok g1 c1 (n := 12) (by omega)
 have hl := s1.len
 have hu := s1.ul.1
 by_cases x0 : x = 0
 · obtain ⟨y, j3, g3, e3, hy, c3⟩ := pick_ok g2 c2 (l := [0, 61, 12, (-3), 60]) (by simp)
   refine ⟨s ++ [y], j3, g3, by rw [List.length_append, List.length_singleton]; omega, c3, ?_⟩
   unfold spec_l3Bent.f
   refine ev_bind _ s3 ?_
   rw [e2]
   simp only [Option.bind_some]
   rw [e3]
   simp only [Option.bind_some]
   exact ev_ifp x0 (ev_ifp (by omega) (Ev.now _))
 · by_cases x1 : x = 1
   · refine ⟨s.drop (1 : Int).toNat, j2, g2, by rw [List.length_drop]; omega, c2, ?_⟩
     unfold spec_l3Bent.f
     refine ev_bind _ s3 ?_
     rw [e2]
     simp only [Option.bind_some]
     exact ev_ifn x0 (ev_ifp x1 (ev_ifp (by omega) (Ev.now _)))
   · by_cases x2 : x = 2
     · obtain ⟨y, j3, g3, e3, hy, c3⟩ := pick_ok g2 c2 (l := [0, 59, 4]) (by simp)
       refine ⟨[y, 60], j3, g3, by simp, c3, ?_⟩
       unfold spec_l3Bent.f
       refine ev_bind _ s3 ?_
       rw [e2]
       simp only [Option.bind_some]
       rw [e3]
       simp only [Option.bind_some]
       exact ev_ifn x0 (ev_ifn x1 (ev_ifp x2 (Ev.now _)))
     · refine ⟨s, j2, g2, by omega, c2, ?_⟩
       unfold spec_l3Bent.f
       refine ev_bind _ s3 ?_
       rw [e2]
       simp only [Option.bind_some]
       exact ev_ifn x0 (ev_ifn x1 (ev_ifn x2 (Ev.now _)))
theorem pp1 : spec_ParseSemigroup.f 5000 ⟨#[60, 49, 62]⟩ = some ([1], true) := by kernel_rfl
theorem pp2 : spec_ParseSemigroup.f 5000 ⟨#[60, 50, 44, 51, 62]⟩ = some ([2, 3], true) := by kernel_rfl
theorem pp3 : spec_ParseSemigroup.f 5000 ⟨#[60, 51, 44, 52, 62]⟩ = some ([3, 4], true) := by kernel_rfl
theorem pp4 : spec_ParseSemigroup.f 5000 ⟨#[60, 50, 44, 53, 62]⟩ = some ([2, 5], true) := by kernel_rfl
theorem pp5 : spec_ParseSemigroup.f 5000 ⟨#[60, 51, 44, 52, 44, 53, 62]⟩ = some ([3, 4, 5], true) := by kernel_rfl
def PT (t : ByteArray) : Prop := ∃ s o, s.length ≤ 13 ∧ Ev (fun k => spec_ParseSemigroup.f k t) (s, o)
theorem pt_of {t : ByteArray} {s : List Int} {o : Bool} (h : spec_ParseSemigroup.f 5000 t = some (s, o)) (hs : s.length ≤ 13) : PT t := ⟨s, o, hs, Ev.of (spec_ParseSemigroup.mono _) h⟩
theorem pickS_ok {b : List Int} {i : Int} (h : Int) (c : Cu b i) {l : List ByteArray} (hl : 0 < (l.length : Int)) (P : ∀ t ∈ l, PT t) : ∃ x j g, spec_l1Pick.f b i h l = some (x, j, g) ∧ PT x ∧ Cu b j := by
 obtain ⟨x, j, g, e, hx, c'⟩ := below_ok h c hl
 unfold spec_l1Pick.f
 rw [e]
 simp only [Option.bind_some]
 rw [if_pos hx.1, if_pos hx.2]
 refine ⟨_, _, _, rfl, P _ ?_, c'⟩
 unfold rdOf
 rw [List.getD_eq_getElem?_getD, List.getElem?_eq_getElem (by omega)]
 exact List.getElem_mem _
theorem case_ev {b : List Int} (hb : (b.length : Int) ≤ 1099511627776) : ∃ a c x y, a.length ≤ 13 ∧ c.length ≤ 13 ∧ Ev (fun k => spec_DrawGlueOf.f k b) (a, c, x, y) := by
 obtain ⟨g, e, c0⟩ := new_ev hb
 obtain ⟨t1, j1, g1, e1, p1, c1⟩ := pickS_ok g c0 (l := [⟨#[60, 49, 62]⟩, ⟨#[60, 50, 44, 51, 62]⟩, ⟨#[60, 51, 44, 52, 62]⟩, ⟨#[60, 50, 44, 53, 62]⟩, ⟨#[60, 51, 44, 52, 44, 53, 62]⟩]) (by simp) (fun t ht => by
  simp only [List.mem_cons, List.not_mem_nil, or_false] at ht
  rcases ht with rfl | rfl | rfl | rfl | rfl
  · exact pt_of pp1 (by simp)
  · exact pt_of pp2 (by simp)
  · exact pt_of pp3 (by simp)
  · exact pt_of pp4 (by simp)
  · exact pt_of pp5 (by simp))
 obtain ⟨s1, o1, l1, q1⟩ := p1
 obtain ⟨t2, j2, g2, e2, p2, c2⟩ := pickS_ok g1 c1 (l := [⟨#[60, 49, 62]⟩, ⟨#[60, 50, 44, 51, 62]⟩, ⟨#[60, 49, 62]⟩, ⟨#[60, 50, 44, 53, 62]⟩]) (by simp) (fun t ht => by
  simp only [List.mem_cons, List.not_mem_nil, or_false] at ht
  rcases ht with rfl | rfl | rfl | rfl
  · exact pt_of pp1 (by simp)
  · exact pt_of pp2 (by simp)
  · exact pt_of pp1 (by simp)
  · exact pt_of pp4 (by simp))
 obtain ⟨s2, o2, l2, q2⟩ := p2
 obtain ⟨x, j3, g3, e3, b3, c3⟩ := below_ok g2 c2 (n := 10) (by omega)
 obtain ⟨y, j4, g4, e4, b4, c4⟩ := below_ok g3 c3 (n := 10) (by omega)
 obtain ⟨o, j5, g5, e5, c5⟩ := once_ok g4 c4 (n := 12) (by omega)
 have fin : ∀ (X Y : Int) (j h : Int), Cu b j → ∃ a c x y, a.length ≤ 13 ∧ c.length ≤ 13 ∧ Ev (fun k => spec_l22Case.j0 k X Y b j h s1 s2) (a, c, x, y) := fun X Y j h cu => by
  obtain ⟨z, j6, g6, e6, c6⟩ := once_ok h cu (n := 12) (by omega)
  obtain ⟨m, j7, g7, m1, _, m3⟩ := l3Bent_ev g6 c6
  cases z with
  | true =>
   refine ⟨m, s2, X, Y, m1, l2, Ev.step (fun k => by rw [spec_l22Case.j0]) ?_⟩
   rw [e6]
   simp only [Option.bind_some]
   exact ev_ifp trivial (ev_bind _ m3 (Ev.now _))
  | false =>
   refine ⟨s1, s2, X, Y, l1, l2, Ev.step (fun k => by rw [spec_l22Case.j0]) ?_⟩
   rw [e6]
   simp only [Option.bind_some]
   exact ev_ifn (by simp) (Ev.now _)
 have main : ∃ a c x y, a.length ≤ 13 ∧ c.length ≤ 13 ∧ Ev (fun k => spec_l22Case.f k b) (a, c, x, y) := by
  cases o with
  | true =>
   obtain ⟨u, j6, g6, e6, _, c6⟩ := pick_ok g5 c5 (l := [0, 61, -1, 1]) (by simp)
   obtain ⟨a, c, x', y', h1, h2, h3⟩ := fin u (wrap64 (2 + y)) j6 g6 c6
   refine ⟨a, c, x', y', h1, h2, ?_⟩
   unfold spec_l22Case.f
   refine ev_bind _ e ?_
   dsimp only
   rw [e1]; simp only [Option.bind_some]
   refine ev_bind _ q1 ?_
   rw [e2]; simp only [Option.bind_some]
   refine ev_bind _ q2 ?_
   rw [e3]; simp only [Option.bind_some]
   rw [e4]; simp only [Option.bind_some]
   rw [e5]; simp only [Option.bind_some]
   refine ev_ifp trivial ?_
   rw [e6]; simp only [Option.bind_some]
   exact h3
  | false =>
   obtain ⟨a, c, x', y', h1, h2, h3⟩ := fin (wrap64 (2 + x)) (wrap64 (2 + y)) j5 g5 c5
   refine ⟨a, c, x', y', h1, h2, ?_⟩
   unfold spec_l22Case.f
   refine ev_bind _ e ?_
   dsimp only
   rw [e1]; simp only [Option.bind_some]
   refine ev_bind _ q1 ?_
   rw [e2]; simp only [Option.bind_some]
   refine ev_bind _ q2 ?_
   rw [e3]; simp only [Option.bind_some]
   rw [e4]; simp only [Option.bind_some]
   rw [e5]; simp only [Option.bind_some]
   exact ev_ifn (by simp) h3
 obtain ⟨a, c, x', y', h1, h2, h3⟩ := main
 refine ⟨a, c, x', y', h1, h2, ?_⟩
 unfold spec_DrawGlueOf.f
 exact ev_bind _ h3 (Ev.now _)
theorem l2Draw_l {b : List Int} {n : Int} (hn : n ≤ 6) (d : Nat) : ∀ (i j h : Int) (out : List Int), 0 ≤ i → i + d = n → (out.length : Int) ≤ i → Cu b j → ∃ s j' h', s.length ≤ 6 ∧ Ev (fun k => spec_l2Draw.l0 k out n i b j h) (s, j', h') := by
 induction d with
 | zero =>
  intro i j h out h0 h1 h2 cu
  exact ⟨out, j, h, by omega, Ev.step (fun k => by rw [spec_l2Draw.l0]) (ev_ifn (by omega) (Ev.now _))⟩
 | succ d ih =>
  intro i j h out h0 h1 h2 cu
  obtain ⟨x, j1, g1, e1, _, c1⟩ := below_ok h cu (n := 25) (by omega)
  obtain ⟨s, j', h', s1, s2⟩ := ih (i + 1) j1 g1 (out ++ [wrap64 (x - 4)]) (by omega) (by omega) (by simp; omega) c1
  refine ⟨s, j', h', s1, Ev.step (fun k => by rw [spec_l2Draw.l0]) (ev_ifp (by omega) ?_)⟩
  rw [e1]
  simp only [Option.bind_some]
  rw [w64 (x := i + 1) (by omega) (by omega)]
  exact ev_ifp (by omega) s2
theorem listT_ev {b : List Int} (hb : (b.length : Int) ≤ 1099511627776) : ∃ s, s.length ≤ 13 ∧ Ev (fun k => spec_DrawIsTelescopic.f k b) s := by
 obtain ⟨g, e, c0⟩ := new_ev hb
 obtain ⟨o, j1, g1, e1, c1⟩ := once_ok g c0 (n := 2) (by omega)
 have main : ∃ s, s.length ≤ 13 ∧ Ev (fun k => spec_l22List.f k b) s := by
  unfold spec_l22List.f
  cases o with
  | true =>
   obtain ⟨x, j2, g2, e2, _, c2⟩ := below_ok g1 c1 (n := 4) (by omega)
   obtain ⟨y, j3, g3, e3, _, c3⟩ := below_ok g2 c2 (n := 4) (by omega)
   obtain ⟨z, j4, g4, e4, _, c4⟩ := below_ok g3 c3 (n := 3) (by omega)
   refine ⟨[wrap64 ((wrap64 (2 + x)) * (wrap64 (2 + y))), wrap64 ((wrap64 (2 + x)) * (wrap64 ((wrap64 (2 + y)) + 1))), wrap64 ((wrap64 ((wrap64 (2 + x)) + 1)) * (wrap64 ((wrap64 (2 + y)) + z)))], by simp, ev_bind _ e ?_⟩
   dsimp only
   rw [e1]; simp only [Option.bind_some]
   refine ev_ifp trivial ?_
   rw [e2]; simp only [Option.bind_some]
   rw [e3]; simp only [Option.bind_some]
   rw [e4]; simp only [Option.bind_some]
   exact Ev.now _
  | false =>
   obtain ⟨p, j2, g2, e2, c2⟩ := once_ok g1 c1 (n := 3) (by omega)
   cases p with
   | true =>
    obtain ⟨n, j3, g3, e3, b3, c3⟩ := below_ok g2 c2 (n := 6) (by omega)
    obtain ⟨s, j', h', s1, s2⟩ := l2Draw_l (n := n) (by omega) n.toNat 0 j3 g3 [] (by omega) (by omega) (by simp) c3
    refine ⟨s, by omega, ev_bind _ e ?_⟩
    dsimp only
    rw [e1]; simp only [Option.bind_some]
    refine ev_ifn (by simp) ?_
    rw [e2]; simp only [Option.bind_some]
    refine ev_ifp trivial (ev_bind (s, j', h') ?_ (Ev.now _))
    unfold spec_l2Draw.f
    rw [e3]; simp only [Option.bind_some]
    exact s2
   | false =>
    obtain ⟨s, j', h', sg, _, s2⟩ := l3Draw_ev g2 c2
    have sl := sg.len
    refine ⟨s, by omega, ev_bind _ e ?_⟩
    dsimp only
    rw [e1]; simp only [Option.bind_some]
    refine ev_ifn (by simp) ?_
    rw [e2]; simp only [Option.bind_some]
    refine ev_ifn (by simp) (ev_bind _ s2 ?_)
    exact ev_ifp (by simp; omega) (ev_to (Ev.now _) (by simp))
 obtain ⟨s, h1, h2⟩ := main
 refine ⟨s, h1, ?_⟩
 unfold spec_DrawIsTelescopic.f
 exact ev_bind _ h2 (Ev.now _)
noncomputable def stab (v : List Int) (m : Int) : List Bool := (List.range (m + 1).toNat).map (fun n : Nat => decide (Su v (n : Int)))
theorem stab_len {v : List Int} {m : Int} (h : 0 ≤ m) : ((stab v m).length : Int) = m + 1 := by unfold stab; simp; omega
theorem rdb_lt {l : List Bool} {i : Int} (h0 : 0 ≤ i) (h : i < l.length) : rdOf false l i = l[i.toNat]'(by omega) := by
 unfold rdOf; rw [List.getD_eq_getElem?_getD, List.getElem?_eq_getElem (by omega)]; rfl
theorem rdb_ext {l m : List Bool} (hl : l.length = m.length) (h : ∀ i : Int, 0 ≤ i → i < l.length → rdOf false l i = rdOf false m i) : l = m := by
 refine List.ext_getElem hl fun n h1 h2 => ?_
 have := h n (by omega) (by omega)
 rw [rdb_lt (by omega) (by omega), rdb_lt (by omega) (by omega)] at this
 simpa using this
theorem stab_rd {v : List Int} {m j : Int} (h0 : 0 ≤ j) (h : j ≤ m) : rdOf false (stab v m) j = decide (Su v j) := by
 have := stab_len (v := v) (m := m) (by omega)
 rw [rdb_lt h0 (by omega)]
 unfold stab
 rw [List.getElem_map, List.getElem_range, show ((j.toNat : Nat) : Int) = j from by omega]
theorem stab_iff {v : List Int} {m j : Int} (h0 : 0 ≤ j) (h : j ≤ m) : rdOf false (stab v m) j = true ↔ Su v j := by rw [stab_rd h0 h]; simp
theorem stab_eq {v : List Int} {m : Int} (hm : 0 ≤ m) {t : List Bool} (hl : (t.length : Int) = m + 1) (h : ∀ j, 0 ≤ j → j ≤ m → (rdOf false t j = true ↔ Su v j)) : t = stab v m := by
 have e := stab_len (v := v) hm
 refine rdb_ext (by omega) fun i h0 h1 => ?_
 rw [stab_rd h0 (by omega), Bool.eq_iff_iff, h i h0 (by omega), decide_eq_true_eq]
theorem tabS_st {v : List Int} (hl : v.length ≤ 20) (hv : ∀ x ∈ v, 1 ≤ x ∧ x ≤ 60) {most : Int} (h0 : 0 ≤ most) (hm : most ≤ 1048576) : Ev (fun k => spec_l3Table.f k v most) (stab v most) := by
 obtain ⟨t, a, b, c⟩ := tabS_ev hl hv h0 hm
 rw [stab_eq h0 a b] at c
 exact c
theorem tabI_l {v u : List Int} (hu : UL v) (hg : gl v = 1) (hL : Lst v (rd v 0) 60 u) {most : Int} (hm0 : 0 ≤ most) (hm : most ≤ 1048576) (d : Nat) : ∀ (i : Int) (out : List Bool), 0 ≤ i → i + d = most + 1 → (out.length : Int) = most + 1 → (∀ j, 0 ≤ j → j < i → (rdOf false out j = true ↔ Su v j)) → Ev (fun k => impl_table.l0 k u out (most + 1) i v) (stab v most) := by
 have f := hu.first
 obtain ⟨_, fa, fb⟩ := f
 have f := hu.first
 have hlen := hu.1
 have hll := hL.len
 induction d with
 | zero =>
  intro i out h0 h1 h2 h3
  refine Ev.step (fun k => by rw [impl_table.l0]) ?_
  rw [stab_eq (v := v) (m := most) (t := out) (by omega) h2 (fun j a b => h3 j a (by omega))]
  exact ev_ifn (by omega) (Ev.now _)
 | succ d ih =>
  intro i out h0 h1 h2 h3
  have q0 := Int.emod_nonneg i (b := rd v 0) (by omega)
  have q1 := Int.emod_lt_of_pos i (b := rd v 0) (by omega)
  have p := hL.all f.2.1 hu.2 hg q0 q1
  have s := hL.su f.2.1 (Su.mem f.1) (n := i)
  refine Ev.step (fun k => by rw [impl_table.l0]) ?_
  rw [Int.tmod_eq_emod_of_nonneg h0, w64 (x := i + 1) (by omega) (by omega)]
  refine ev_ifp (by omega) (ev_ifp (by omega) (ev_ifn (by omega) (ev_ifp q0 (ev_ifp (by omega) (ev_ifp h0 (ev_ifp (by omega) (ih (i + 1) _ (by omega) (by omega) (by simpa using h2) fun j hj hj' => ?_)))))))
  rw [rdb_set _ h0 (by omega) hj]
  by_cases e : j = i
  · subst e
    rw [if_pos rfl, decide_eq_true_eq, s]
    exact ⟨fun h => ⟨p, h⟩, fun h => h.2⟩
  · rw [if_neg e]; exact h3 j hj (by omega)
theorem tabI_st {v : List Int} (hu : UL v) (hg : gl v = 1) {most : Int} (h0 : 0 ≤ most) (hm : most ≤ 1048576) : Ev (fun k => impl_table.f k v most) (stab v most) := by
 obtain ⟨f1, f2, f3⟩ := hu.first
 have hlen := hu.1
 obtain ⟨u, hL, hE⟩ := leasts_ev (G := 60) (a := rd v 0) hu.2 (by omega) (by omega) f2 (by omega) (by omega)
 have e0 : ((List.replicate (most + 1).toNat false).length : Int) = most + 1 := by simp; omega
 unfold impl_table.f
 refine ev_ifp (by omega) (ev_bind _ hE ?_)
 rw [w64 (by omega) (by omega)]
 simp only [Option.bind_some]
 refine ev_ifp (by omega) (ev_ifp (by omega) ?_)
 rw [e0]
 exact tabI_l hu hg hL h0 hm (most + 1).toNat 0 _ (by omega) (by omega) e0 (fun j a b => by omega)
noncomputable def isgap (v : List Int) (n : Int) : Bool := !decide (Su v n)
noncomputable def gp (v : List Int) : List Int := fl (isgap v) 1 199
theorem isgap_t {v : List Int} {n : Int} : isgap v n = true ↔ ¬ Su v n := by unfold isgap; simp
theorem SG.su200 {v : List Int} (h : SG v) : Su v 200 := h.ends 200 (by omega)
theorem SG.sutab {v : List Int} (h : SG v) {m : Int} (h0 : 0 ≤ m) (hm : m ≤ 1048576) : Ev (fun k => impl_table.f k v m) (stab v m) := tabI_st h.ul h.gcd h0 hm
theorem SG.sutabS {v : List Int} (h : SG v) {m : Int} (h0 : 0 ≤ m) (hm : m ≤ 1048576) : Ev (fun k => spec_l3Table.f k v m) (stab v m) := tabS_st (by have := h.len; omega) h.ul.2 h0 hm
theorem gp_wide {v : List Int} (h : SG v) : fl (isgap v) 0 201 = gp v := by
 have a : ¬ isgap v 0 = true := by rw [isgap_t]; simpa using Su.zero v
 have b : ¬ isgap v 200 = true := by rw [isgap_t]; simpa using h.su200
 rw [show (201 : Nat) = 200 + 1 from rfl, fl_no a, show (200 : Nat) = 199 + 1 from rfl, fl_app, show (0 : Int) + 1 = 1 from rfl, show (1 : Int) + ((199 : Nat) : Int) = 200 from rfl, show (1 : Nat) = 0 + 1 from rfl, fl_no b]
 unfold gp
 rw [show fl (isgap v) (200 + 1) 0 = [] from rfl, List.append_nil]
theorem gp_mem {v : List Int} {x : Int} : x ∈ gp v ↔ 1 ≤ x ∧ x < 200 ∧ ¬ Su v x := by
 unfold gp; rw [fl_mem, isgap_t]; constructor <;> rintro ⟨a, b, c⟩ <;> exact ⟨a, by omega, c⟩
theorem gp_len (v : List Int) : (gp v).length ≤ 199 := fl_len _ _ _
end Go.Proofs.Ytjjajcldmkmgkaa.E
end
section
namespace Go.Proofs.Ytjjajcldmkmgkaa.E
open Go.RowKit Go.Proofs.YtjjajcldmkmgkaaW.PrintWords Go.Proofs.YtjjajcldmkmgkaaW.PrintLast Go.Proofs.YtjjajcldmkmgkaaW.PrintMore
set_option linter.unusedVariables false
set_option linter.unusedSimpArgs false
noncomputable def gps (v : List Int) : List Int := if SG v then gp v else []
noncomputable def fob (v : List Int) : Int := if (gps v).length = 0 then -1 else rd (gps v) ((gps v).length - 1)
noncomputable def cd (v : List Int) : Int := fob v + 1
theorem gps_len (v : List Int) : (gps v).length ≤ 199 := by
 unfold gps; split
 · exact gp_len v
 · simp
theorem gps_sg {v : List Int} (h : SG v) : gps v = gp v := by unfold gps; rw [if_pos h]
theorem gps_no {v : List Int} (h : ¬ SG v) : gps v = [] := by unfold gps; rw [if_neg h]
theorem fob_some {v : List Int} (h : SG v) (hn : gp v ≠ []) : 1 ≤ fob v ∧ fob v < 200 ∧ ¬ Su v (fob v) ∧ ∀ n, fob v < n → Su v n := by
 obtain ⟨x, a, b, c, e, f⟩ := fl_last (p := isgap v) (i := 1) (d := 199) hn
 have hl : ¬ (gp v).length = 0 := by simpa using hn
 have ex : fob v = x := by
  unfold fob; rw [gps_sg h, if_neg hl]; exact f
 rw [ex]
 refine ⟨a, by omega, isgap_t.1 c, fun n hn => ?_⟩
 by_cases hn' : n < 200
 · have := e n hn (by omega)
   rw [isgap_t] at this
   exact Classical.byContradiction this
 · exact h.ends n (by omega)
theorem fob_none {v : List Int} (h : gps v = []) : fob v = -1 := by unfold fob; rw [h]; rfl
theorem SG.pos {v : List Int} (h : SG v) : ∀ x ∈ v, 1 ≤ x := fun x hx => (h.ul.2 x hx).1
theorem cd_fact {v : List Int} (h : SG v) : 0 ≤ cd v ∧ cd v ≤ 200 ∧ cd v ≠ 1 ∧ (∀ n, cd v ≤ n → Su v n) ∧ ¬ Su v (cd v - 1) := by
 unfold cd
 by_cases hn : gp v = []
 · rw [fob_none (by rw [gps_sg h, hn])]
   refine ⟨by omega, by omega, by omega, fun n hn' => ?_, fun k => by have := k.pos h.pos; omega⟩
   by_cases c : Su v n
   · exact c
   · by_cases e : n = 0
     · rw [e]; exact Su.zero v
     · have : n ∈ gp v := gp_mem.2 ⟨by omega, by
        by_cases c2 : n < 200
        · exact c2
        · exact absurd (h.ends n (by omega)) c, c⟩
       rw [hn] at this; simp at this
 · obtain ⟨a, b, c, e⟩ := fob_some h hn
   exact ⟨by omega, by omega, by omega, fun n hn' => e n (by omega), by rw [show fob v + 1 - 1 = fob v from by omega]; exact c⟩
end Go.Proofs.Ytjjajcldmkmgkaa.E
end
section
namespace Go.Proofs.Ytjjajcldmkmgkaa.E
open Go.RowKit Go.Proofs.Ytjjajcldmkmgkaa.PA Go.Proofs.YtjjajcldmkmgkaaW.PrintWords Go.Proofs.YtjjajcldmkmgkaaW.PrintLast Go.Proofs.YtjjajcldmkmgkaaW.PrintMore
set_option linter.unusedVariables false
set_option linter.unusedSimpArgs false
theorem gapsI_l {v : List Int} (d : Nat) : ∀ (i : Int) (out : List Int), 0 ≤ i → i + d = 201 → (out.length : Int) ≤ i → Ev (fun k => impl_Gaps.l0 k out (stab v 200) 201 i) (out ++ fl (isgap v) i d) := by
 have sl := stab_len (v := v) (m := 200) (by omega)
 induction d with
 | zero =>
  intro i out h0 h1 h2
  refine Ev.step (fun k => by rw [impl_Gaps.l0]) (ev_ifn (by omega) (ev_to (Ev.now _) ?_))
  simp [fl]
 | succ d ih =>
  intro i out h0 h1 h2
  have s := stab_iff (v := v) (m := 200) h0 (by omega)
  refine Ev.step (fun k => by rw [impl_Gaps.l0]) ?_
  rw [w64 (x := i + 1) (by omega) (by omega)]
  by_cases c : Su v i
  · rw [fl_no (by rw [isgap_t]; simpa using c)]
    exact ev_ifp (by omega) (ev_ifp h0 (ev_ifp (by omega) (ev_ifp (s.2 c) (ih (i + 1) out (by omega) (by omega) (by omega)))))
  · rw [fl_yes (isgap_t.2 c)]
    refine ev_ifp (by omega) (ev_ifp h0 (ev_ifp (by omega) (ev_ifn (fun h => c (s.1 h)) (ev_ifp (by omega) (ev_to (ih (i + 1) (out ++ [i]) (by omega) (by omega) (by simp; omega)) ?_)))))
    simp
theorem gapsS_l {v : List Int} (d : Nat) : ∀ (i : Int) (out : List Int), 0 ≤ i → i + d = 200 → (out.length : Int) ≤ i → Ev (fun k => spec_l4Gaps.l0 k out (stab v 200) i) (out ++ fl (isgap v) i d) := by
 have sl := stab_len (v := v) (m := 200) (by omega)
 induction d with
 | zero =>
  intro i out h0 h1 h2
  refine Ev.step (fun k => by rw [spec_l4Gaps.l0]) (ev_ifn (by omega) (ev_to (Ev.now _) ?_))
  simp [fl]
 | succ d ih =>
  intro i out h0 h1 h2
  have s := stab_iff (v := v) (m := 200) h0 (by omega)
  refine Ev.step (fun k => by rw [spec_l4Gaps.l0]) ?_
  rw [w64 (x := i + 1) (by omega) (by omega)]
  by_cases c : Su v i
  · rw [fl_no (by rw [isgap_t]; simpa using c)]
    exact ev_ifp (by omega) (ev_ifp h0 (ev_ifp (by omega) (ev_ifp (s.2 c) (ih (i + 1) out (by omega) (by omega) (by omega)))))
  · rw [fl_yes (isgap_t.2 c)]
    refine ev_ifp (by omega) (ev_ifp h0 (ev_ifp (by omega) (ev_ifn (fun h => c (s.1 h)) (ev_ifp (by omega) (ev_to (ih (i + 1) (out ++ [i]) (by omega) (by omega) (by simp; omega)) ?_)))))
    simp
theorem l4Gaps_ev {v : List Int} (h : SG v) : Ev (fun k => spec_l4Gaps.f k v) (gp v) := by
 unfold spec_l4Gaps.f
 exact ev_bind _ (h.sutabS (by omega) (by omega)) (gapsS_l 199 1 [] (by omega) (by omega) (by simp))
theorem gapsI_ev {v : List Int} (hl : v.length ≤ 1099511627776) : Ev (fun k => impl_Gaps.f k v) (if SG v then gp v else []) := by
 unfold impl_Gaps.f
 refine ev_bind _ (sgI_ev hl) ?_
 by_cases c : SG v
 · rw [if_pos c]
   refine ev_ifp (by simpa using c) (ev_bind _ (c.sutab (by omega) (by omega)) ?_)
   rw [stab_len (by omega), ← gp_wide c]
   exact gapsI_l 201 0 [] (by omega) (by omega) (by simp)
 · rw [if_neg c]; exact ev_ifn (by simpa using c) (Ev.now _)
theorem gapsI_gps {v : List Int} (hl : v.length ≤ 1099511627776) : Ev (fun k => impl_Gaps.f k v) (gps v) := gapsI_ev hl
theorem gapsS_gps {v : List Int} (hl : v.length ≤ 1099511627776) : Ev (fun k => spec_Gaps.f k v) (gps v) := by
 unfold spec_Gaps.f
 refine ev_bind _ (sgS_ev hl) ?_
 by_cases c : SG v
 · rw [gps_sg c]; exact ev_ifp (by simpa using c) (ev_bind _ (l4Gaps_ev c) (Ev.now _))
 · rw [gps_no c]; exact ev_ifn (by simpa using c) (Ev.now _)
theorem frI_ev {v : List Int} (hl : v.length ≤ 1099511627776) : Ev (fun k => impl_FrobeniusOf.f k v) (fob v) := by
 have g := gps_len v
 unfold impl_FrobeniusOf.f fob
 refine ev_bind _ (gapsI_gps hl) ?_
 by_cases c : (gps v).length = 0
 · rw [if_pos c]; exact ev_ifp (by omega) (Ev.now _)
 · rw [if_neg c, w64 (x := ((gps v).length : Int) - 1) (by omega) (by omega)]
   exact ev_ifn (by omega) (ev_ifp (by omega) (ev_ifp (by omega) (Ev.now _)))
theorem frS_ev {v : List Int} (hl : v.length ≤ 1099511627776) : Ev (fun k => spec_FrobeniusOf.f k v) (fob v) := by
 have g := gps_len v
 unfold spec_FrobeniusOf.f fob
 refine ev_bind _ (gapsS_gps hl) ?_
 by_cases c : (gps v).length = 0
 · rw [if_pos c]; exact ev_ifp (by omega) (Ev.now _)
 · rw [if_neg c, w64 (x := ((gps v).length : Int) - 1) (by omega) (by omega)]
   exact ev_ifn (by omega) (ev_ifp (by omega) (ev_ifp (by omega) (Ev.now _)))
theorem fob_small (v : List Int) : -1 ≤ fob v ∧ fob v ≤ 199 := by
 by_cases c : SG v
 · have := cd_fact c; unfold cd at this; omega
 · rw [fob_none (gps_no c)]; omega
def Con (v : List Int) (n : Int) : Prop := 0 ≤ n ∧ SG v ∧ Su v n
noncomputable instance (v : List Int) (n : Int) : Decidable (Con v n) := Classical.propDecidable _
theorem conI_ev {v : List Int} (n : Int) (hl : v.length ≤ 1099511627776) : Ev (fun k => impl_Contains.f k v n) (decide (Con v n)) := by
 unfold impl_Contains.f
 by_cases h0 : n < 0
 · exact ev_ifp h0 (ev_to (Ev.now _) (decide_eq_false (fun h => by have := h.1; omega)).symm)
 refine ev_ifn h0 (ev_bind _ (sgI_ev hl) ?_)
 by_cases h : SG v
 · refine ev_ifp (by simpa using h) ?_
   by_cases h2 : n ≥ 200
   · exact ev_ifp h2 (ev_to (Ev.now _) (decide_eq_true (show Con v n from ⟨by omega, h, h.ends n h2⟩)).symm)
   obtain ⟨f1, f2, f3⟩ := h.ul.first
   have l := h.ul.1
   obtain ⟨u, hL, hE⟩ := leasts_ev (G := 60) (a := rd v 0) h.ul.2 (by omega) (by omega) f2 (by omega) (by omega)
   have e : Int.tmod n (rd v 0) = n % rd v 0 := Int.tmod_eq_emod_of_nonneg (by omega)
   have q0 := Int.emod_nonneg n (b := rd v 0) (by omega)
   have q1 := Int.emod_lt_of_pos n (b := rd v 0) (by omega)
   have hll := hL.len
   have p := hL.all f2 h.ul.2 h.gcd q0 q1
   have s := hL.su f2 (Su.mem f1) (n := n)
   refine ev_ifn h2 (ev_ifp (by omega) (ev_bind _ hE (ev_ifn (by omega) ?_)))
   rw [e]
   refine ev_ifp q0 (ev_ifp (by omega) (ev_to (Ev.now _) ?_))
   rw [decide_eq_decide]
   constructor
   · intro k; exact ⟨by omega, h, s.2 ⟨p, k⟩⟩
   · intro k; exact (s.1 k.2.2).2
 · exact ev_ifn (by simpa using h) (ev_to (Ev.now _) (decide_eq_false (fun k => h k.2.1)).symm)
theorem conS_ev {v : List Int} (n : Int) (hl : v.length ≤ 1099511627776) : Ev (fun k => spec_Contains.f k v n) (decide (Con v n)) := by
 unfold spec_Contains.f
 refine ev_bind _ (sgS_ev hl) ?_
 by_cases h : SG v
 · refine ev_ifp (by simpa using h) (ev_bind _ (show Ev (fun k => spec_l3Has.f k v n) (decide (Con v n)) from ?_) (Ev.now _))
   unfold spec_l3Has.f
   by_cases h0 : n < 0
   · exact ev_ifp h0 (ev_to (Ev.now _) (by rw [decide_eq_decide]; exact ⟨fun k => by omega, fun k => by have := k.1; omega⟩))
   refine ev_ifn h0 ?_
   by_cases h2 : n ≥ 200
   · exact ev_ifp h2 (ev_to (Ev.now _) (by rw [decide_eq_decide]; exact ⟨fun k => ⟨by omega, h, h.ends n h2⟩, fun k => by omega⟩))
   have l := h.ul.1
   have sl := stab_len (v := v) (m := n) (by omega)
   have s := stab_rd (v := v) (m := n) (j := n) (by omega) (Int.le_refl _)
   refine ev_ifn h2 (ev_bind _ (tabS_st (by omega) h.ul.2 (by omega) (by omega)) (ev_ifp (by omega) (ev_ifp (by omega) (ev_to (Ev.now _) ?_))))
   rw [s, decide_eq_decide]
   exact ⟨fun k => ⟨by omega, h, k⟩, fun k => k.2.2⟩
 · exact ev_ifn (by simpa using h) (ev_to (Ev.now _) (decide_eq_false (fun k => h k.2.1)).symm)
end Go.Proofs.Ytjjajcldmkmgkaa.E
end
section
namespace Go.Proofs.Ytjjajcldmkmgkaa.E
open Go.RowKit Go.Proofs.YtjjajcldmkmgkaaW.PrintWords Go.Proofs.YtjjajcldmkmgkaaW.PrintLast Go.Proofs.YtjjajcldmkmgkaaW.PrintMore
set_option linter.unusedVariables false
set_option linter.unusedSimpArgs false
theorem cmp_l (d : Array Int) (hs : ∀ i j : Nat, i ≤ j → j < d.size → d[i]! ≤ d[j]!) (m : Nat) : m ≤ d.size → pw (Go.Lib.compactUpTo d m) ∧ (∀ z, z ∈ Go.Lib.compactUpTo d m ↔ ∃ j, j < m ∧ d[j]! = z) := by
 induction m with
 | zero => intro _; exact ⟨by simp [Go.Lib.compactUpTo, pw], fun z => by simp [Go.Lib.compactUpTo]⟩
 | succ m ih =>
  intro hm
  obtain ⟨h1, h2⟩ := ih (by omega)
  rw [Go.Lib.compactUpTo_succ]
  by_cases c : Go.Lib.keeps d m = true
  · rw [if_pos c]
    have k : m = 0 ∨ d[m]! ≠ d[m - 1]! := by unfold Go.Lib.keeps at c; simpa using c
    refine ⟨List.pairwise_append.2 ⟨h1, by simp, fun a ha b hb => ?_⟩, fun z => ?_⟩
    · rw [List.mem_singleton] at hb
      obtain ⟨j, j0, j1⟩ := (h2 a).1 ha
      have a1 := hs j (m - 1) (by omega) (by omega)
      have a2 := hs (m - 1) m (by omega) (by omega)
      rcases k with k | k
      · omega
      · rw [hb, ← j1]; omega
    · rw [List.mem_append, List.mem_singleton, h2]
      constructor
      · rintro (⟨j, j0, j1⟩ | e)
        · exact ⟨j, by omega, j1⟩
        · exact ⟨m, by omega, e.symm⟩
      · rintro ⟨j, j0, j1⟩
        by_cases e : j = m
        · right; rw [← j1, e]
        · exact .inl ⟨j, by omega, j1⟩
  · rw [if_neg c, List.append_nil]
    have k : m ≠ 0 ∧ d[m]! = d[m - 1]! := by
     unfold Go.Lib.keeps at c
     simp only [decide_eq_true_eq, not_or, Classical.not_not] at c
     exact c
    refine ⟨h1, fun z => ?_⟩
    rw [h2]
    constructor
    · rintro ⟨j, j0, j1⟩; exact ⟨j, by omega, j1⟩
    · rintro ⟨j, j0, j1⟩
      by_cases e : j = m
      · exact ⟨m - 1, by omega, by rw [← k.2, ← e]; exact j1⟩
      · exact ⟨j, by omega, j1⟩
theorem compact_srt (l : List Int) : Go.Lib.compact (l.mergeSort fun x y => decide (x ≤ y)) = srt l := by
 have sorted : (l.mergeSort fun x y => decide (x ≤ y)).Pairwise (fun x y => decide (x ≤ y) = true) := List.pairwise_mergeSort (fun a b c h k => by simp at *; omega) (fun a b => by simp; omega) l
 have perm := List.mergeSort_perm l (fun x y => decide (x ≤ y))
 generalize (l.mergeSort fun x y => decide (x ≤ y)) = s at sorted perm
 have get : ∀ i : Nat, ∀ h : i < s.length, s.toArray[i]! = s[i] := fun i h => by simp [h]
 obtain ⟨h1, h2⟩ := cmp_l s.toArray (fun i j hij hj => by
  have hj' : j < s.length := by simpa using hj
  rw [get i (by omega), get j hj']
  by_cases e : i = j
  · subst e; exact Int.le_refl _
  · have := List.pairwise_iff_getElem.1 sorted i j (by omega) hj' (by omega)
    simpa using this) s.length (by simp)
 refine pw_eq h1 (srt_pw l) fun z => ?_
 show z ∈ Go.Lib.compactUpTo s.toArray s.length ↔ _
 rw [h2, srt_mem, ← perm.mem_iff]
 constructor
 · rintro ⟨j, j0, j1⟩; rw [← j1, get j j0]; exact List.getElem_mem _
 · intro k
   obtain ⟨j, j0, j1⟩ := List.getElem_of_mem k
   exact ⟨j, j0, by rw [get j j0]; exact j1⟩
end Go.Proofs.Ytjjajcldmkmgkaa.E
end
section
namespace Go.Proofs.Ytjjajcldmkmgkaa.E
open Go.RowKit Go.Proofs.Ytjjajcldmkmgkaa.PA Go.Proofs.YtjjajcldmkmgkaaW.PrintWords Go.Proofs.YtjjajcldmkmgkaaW.PrintLast Go.Proofs.YtjjajcldmkmgkaaW.PrintMore
set_option linter.unusedVariables false
set_option linter.unusedSimpArgs false
theorem sortI_srt {l : List Int} (hl : l.length ≤ 1048576) : Ev (fun k => impl_SortList.f k l) (srt l) := by
 unfold impl_SortList.f
 exact ev_ifp (by omega) (ev_to (Ev.now _) (compact_srt l))
theorem mnk_pos {u : List Int} (hu : UL u) (i : Nat) : i + 1 ≤ u.length → 1 ≤ (mnk u (i + 1)).length := by
 induction i with
 | zero =>
  intro hi
  have hx := hu.2 _ (rd_mem (l := u) (i := ((0 : Nat) : Int)) (by omega) (by omega))
  rw [mnk_no (i := 0) (fun c => by rw [List.take_zero] at c; have := su_nil c; omega)]
  simp
 | succ i ih =>
  intro hi
  have := ih (by omega)
  rw [mnk]
  split
  · exact this
  · rw [List.length_append]; omega
theorem mnk_ul {u : List Int} (hu : UL u) {i : Nat} (h0 : 1 ≤ i) (hi : i ≤ u.length) : UL (mnk u i) := by
 obtain ⟨j, rfl⟩ : ∃ j, i = j + 1 := ⟨i - 1, by omega⟩
 have := mnk_pos hu j hi
 have := mnk_len u (j + 1)
 have := hu.1
 exact ⟨by omega, fun x hx => hu.2 x (List.mem_of_mem_take (mnk_mem _ hi x hx))⟩
theorem fgI_l {u : List Int} (hu : UL u) {r : List Int × Bool} (hr : Ev (fun k => (impl_IsSemigroup.f k (mnk u u.length)).bind fun t => if t = true then some (mnk u u.length, true) else some (([] : List Int), false)) r) (d : Nat) : ∀ i : Nat, i + d = u.length → Ev (fun k => impl_FromGens.l0 k u (u.length : Int) (i : Int) (mnk u i)) r := by
 have hlen := hu.1
 induction d with
 | zero =>
  intro i hi
  obtain rfl : i = u.length := by omega
  exact Ev.step (fun k => by rw [impl_FromGens.l0]) (ev_ifn (by omega) hr)
 | succ d ih =>
  intro i hi
  have nx := ih (i + 1) (by omega)
  have ml := mnk_len u i
  have hx := hu.2 _ (rd_mem (l := u) (i := (i : Int)) (by omega) (by omega))
  refine Ev.step (fun k => by rw [impl_FromGens.l0]) ?_
  rw [w64 (x := (i : Int) + 1) (by omega) (by omega)]
  rw [show (((i + 1 : Nat)) : Int) = (i : Int) + 1 from by omega] at nx
  by_cases c0 : i = 0
  · subst c0
    rw [mnk_no (i := 0) (fun c => by rw [List.take_zero] at c; have := su_nil c; omega)] at nx
    exact ev_ifp (by omega) (ev_ifp (by omega) (ev_ifp (by omega) (ev_ifp (by simp [mnk]) (ev_ifp (by omega) nx))))
  · have ul := mnk_ul hu (i := i) (by omega) (by omega)
    have g : Gen (mnk u i) (rd u (i : Int)) ↔ Su (u.take i) (rd u (i : Int)) := by
     rw [← mnk_su i (by omega)]
     exact ⟨fun h => h.2.2, fun h => ⟨ul, by omega, h⟩⟩
    have len := ul.1
    by_cases c : Su (u.take i) (rd u (i : Int))
    · rw [mnk_yes c] at nx
      exact ev_ifp (by omega) (ev_ifp (by omega) (ev_ifp (by omega) (ev_ifn (by omega) (ev_bind _ (genI_ev _ (by omega)) (ev_ifp (by simpa using g.2 c) nx)))))
    · rw [mnk_no c] at nx
      exact ev_ifp (by omega) (ev_ifp (by omega) (ev_ifp (by omega) (ev_ifn (by omega) (ev_bind _ (genI_ev _ (by omega)) (ev_ifn (by simpa using fun h => c (g.1 h)) (ev_ifp (by omega) nx))))))
theorem fromGensI_ev {l : List Int} (hl : l.length ≤ 1099511627776) : Ev (fun k => impl_FromGens.f k l) (fns l) := by
 unfold impl_FromGens.f fns
 refine ev_bind _ (usableI_ev hl) ?_
 by_cases h : UL l
 · have ml := mns_len (l := l)
   have ll := h.1
   refine ev_ifp (by simpa using h) (ev_bind _ (sortI_srt (by omega)) ?_)
   refine fgI_l (srt_ul h) ?_ (srt l).length 0 (by omega)
   refine ev_bind _ (sgI_ev (v := mns l) (by omega)) ?_
   by_cases s : SG (mns l)
   · exact ev_ifp (by simpa using s) (ev_to (Ev.now _) (if_pos (show FN l from ⟨h, s⟩)).symm)
   · exact ev_ifn (by simpa using s) (ev_to (Ev.now _) (if_neg (show ¬ FN l from fun k => s k.2)).symm)
 · exact ev_ifn (by simpa using h) (ev_to (Ev.now _) (if_neg (show ¬ FN l from fun k => h k.1)).symm)
theorem has_l {g : List Int} (hl : g.length ≤ 1099511627776) (n : Int) (d : Nat) : ∀ i : Int, 0 ≤ i → i + d = g.length → Ev (fun k => spec_HasNumber.l0 k g n i) (decide (n ∈ g.drop i.toNat)) := by
 induction d with
 | zero =>
  intro i h0 h1
  refine Ev.step (fun k => by rw [spec_HasNumber.l0]) (ev_ifn (by omega) (ev_to (Ev.now _) ?_))
  rw [List.drop_of_length_le (by omega)]; simp
 | succ d ih =>
  intro i h0 h1
  refine Ev.step (fun k => by rw [spec_HasNumber.l0]) ?_
  rw [w64 (x := i + 1) (by omega) (by omega), drop_rd h0 (by omega)]
  refine ev_ifp (by omega) (ev_ifp h0 ?_)
  by_cases c : rd g i = n
  · exact ev_ifp c (ev_to (Ev.now _) (by simp [c]))
  · refine ev_ifn c (ev_to (ih (i + 1) (by omega) (by omega)) ?_)
    simp [Ne.symm c]
theorem has_ev {g : List Int} (hl : g.length ≤ 1099511627776) (n : Int) : Ev (fun k => spec_HasNumber.f k g n) (decide (n ∈ g)) := by
 unfold spec_HasNumber.f
 exact ev_to (has_l hl n g.length 0 (by omega) (by omega)) (by simp)
theorem idx_l {v : List Int} (n : Int) (hl : v.length ≤ 1099511627776) (d : Nat) : ∀ i : Int, 0 ≤ i → i + d = v.length → ∃ r, Ev (fun k => slices_Index_int_int.l0 k v n (v.length : Int) i) r ∧ (r ≥ 0 ↔ n ∈ v.drop i.toNat) := by
 induction d with
 | zero =>
  intro i h0 h1
  refine ⟨-1, Ev.step (fun k => by rw [slices_Index_int_int.l0]) (ev_ifn (by omega) (Ev.now _)), ?_⟩
  rw [List.drop_of_length_le (by omega)]
  simp
 | succ d ih =>
  intro i h0 h1
  by_cases c : n = rd v i
  · refine ⟨i, Ev.step (fun k => by rw [slices_Index_int_int.l0]) (ev_ifp (by omega) (ev_ifp h0 (ev_ifp (by omega) (ev_ifp c (Ev.now _))))), ?_⟩
    rw [drop_rd h0 (by omega), ← c]
    exact ⟨fun _ => List.mem_cons_self .., fun _ => h0⟩
  · obtain ⟨r, a, b⟩ := ih (i + 1) (by omega) (by omega)
    refine ⟨r, Ev.step (fun k => by rw [slices_Index_int_int.l0]) ?_, ?_⟩
    · rw [w64 (x := i + 1) (by omega) (by omega)]
      exact ev_ifp (by omega) (ev_ifp h0 (ev_ifp (by omega) (ev_ifn c a)))
    · rw [b, drop_rd h0 (by omega), List.mem_cons]
      exact ⟨fun k => .inr k, fun k => k.resolve_left c⟩
theorem inI_ev {v : List Int} (n : Int) (hl : v.length ≤ 1099511627776) : Ev (fun k => slices_Contains_int_int.f k v n) (decide (n ∈ v)) := by
 unfold slices_Contains_int_int.f slices_Index_int_int.f
 obtain ⟨r, a, b⟩ := idx_l n hl v.length 0 (Int.le_refl _) (by omega)
 refine ev_bind _ a (ev_to (Ev.now _) ?_)
 rw [decide_eq_decide, b]
 simp
def tms (v : List Int) (n : Int) : List Int := v.map (· * n)
theorem tms_len (v : List Int) (n : Int) : (tms v n).length = v.length := List.length_map ..
theorem tms_step {v : List Int} {n i : Int} (h0 : 0 ≤ i) (h : i < v.length) : tms (v.take (i + 1).toNat) n = tms (v.take i.toNat) n ++ [rd v i * n] := by
 rw [take_rd h0 h]; unfold tms; rw [List.map_append]; rfl
theorem times_l {v : List Int} {n : Int} (hl : v.length ≤ 12) (hv : ∀ x ∈ v, 1 ≤ x ∧ x ≤ 60) (hn : 1 ≤ n ∧ n ≤ 60) (d : Nat) : ∀ i : Int, 0 ≤ i → i + d = v.length → Ev (fun k => spec_l22Times.l0 k v n (tms (v.take i.toNat) n) i) (tms v n) := by
 induction d with
 | zero =>
  intro i h0 h1
  rw [List.take_of_length_le (by omega)]
  exact Ev.step (fun k => by rw [spec_l22Times.l0]) (ev_ifn (by omega) (Ev.now _))
 | succ d ih =>
  intro i h0 h1
  have nx := ih (i + 1) (by omega) (by omega)
  have tl := tms_len (v.take i.toNat) n
  rw [List.length_take] at tl
  have hx := hv _ (rd_mem (l := v) (i := i) h0 (by omega))
  have lo : 0 ≤ rd v i * n := Int.mul_nonneg (by omega) (by omega)
  have hi : rd v i * n ≤ 60 * 60 := Int.mul_le_mul hx.2 hn.2 (by omega) (by omega)
  rw [tms_step h0 (by omega)] at nx
  refine Ev.step (fun k => by rw [spec_l22Times.l0]) ?_
  rw [w64 (x := i + 1) (by omega) (by omega), w64 (x := rd v i * n) (by omega) (by omega)]
  exact ev_ifp (by omega) (ev_ifp h0 (ev_ifp (by omega) nx))
theorem times_ev {v : List Int} {n : Int} (hl : v.length ≤ 12) (hv : ∀ x ∈ v, 1 ≤ x ∧ x ≤ 60) (hn : 1 ≤ n ∧ n ≤ 60) : Ev (fun k => spec_l22Times.f k v n) (tms v n) := by
 unfold spec_l22Times.f
 have := times_l hl hv hn v.length 0 (Int.le_refl _) (by omega)
 rwa [show (0 : Int).toNat = 0 from rfl, List.take_zero] at this
theorem gl1_l {v p : List Int} {n : Int} (hl : v.length ≤ 12) (hp : p.length ≤ 100) (hv : ∀ x ∈ v, 1 ≤ x ∧ x ≤ 60) (hn : 1 ≤ n ∧ n ≤ 60) {r : List Int × Bool} (R : Ev (fun k => (impl_FromGens.f k (p ++ tms v n)).bind fun bt => some (bt.1, bt.2)) r) (d : Nat) : ∀ i : Int, 0 ≤ i → i + d = v.length → Ev (fun k => impl_GlueOf.l1 k n (p ++ tms (v.take i.toNat) n) v (v.length : Int) i) r := by
 induction d with
 | zero =>
  intro i h0 h1
  rw [List.take_of_length_le (by omega)]
  exact Ev.step (fun k => by rw [impl_GlueOf.l1]) (ev_ifn (by omega) R)
 | succ d ih =>
  intro i h0 h1
  have nx := ih (i + 1) (by omega) (by omega)
  have tl := tms_len (v.take i.toNat) n
  rw [List.length_take] at tl
  have hx := hv _ (rd_mem (l := v) (i := i) h0 (by omega))
  have lo : 0 ≤ rd v i * n := Int.mul_nonneg (by omega) (by omega)
  have hi : rd v i * n ≤ 60 * 60 := Int.mul_le_mul hx.2 hn.2 (by omega) (by omega)
  rw [tms_step h0 (by omega), ← List.append_assoc] at nx
  refine Ev.step (fun k => by rw [impl_GlueOf.l1]) ?_
  rw [w64 (x := i + 1) (by omega) (by omega), Int.mul_comm n, w64 (x := rd v i * n) (by omega) (by omega)]
  exact ev_ifp (by omega) (ev_ifp h0 (ev_ifp (by omega) (ev_ifp (by rw [List.length_append]; omega) nx)))
theorem gl0_l {v u : List Int} {n m : Int} (hl : v.length ≤ 12) (hv : ∀ x ∈ v, 1 ≤ x ∧ x ≤ 60) (hn : 1 ≤ n ∧ n ≤ 60) {r : List Int × Bool} (R : Ev (fun k => impl_GlueOf.l1 k m (tms v n) u (u.length : Int) 0) r) (d : Nat) : ∀ i : Int, 0 ≤ i → i + d = v.length → Ev (fun k => impl_GlueOf.l0 k n m (tms (v.take i.toNat) n) v (v.length : Int) i u) r := by
 induction d with
 | zero =>
  intro i h0 h1
  rw [List.take_of_length_le (by omega)]
  exact Ev.step (fun k => by rw [impl_GlueOf.l0]) (ev_ifn (by omega) R)
 | succ d ih =>
  intro i h0 h1
  have nx := ih (i + 1) (by omega) (by omega)
  have tl := tms_len (v.take i.toNat) n
  rw [List.length_take] at tl
  have hx := hv _ (rd_mem (l := v) (i := i) h0 (by omega))
  have lo : 0 ≤ rd v i * n := Int.mul_nonneg (by omega) (by omega)
  have hi : rd v i * n ≤ 60 * 60 := Int.mul_le_mul hx.2 hn.2 (by omega) (by omega)
  rw [tms_step h0 (by omega)] at nx
  refine Ev.step (fun k => by rw [impl_GlueOf.l0]) ?_
  rw [w64 (x := i + 1) (by omega) (by omega), Int.mul_comm n, w64 (x := rd v i * n) (by omega) (by omega)]
  exact ev_ifp (by omega) (ev_ifp h0 (ev_ifp (by omega) (ev_ifp (by omega) nx)))
def GlueC (a b : List Int) (x y : Int) : Prop := Con b x ∧ Con a y ∧ x ∉ b ∧ y ∉ a ∧ (1 ≤ x ∧ x ≤ 60) ∧ (1 ≤ y ∧ y ≤ 60) ∧ gcdOf x y = 1
noncomputable instance (a b : List Int) (x y : Int) : Decidable (GlueC a b x y) := Classical.propDecidable _
noncomputable def glu (a b : List Int) (x y : Int) : List Int × Bool := if GlueC a b x y then fns (tms a x ++ tms b y) else ([], false)
theorem glu_len (a b : List Int) (x y : Int) : (glu a b x y).1.length ≤ 20 := by
 unfold glu
 split
 · exact fns_len _
 · simp
theorem glueI_ev {a b : List Int} (x y : Int) (ha : a.length ≤ 1099511627776) (hb : b.length ≤ 1099511627776) : Ev (fun k => impl_GlueOf.f k a b x y) (glu a b x y) := by
 have no : ¬ GlueC a b x y → Ev (fun _ => some (([] : List Int), false)) (glu a b x y) := fun h => ev_to (Ev.now _) (if_neg h).symm
 have j1 : ∀ t, (t = true ∧ ¬ GlueC a b x y) ∨ (t = false ∧ GlueC a b x y) → Ev (fun k => impl_GlueOf.j1 k x y t a b) (glu a b x y) := by
  rintro t (⟨rfl, h⟩ | ⟨rfl, h⟩)
  · exact Ev.step (fun k => by rw [impl_GlueOf.j1]) (ev_ifp rfl (no h))
  · have hh := h
    obtain ⟨h1, h2, _, _, h5, h6, _⟩ := h
    have sb := h1.2.1
    have sa := h2.2.1
    have la := sa.len
    have lb := sb.len
    have ta := tms_len a x
    have tb := tms_len b y
    refine Ev.step (fun k => by rw [impl_GlueOf.j1]) (ev_ifn (by simp) ?_)
    have R : Ev (fun k => (impl_FromGens.f k (tms a x ++ tms b y)).bind fun bt => some (bt.1, bt.2)) (glu a b x y) := by
     refine ev_bind _ (fromGensI_ev (by rw [List.length_append]; omega)) (ev_to (Ev.now _) ?_)
     exact (if_pos hh).symm
    have B := gl1_l (v := b) (p := tms a x) (n := y) (by omega) (by omega) sb.ul.2 h6 R b.length 0 (Int.le_refl _) (by omega)
    rw [show (0 : Int).toNat = 0 from rfl, List.take_zero] at B
    have A := gl0_l (v := a) (u := b) (n := x) (m := y) (by omega) sa.ul.2 h5 (by simpa [tms] using B) a.length 0 (Int.le_refl _) (by omega)
    rw [show (0 : Int).toNat = 0 from rfl, List.take_zero] at A
    exact A
 have j0y : ¬ GlueC a b x y → Ev (fun k => impl_GlueOf.j0 k x y true a b) (glu a b x y) := fun h => Ev.step (fun k => by rw [impl_GlueOf.j0]) (ev_ifp rfl (no h))
 unfold impl_GlueOf.f
 refine ev_bind _ (conI_ev x hb) ?_
 by_cases c1 : Con b x
 · refine ev_ifp (by simpa using c1) (ev_bind _ (inI_ev x hb) ?_)
   by_cases c3 : x ∈ b
   · exact ev_ifp (by simpa using c3) (j0y (fun h => h.2.2.1 c3))
   · refine ev_ifn (by simpa using c3) (ev_bind _ (conI_ev y ha) ?_)
     by_cases c2 : Con a y
     · refine ev_ifp (by simpa using c2) (ev_bind _ (inI_ev y ha) ?_)
       by_cases c4 : y ∈ a
       · rw [decide_eq_true c4]; exact j0y (fun h => h.2.2.2.1 c4)
       · rw [decide_eq_false c4]
         refine Ev.step (fun k => by rw [impl_GlueOf.j0]) (ev_ifn (by simp) ?_)
         simp only [within_eq, Option.bind_some]
         by_cases c5 : 1 ≤ x ∧ x ≤ 60
         · refine ev_ifp (by simpa using c5) ?_
           by_cases c6 : 1 ≤ y ∧ y ≤ 60
           · refine ev_ifp (by simpa using c6) (ev_bind _ (gcdI_ev x y) ?_)
             by_cases c7 : gcdOf x y = 1
             · exact j1 _ (.inr ⟨by simpa using c7, c1, c2, c3, c4, c5, c6, c7⟩)
             · exact j1 _ (.inl ⟨by simpa using c7, fun h => c7 h.2.2.2.2.2.2⟩)
           · exact ev_ifn (by simpa using c6) (j1 _ (.inl ⟨rfl, fun h => c6 h.2.2.2.2.2.1⟩))
         · exact ev_ifn (by simpa using c5) (j1 _ (.inl ⟨rfl, fun h => c5 h.2.2.2.2.1⟩))
     · exact ev_ifn (by simpa using c2) (j0y (fun h => c2 h.2.1))
 · exact ev_ifn (by simpa using c1) (j0y (fun h => c1 h.1))
theorem glueS_ev {a b : List Int} (x y : Int) (ha : a.length ≤ 1099511627776) (hb : b.length ≤ 1099511627776) : Ev (fun k => spec_GlueOf.f k a b x y) (glu a b x y) := by
 have j0 : ∀ t, (t = true ∧ ¬ GlueC a b x y) ∨ (t = false ∧ GlueC a b x y) → Ev (fun k => spec_GlueOf.j0 k x y t a b) (glu a b x y) := by
  rintro t (⟨rfl, h⟩ | ⟨rfl, h⟩)
  · exact Ev.step (fun k => by rw [spec_GlueOf.j0]) (ev_ifp rfl (ev_to (Ev.now _) (if_neg h).symm))
  · have hh := h
    obtain ⟨h1, h2, _, _, h5, h6, _⟩ := h
    have sb := h1.2.1
    have sa := h2.2.1
    have la := sa.len
    have lb := sb.len
    have ta := tms_len a x
    have tb := tms_len b y
    refine Ev.step (fun k => by rw [spec_GlueOf.j0]) (ev_ifn (by simp) ?_)
    refine ev_bind _ (times_ev (by omega) sa.ul.2 h5) (ev_bind _ (times_ev (by omega) sb.ul.2 h6) (ev_ifp (by omega) ?_))
    refine ev_bind _ (fromGensS_ev (by rw [List.length_append]; omega)) (ev_to (Ev.now _) ?_)
    exact (if_pos hh).symm
 have yes : ¬ GlueC a b x y → Ev (fun k => spec_GlueOf.j0 k x y true a b) (glu a b x y) := fun h => j0 _ (.inl ⟨rfl, h⟩)
 unfold spec_GlueOf.f
 simp only [l1In_eq, Option.bind_some]
 refine ev_bind _ (conS_ev x hb) ?_
 by_cases c1 : Con b x
 · refine ev_ifp (by simpa using c1) (ev_bind _ (conS_ev y ha) ?_)
   by_cases c2 : Con a y
   · refine ev_ifp (by simpa using c2) (ev_bind _ (has_ev hb x) ?_)
     by_cases c3 : x ∈ b
     · exact ev_ifp (by simpa using c3) (yes (fun h => h.2.2.1 c3))
     · refine ev_ifn (by simpa using c3) (ev_bind _ (has_ev ha y) ?_)
       by_cases c4 : y ∈ a
       · exact ev_ifp (by simpa using c4) (yes (fun h => h.2.2.2.1 c4))
       · refine ev_ifn (by simpa using c4) ?_
         by_cases c5 : 1 ≤ x ∧ x ≤ 60
         · refine ev_ifp (by simpa using c5) ?_
           by_cases c6 : 1 ≤ y ∧ y ≤ 60
           · refine ev_ifp (by simpa using c6) (ev_bind _ (gcdS_ev x y) ?_)
             by_cases c7 : gcdOf x y = 1
             · exact j0 _ (.inr ⟨by simpa using c7, c1, c2, c3, c4, c5, c6, c7⟩)
             · exact j0 _ (.inl ⟨by simpa using c7, fun h => c7 h.2.2.2.2.2.2⟩)
           · exact ev_ifn (by simpa using c6) (yes (fun h => c6 h.2.2.2.2.2.1))
         · exact ev_ifn (by simpa using c5) (yes (fun h => c5 h.2.2.2.2.1))
   · exact ev_ifn (by simpa using c2) (yes (fun h => c2 h.2.1))
 · exact ev_ifn (by simpa using c1) (yes (fun h => c1 h.1))
end Go.Proofs.Ytjjajcldmkmgkaa.E
end
