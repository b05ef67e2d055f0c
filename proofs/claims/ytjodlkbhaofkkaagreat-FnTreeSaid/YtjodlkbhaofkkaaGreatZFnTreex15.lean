-- Bundled by shake.py from this session's printed and written texts; Lean checks it.
import Derived.ChangeSlices
import Derived.SizedLaws
import Derived.Test.YtjodlkbhaofkkaaGreatZFnTreex12
import Derived.Test.YtjodlkbhaofkkaaGreatZFnTreex14
section
namespace Go.Proofs.YtjodlkbhaofkkaaGreat.Pure
open Go.RowKit Go.Proofs.YtjodlkbhaofkkaaGreat.PA Go.Proofs.YtjodlkbhaofkkaaGreat.E Go.Proofs.YtjodlkbhaofkkaaGreatW.PrintWords Go.Proofs.YtjodlkbhaofkkaaGreatW.PrintLast Go.Proofs.YtjodlkbhaofkkaaGreatW.PrintMore
set_option linter.unusedVariables false
set_option linter.unusedSimpArgs false
theorem afS {v : List Int} {x : Int} (b : (tj v x).2 = true) : SG (tj v x).1 := by
 unfold tj AF at b ⊢
 by_cases f : FG (AK (gp v ++ [x]))
 · rw [if_pos f]; exact f.2.2
 · rw [if_neg f] at b; cases b
theorem anT {b : List Int} {m : Int} (hm : m ≤ 7) (d : Nat) : ∀ (i j h : Int) (v : List Int), 0 ≤ i → i + d = max i m → SG v → Cu b j → ∃ s j' h', s.length ≤ 13 ∧ Ev (fun k => dp.l0 k m i b j h v) (s, j', h') := by
 induction d with
 | zero =>
  intro i j h v i0 hi sv cj
  have hl := sv.len
  obtain ⟨x, j1, g1, e, c1⟩ := DG h cj (n := 12) (by omega)
  by_cases hx : x = true
  · obtain ⟨s, j2, h2, s1, _, s3⟩ := td g1 c1
    refine ⟨s, j2, h2, s1, Ev.step (fun k => by rw [dp.l0]) (ax (by omega) ?_)⟩
    rw [e]
    simp only [Option.bind_some]
    exact ab hx (au _ s3 (Ev.now _))
  · refine ⟨v, j1, g1, by omega, Ev.step (fun k => by rw [dp.l0]) (ax (by omega) ?_)⟩
    rw [e]
    simp only [Option.bind_some]
    exact ax hx (Ev.now _)
 | succ d ih =>
  intro i j h v i0 hi sv cj
  have hl := sv.len
  have hu := sv.ul.1
  obtain ⟨x, j1, g1, e, hx, c1⟩ := mr h cj (n := (v.length : Int)) (by omega)
  have rm := Tm sv (jh (l := v) hx.1 hx.2)
  have stay := ih (i + 1) j1 g1 v (by omega) (by omega) sv c1
  have stp : ∀ {r : List Int × Int × Int}, Ev (fun k => (bL.f k v (rd v x)).bind fun zS => (if zS.2 = true then ((dj.f k zS.1).bind fun aen => (if aen < 16 then (dp.l0 k m (wrap64 (i + 1)) b j1 g1 zS.1) else (dp.l0 k m (wrap64 (i + 1)) b j1 g1 v))) else (dp.l0 k m (wrap64 (i + 1)) b j1 g1 v))) r → Ev (fun k => dp.l0 k m i b j h v) r := fun q => by
   refine Ev.step (fun k => by rw [dp.l0]) (ab (by omega) ?_)
   rw [e]
   simp only [Option.bind_some]
   exact ab hx.1 (ab hx.2 q)
  rw [← iw (x := i + 1) (by omega) (by omega)] at stay
  by_cases c : (tj v (rd v x)).2 = true
  · have fs := DL v (rd v x)
    by_cases f : qz (tj v (rd v x)).1 < 16
    · obtain ⟨s, j', h', q1, q2⟩ := ih (i + 1) j1 g1 _ (by omega) (by omega) (afS c) c1
      rw [← iw (x := i + 1) (by omega) (by omega)] at q2
      exact ⟨s, j', h', q1, stp (au _ rm (ab c (au _ (wB (by omega)) (ab f q2))))⟩
    · obtain ⟨s, j', h', q1, q2⟩ := stay
      exact ⟨s, j', h', q1, stp (au _ rm (ab c (au _ (wB (by omega)) (ax f q2))))⟩
  · obtain ⟨s, j', h', q1, q2⟩ := stay
    exact ⟨s, j', h', q1, stp (au _ rm (ax c q2))⟩
theorem afT {b : List Int} {j : Int} (h : Int) (c : Cu b j) : ∃ s j' h', s.length ≤ 13 ∧ Ev (fun k => dp.f k b j h) (s, j', h') := by
 obtain ⟨x, j1, g1, e, hx, c1⟩ := mr h c (n := 7) (by omega)
 obtain ⟨s, j2, h2, s1, s2⟩ := anT (b := b) (m := x) (by omega) x.toNat 0 j1 g1 [1] (by omega) (by omega) I9 c1
 refine ⟨s, j2, h2, s1, ?_⟩
 unfold dp.f
 refine au _ Tr ?_
 rw [e]
 simp only [Option.bind_some]
 exact s2
theorem XB {b : List Int} (hb : (b.length : Int) ≤ 1099511627776) : ∃ s, s.length ≤ 13 ∧ Ev (fun k => iD.f k b) s := by
 obtain ⟨g, n, c⟩ := Ar hb
 obtain ⟨s, j, h, s1, _, s3⟩ := td g c
 exact ⟨s, s1, au _ n (au _ s3 (Ev.now _))⟩
theorem TD {b : List Int} (hb : (b.length : Int) ≤ 1099511627776) : ∃ s, s.length ≤ 13 ∧ Ev (fun k => gP.f k b) s := by
 obtain ⟨g, n, c⟩ := Ar hb
 obtain ⟨s, j, h, s1, _, s3⟩ := td g c
 exact ⟨s, s1, au _ n (au _ s3 (Ev.now _))⟩
theorem TE {b : List Int} (hb : (b.length : Int) ≤ 1099511627776) : ∃ s, s.length ≤ 13 ∧ Ev (fun k => jr.f k b) s := by
 obtain ⟨g, n, c⟩ := Ar hb
 obtain ⟨x, j1, g1, e, c1⟩ := DG g c (n := 8) (by omega)
 by_cases hx : x = true
 · obtain ⟨s, j, h, s1, _, s3⟩ := td g1 c1
   refine ⟨s, s1, au _ n ?_⟩
   rw [e]
   simp only [Option.bind_some]
   exact ab hx (au _ s3 (Ev.now _))
 · obtain ⟨s, j, h, s1, s3⟩ := afT g1 c1
   refine ⟨s, s1, au _ n ?_⟩
   rw [e]
   simp only [Option.bind_some]
   exact ax hx (au _ s3 (Ev.now _))
theorem XC {b : List Int} (hb : (b.length : Int) ≤ 1099511627776) : ∃ g, Ev (fun k => gQ.f k b) g := by
 obtain ⟨g, n, c⟩ := Ar hb
 obtain ⟨x, j1, g1, e, _, _⟩ := yo g c (l := [0, 1, 2, 3, 4, 5, 3, 4, (-1), 9]) (by simp)
 refine ⟨x, au _ n ?_⟩
 rw [e]
 simp only [Option.bind_some]
 exact Ev.now _
theorem XD {b : List Int} (hb : (b.length : Int) ≤ 1099511627776) : ∃ g : Int, (g ≤ 6 ∨ 9 ≤ g) ∧ Ev (fun k => gR.f k b) g := by
 obtain ⟨g, n, c⟩ := Ar hb
 obtain ⟨x, j1, g1, e, hx, _⟩ := yo g c (l := [0, 1, 2, 3, 4, 5, 4, 6, (-1), 9]) (by simp)
 refine ⟨x, ?_, au _ n ?_⟩
 · simp only [List.mem_cons, List.not_mem_nil, or_false] at hx
   omega
 · rw [e]
   simp only [Option.bind_some]
   exact Ev.now _
theorem TF (a0 : Int) : ∃ L : List cT, Ev (fun k => aM.f k a0) L ∧ Ev (fun k => bk.f k a0) L ∧ L.length ≤ 1073741824 ∧ (∀ s ∈ L, s.f0.length ≤ 1048576 ∧ rf s.f0 = a0) ∧ (0 ≤ a0 → a0 ≤ 8 → L = lay a0.toNat) := by
 by_cases c : 0 ≤ a0 ∧ a0 ≤ 8
 · obtain ⟨g, rfl⟩ : ∃ g : Nat, a0 = (g : Int) := ⟨a0.toNat, by omega⟩
   have hg : g ≤ 8 := by omega
   have l := Ca hg
   refine ⟨lay g, afJ hg, afM hg, by omega, fun s hs => ?_, fun _ _ => by rw [Int.toNat_natCast]⟩
   obtain ⟨q1, q2⟩ := (sD g).sg s hs
   have := q1.len
   exact ⟨by omega, by unfold rf; rw [if_pos q1, q2]⟩
 · refine ⟨[], ?_, ?_, by simp, fun s hs => (by cases hs), fun h1 h2 => absurd ⟨h1, h2⟩ c⟩
   · unfold aM.f
     rw [n4]
     simp only [Option.bind_some]
     exact ax (by simpa using c) (Ev.now _)
   · unfold bk.f
     rw [lG]
     simp only [Option.bind_some]
     exact ax (by simpa using c) (Ev.now _)
theorem afU (a0 : Int) : ∃ n : Int, Ev (fun k => gT.f k a0) n ∧ Ev (fun k => fR.f k a0) n ∧ (0 ≤ a0 → a0 ≤ 6 → n = rd [1, 1, 2, 4, 7, 12, 23, 39, 67] a0) := by
 by_cases c : 0 ≤ a0 ∧ a0 ≤ 8
 · obtain ⟨L, h1, h2, _, _, h5⟩ := TF a0
   refine ⟨L.length, ?_, ?_, fun q1 q2 => ?_⟩
   · unfold gT.f
     rw [n4]
     simp only [Option.bind_some]
     exact ab (by simpa using c) (au _ h1 (Ev.now _))
   · unfold fR.f
     rw [lG]
     simp only [Option.bind_some]
     exact ab (by simpa using c) (au _ h2 (Ev.now _))
   · rw [h5 q1 (by omega), Xy (by omega), Int.toNat_of_nonneg q1]
 · refine ⟨-1, ?_, ?_, fun q1 q2 => absurd ⟨q1, by omega⟩ c⟩
   · unfold gT.f
     rw [n4]
     simp only [Option.bind_some]
     exact ax (by simpa using c) (Ev.now _)
   · unfold fR.f
     rw [lG]
     simp only [Option.bind_some]
     exact ax (by simpa using c) (Ev.now _)
theorem afV {rn : Int} {L : List cT} (hL : L.length ≤ 1073741824) (hs : ∀ s ∈ L, s.f0.length ≤ 1048576 ∧ rf s.f0 = rn) {d : List Int} (hd : d.length ≤ 13) (e : Nat) : ∀ i : Nat, i + e = L.length → Ev (fun k => aw.l1 k rn L (Cb d).1 (Cb d).2 (i : Int) d) true := by
 induction e with
 | zero =>
  intro i h
  refine Ev.step (fun k => by rw [aw.l1]) (ax (by omega) ?_)
  by_cases b : (Cb d).2 = true
  · refine ab b (au _ (TC (by omega)) ?_)
    have sd : SG d := Classical.byContradiction fun q => by unfold Cb at b; rw [if_neg q] at b; cases b
    have gn : rf d = (gp d).length := by unfold rf; rw [if_pos sd]
    have gl := pR d
    unfold Cb at b ⊢
    rw [if_pos sd] at b ⊢
    obtain ⟨pre, e1, e2⟩ := Lt _ _ _ b
    rw [e1, gn, iw (x := ((gp d).length : Int) + 1) (by omega) (by omega)]
    have ln : ((pre ++ [(⟨d⟩ : cT)]).length : Int) = (gp d).length + 1 := by rw [List.length_append, e2]; rfl
    rw [ln, iw (x := ((gp d).length : Int) + 1 - 1) (by omega) (by omega)]
    refine ab rfl (ab (by omega) (ab (by omega) ?_))
    have : cG (pre ++ [(⟨d⟩ : cT)]) (((gp d).length : Int) + 1 - 1) = ⟨d⟩ := by
     rw [show ((gp d).length : Int) + 1 - 1 = (pre.length : Int) from by omega, vx (by simp)]
     simp
    rw [this]
    exact au _ (DS (by show d.length ≤ _; omega)) (Ev.now _)
  · exact ax b (Ev.now _)
 | succ e ih =>
  intro i h
  have hi : i < L.length := by omega
  obtain ⟨q1, q2⟩ := hs _ (List.getElem_mem hi)
  refine Ev.step (fun k => by rw [aw.l1]) (ab (by omega) (ab (by omega) ?_))
  rw [vx hi]
  refine au _ (TC (by omega)) ?_
  rw [q2, iw (x := (i : Int) + 1) (by omega) (by omega)]
  exact ab rfl (ih (i + 1) (by omega))
theorem afW {rn : Int} {L : List cT} (hL : L.length ≤ 1073741824) (hs : ∀ s ∈ L, s.f0.length ≤ 1048576 ∧ rf s.f0 = rn) {d : List Int} (hd : d.length ≤ 13) {c : List Int} (hc : c.length ≤ 13) (e : Nat) : ∀ i : Nat, i + e = (kids c).1.length → Ev (fun k => aw.l0 k (kids c).1 rn L (Cb d).1 (Cb d).2 (i : Int) c d) true := by
 have kl := vw c
 induction e with
 | zero => intro i h; exact Ev.step (fun k => by rw [aw.l0]) (ax (by omega) (show Ev (fun k => aw.l1 k rn L (Cb d).1 (Cb d).2 0 d) true from afV hL hs hd L.length 0 (by omega)))
 | succ e ih =>
  intro i h
  have hi : i < (kids c).1.length := by omega
  obtain ⟨sc, x, hx, nf, b, eq⟩ := sC (List.getElem_mem hi)
  refine Ev.step (fun k => by rw [aw.l0]) (ab (by omega) (ab (by omega) ?_))
  have rl := DL c x
  rw [vx hi, eq]
  refine au _ (DQ (by show (tj c x).1.length ≤ _; omega)) ?_
  rw [Xz sc nf b]
  refine ab rfl (au _ (DS (by show c.length ≤ _; omega)) (ab rfl ?_))
  rw [iw (x := (i : Int) + 1) (by omega) (by omega)]
  exact ih (i + 1) (by omega)
theorem afX (l0 : List Int) (h1 : l0.length ≤ maxLen) (h2 : l0.length * 1 ≤ 140737488351232) (h3 : ∀ x ∈ l0, (Lit.int .u8 x).wf = true) : ∃ k, aw.f k l0 = some true := by
 apply Ev.rounds
 unfold aw.f oz.f
 simp only [Option.bind_some]
 by_cases big : (l0.length : Int) > 1048576
 · exact ab (by simpa using big) (Ev.now _)
 refine ax (by simpa using big) ?_
 have hb : (l0.length : Int) ≤ 1099511627776 := by omega
 obtain ⟨s, s1, sE⟩ := XB hb
 obtain ⟨c, c1, cE⟩ := TD hb
 obtain ⟨g, gE⟩ := XC hb
 obtain ⟨L, aS, aI, L1, L2, _⟩ := TF g
 obtain ⟨q, q1, qE⟩ := XD hb
 obtain ⟨n, nS, nI, n1⟩ := afU q
 obtain ⟨d, d1, dE⟩ := TE hb
 have pl := Ls s
 have kl := vw c
 have ks : ∀ x ∈ (kids c).1, x.f0.length ≤ 1099511627776 := fun x hx => by
  obtain ⟨_, y, _, _, _, rfl⟩ := sC hx
  have := DL c y
  show (tj c y).1.length ≤ _
  omega
 obtain ⟨p1, p2⟩ := M9 d
 refine au _ sE (au _ (DQ (by omega)) (au _ (DR (by omega)) (au _ cE (au _ (Ln (by omega)) (au _ (Lm (by omega)) (au _ gE (au _ aI (au _ qE (au _ dE (au _ (TA (by omega)) (au _ (Tz (by omega)) ?_)))))))))))
 refine ax (by simp) (au _ (DS (by omega)) (ab rfl (ax (by simp) (au _ (AG (by omega) ks) (ab rfl (au _ aS (au _ (AG (by omega) (fun x hx => by have := (L2 x hx).1; omega)) (ab rfl (au _ nI (au _ nS (ab rfl (ax (by simp) (au _ (AG (by omega) (fun x hx => by have := p2 x hx; omega)) ?_)))))))))))))
 have fin : Ev (fun k => aw.j1 k (kids c).1 g L (Cb d).1 (Cb d).2 false c d) true := Ev.step (fun k => by rw [aw.j1]) (ax (by decide) (show Ev (fun k => aw.l0 k (kids c).1 g L (Cb d).1 (Cb d).2 0 c d) true from afW L1 L2 d1 c1 _ 0 (Nat.zero_add _)))
 refine Ev.step (fun k => by rw [aw.j0]) (ax (by decide) ?_)
 by_cases k1 : q ≥ 0
 · refine ab k1 ?_
   by_cases k2 : q ≤ 8
   · refine ab k2 (au _ nI (au _ (Ev.now _) (ab k1 (ab (by simp only [List.length_cons, List.length_nil]; omega) ?_))))
     rw [n1 k1 (by omega), show (rd [1, 1, 2, 4, 7, 12, 23, 39, 67] q != rd [1, 1, 2, 4, 7, 12, 23, 39, 67] q) = false from by simp]
     exact fin
   · exact ax k2 fin
 · exact ax k1 fin
end Go.Proofs.YtjodlkbhaofkkaaGreat.Pure
end
section
namespace Go.Proofs.YtjodlkbhaofkkaaGreatW.PrintWords
open Go.ChangeShapes Go.WideShapes
theorem I_ {H : Type} {enc : TypeId × Value → H} {P : Program} {W : World} {base : Nat} {spare : Nat → Bool} {held : Bool} {t e : TypeId} {k : IntKind} {a : Option Addr} {len cap : Nat} {d : DataW H} {ps : List MemPlace} {ts : List TypeId} {ds : List (DataW H)} {j : Nat}
 (hsz : (DataW.weightsEach P ts ds).all (· ≤ reachBytes) = true) (ht : ts[j]? = some t) (hd : ds[j]? = some d) (hu : P.underlying t = some (.slice e)) (he : P.underlying e = some (.int k)) (hc : P.cellsOf e = 1) {B : Nat} (hB : P.bytesOf e = B)
 (h : DataW.Trod enc P W base spare held t (.slice a len cap) d ps) : len * B ≤ 140737488351232 := by
 obtain ⟨fuel, hf⟩ := h
 rcases open_ints hu he hc hf with ⟨hcs, _⟩ | ⟨x, l, c, zs, hcs, _, hl, _, hz, hx, _, _⟩
 · simp [Value.cells] at hcs
   obtain ⟨rfl, rfl, rfl⟩ := hcs
   simp
 · simp [Value.cells] at hcs
   obtain ⟨rfl, rfl, rfl⟩ := hcs
   obtain ⟨hx, _⟩ := Prod.mk.inj hx
   subst hx
   have z := sized_slice hsz ht hd hu
   rw [hB] at z
   have hl2 : len ≤ zs.length := by
    rw [hz]
    split
    · exact hl
    · exact Nat.le_refl _
   have h1 : (lits (H := H) k (zs.take len)).length + (lits (H := H) k (zs.drop len)).length = zs.length := by
    simp [lits]
    omega
   rw [h1] at z
   exact Nat.le_trans (Nat.mul_le_mul_right _ hl2) z
end Go.Proofs.YtjodlkbhaofkkaaGreatW.PrintWords
end
