-- Bundled by shake.py from this session's printed and written texts; Lean checks it.
import Derived.Test.YtonknpgfbkgbjaaZFnExactCountGenusx1
import Derived.Test.YtonknpgfbkgbjaaZFnExactCountGenusx10
import Derived.Test.YtonknpgfbkgbjaaZFnExactCountGenusx2
import Derived.Test.YtonknpgfbkgbjaaZFnExactCountGenusx3
import Derived.Test.YtonknpgfbkgbjaaZFnExactCountGenusx5
import Derived.Test.YtonknpgfbkgbjaaZFnExactCountGenusx6
import Derived.Test.YtonknpgfbkgbjaaZFnExactCountGenusx7
import Derived.Test.YtonknpgfbkgbjaaZFnExactCountGenusx9
section
namespace Go.Proofs.Ytonknpgfbkgbjaa.E
open Go.RowKit Go.Proofs.Ytonknpgfbkgbjaa.PB Go.Proofs.YtonknpgfbkgbjaaW.PrintWords Go.Proofs.YtonknpgfbkgbjaaW.PrintLast Go.Proofs.YtonknpgfbkgbjaaW.PrintMore
set_option linter.unusedVariables false
set_option linter.unusedSimpArgs false
theorem ev_mono {α : Type} {g : Nat → Option α} (m : ∀ k, LeO (g k) (g (k + 1))) {n : Nat} {r : α} (h : g n = some r) : Ev g r := ⟨n, fun k hk => by
 obtain ⟨d, rfl⟩ := Nat.le.dest hk
 induction d with
 | zero => exact h
 | succ d ih => exact m (n + d) r (ih (Nat.le_add_right _ _))⟩
theorem asc_pw {l : List Int} (h : Asc l) : pw l := by
 unfold pw
 rw [List.pairwise_iff_getElem]
 intro i j hi hj hij
 have := asc_lt h (j - i - 1) (i : Int) (j : Int) (by omega) (by omega) (by omega)
 rwa [rd_lt (by omega) (by omega), rd_lt (by omega) (by omega)] at this
def lx : List Int → List Int → Bool
 | a :: r, b :: s => if a = b then lx r s else decide (a < b)
 | _, _ => false
def bef (a b : List Int) : Bool := if a.length = b.length then lx a b else decide (a.length < b.length)
theorem bef_l {a b : List Int} (hl : a.length ≤ 1099511627776) (e : a.length = b.length) (d : Nat) : ∀ i : Int, 0 ≤ i → i + d = a.length → Ev (fun k => spec_l19Before.l0 k a b i) (lx (a.drop i.toNat) (b.drop i.toNat)) := by
 induction d with
 | zero =>
  intro i h0 h1
  rw [List.drop_of_length_le (by omega), lx]
  · exact Ev.step (fun k => by rw [spec_l19Before.l0]) (ev_ifn (by omega) (Ev.now _))
  · intro _ _ _ _ h; cases h
 | succ d ih =>
  intro i h0 h1
  rw [drop_rd h0 (by omega), drop_rd (l := b) h0 (by omega), lx]
  refine Ev.step (fun k => by rw [spec_l19Before.l0]) (ev_ifp (by omega) (ev_ifp h0 (ev_ifp (by omega) ?_)))
  rw [w64 (x := i + 1) (by omega) (by omega)]
  by_cases c : rd a i = rd b i
  · rw [if_pos c]; exact ev_ifp c (ih (i + 1) (by omega) (by omega))
  · rw [if_neg c]; exact ev_ifn c (Ev.now _)
theorem bef_ev {a b : List Int} (hl : a.length ≤ 1099511627776) : Ev (fun k => spec_l19Before.f k a b) (bef a b) := by
 unfold spec_l19Before.f bef
 by_cases c : a.length = b.length
 · rw [if_pos c]; exact ev_ifp (by omega) (bef_l hl c a.length 0 (by omega) (by omega))
 · rw [if_neg c]
   refine ev_ifn (by omega) (ev_to (Ev.now _) ?_)
   by_cases k : a.length < b.length
   · rw [decide_eq_true k, decide_eq_true (show (a.length : Int) < (b.length : Int) by omega)]
   · rw [decide_eq_false k, decide_eq_false (show ¬ (a.length : Int) < (b.length : Int) by omega)]
def cmpl : List Int → List Int → Int
 | [], [] => 0
 | [], _ :: _ => -1
 | _ :: _, [] => 1
 | a :: r, b :: s => if a < b then -1 else if b < a then 1 else cmpl r s
theorem cmp1_eq (a b : Int) : cmp_Compare_int.f a b = some (if a < b then -1 else if b < a then 1 else 0) := by
 unfold cmp_Compare_int.f cmp_isNaN_int.f
 simp only [Option.bind_some, bne_self_eq_false, Bool.false_eq_true, if_false, gt_iff_lt]
 split
 · rfl
 · split <;> rfl
theorem cmpl_l {a b : List Int} (hl : a.length ≤ 1099511627776) (d : Nat) : ∀ i : Int, 0 ≤ i → i + d = a.length → i ≤ b.length → Ev (fun k => slices_Compare_int_int.l0 k a b a a.length i) (cmpl (a.drop i.toNat) (b.drop i.toNat)) := by
 induction d with
 | zero =>
  intro i h0 h1 h2
  rw [List.drop_of_length_le (l := a) (by omega)]
  refine Ev.step (fun k => by rw [slices_Compare_int_int.l0]) (ev_ifn (by omega) ?_)
  by_cases c : (a.length : Int) < b.length
  · rw [drop_rd (l := b) h0 (by omega), cmpl]
    exact ev_ifp c (Ev.now _)
  · rw [List.drop_of_length_le (l := b) (by omega), cmpl]
    exact ev_ifn c (Ev.now _)
 | succ d ih =>
  intro i h0 h1 h2
  rw [drop_rd h0 (by omega)]
  refine Ev.step (fun k => by rw [slices_Compare_int_int.l0]) (ev_ifp (by omega) (ev_ifp h0 (ev_ifp (by omega) ?_)))
  by_cases c : i ≥ (b.length : Int)
  · rw [List.drop_of_length_le (l := b) (by omega), cmpl]
    exact ev_ifp c (Ev.now _)
  · rw [drop_rd (l := b) h0 (by omega), cmpl]
    refine ev_ifn c (ev_ifp (by omega) ?_)
    rw [cmp1_eq]
    simp only [Option.bind_some]
    rw [w64 (x := i + 1) (by omega) (by omega)]
    by_cases p : rd a i < rd b i
    · simp only [if_pos p]; exact ev_ifn (by decide) (Ev.now _)
    · by_cases q : rd b i < rd a i
      · simp only [if_neg p, if_pos q]; exact ev_ifn (by decide) (Ev.now _)
      · simp only [if_neg p, if_neg q]; exact ev_ifp trivial (ih (i + 1) (by omega) (by omega) (by omega))
theorem cmpl_ev {a b : List Int} (hl : a.length ≤ 1099511627776) : Ev (fun k => slices_Compare_int_int.f k a b) (cmpl a b) := cmpl_l hl a.length 0 (by omega) (by omega) (by omega)
theorem cmpl_swap : ∀ a b : List Int, cmpl b a = - cmpl a b
 | [], [] => rfl
 | [], _ :: _ => rfl
 | _ :: _, [] => rfl
 | a :: r, b :: s => by
  unfold cmpl
  by_cases p : a < b
  · simp only [if_pos p, if_neg (show ¬ b < a by omega)]; rfl
  · by_cases q : b < a
    · simp only [if_neg p, if_pos q]
    · simp only [if_neg p, if_neg q]; exact cmpl_swap r s
theorem cmpl_le : ∀ a b c : List Int, cmpl a b ≤ 0 → cmpl b c ≤ 0 → cmpl a c ≤ 0
 | [], _, [], _, _ => Int.le_refl _
 | [], _, _ :: _, _, _ => by unfold cmpl; decide
 | _ :: _, [], _, h, _ => by unfold cmpl at h; exact absurd h (by decide)
 | _ :: _, _ :: _, [], _, h => by unfold cmpl at h; exact absurd h (by decide)
 | a :: r, b :: s, c :: t, h, k => by
  unfold cmpl at h k ⊢
  by_cases p : a < b
  · by_cases q : b < c
    · rw [if_pos (show a < c by omega)]; decide
    · rw [if_neg q] at k
      by_cases w : c < b
      · rw [if_pos w] at k; exact absurd k (by decide)
      · rw [if_pos (show a < c by omega)]; decide
  · rw [if_neg p] at h
    by_cases p' : b < a
    · rw [if_pos p'] at h; exact absurd h (by decide)
    · rw [if_neg p'] at h
      by_cases q : b < c
      · rw [if_pos (show a < c by omega)]; decide
      · rw [if_neg q] at k
        by_cases w : c < b
        · rw [if_pos w] at k; exact absurd k (by decide)
        · rw [if_neg w] at k
          rw [if_neg (show ¬ a < c by omega), if_neg (show ¬ c < a by omega)]
          exact cmpl_le r s t h k
theorem lx_cmpl : ∀ a b : List Int, lx a b = true → cmpl a b < 0
 | [], _, h => by simp [lx] at h
 | _ :: _, [], h => by simp [lx] at h
 | a :: r, b :: s, h => by
  unfold lx at h
  unfold cmpl
  by_cases c : a = b
  · rw [if_pos c] at h
    rw [if_neg (by omega), if_neg (by omega)]
    exact lx_cmpl r s h
  · rw [if_neg c] at h
    rw [if_pos (of_decide_eq_true h)]; decide
theorem lx_app : ∀ a b c d : List Int, a.length = b.length → lx a b = true → lx (a ++ c) (b ++ d) = true
 | [], _, _, _, _, h => by simp [lx] at h
 | _ :: _, [], _, _, _, h => by simp [lx] at h
 | a :: r, b :: s, c, d, e, h => by
  unfold lx at h
  rw [List.cons_append, List.cons_append]
  unfold lx
  by_cases q : a = b
  · rw [if_pos q] at h ⊢
    exact lx_app r s c d (by simpa using e) h
  · rw [if_neg q] at h ⊢
    exact h
theorem lx_snoc : ∀ (g : List Int) (x y : Int), x < y → lx (g ++ [x]) (g ++ [y]) = true
 | [], x, y, h => by
  show lx [x] [y] = true
  unfold lx
  rw [if_neg (by omega)]
  exact decide_eq_true h
 | a :: r, x, y, h => by
  rw [List.cons_append, List.cons_append]
  unfold lx
  rw [if_pos rfl]
  exact lx_snoc r x y h
noncomputable def gnI (v : List Int) : Int := if SG v then ((gp v).length : Int) else -1
theorem gnI_ev {v : List Int} (hv : v.length ≤ 1099511627776) : Ev (fun k => impl_GenusOf.f k v) (gnI v) := by
 unfold impl_GenusOf.f gnI
 refine ev_bind _ (sgI_ev hv) ?_
 by_cases h : SG v
 · rw [if_pos h]
   have g := gapsI_gps hv
   rw [gps_sg h] at g
   exact ev_ifp (by simpa using h) (ev_bind _ g (Ev.now _))
 · rw [if_neg h]
   exact ev_ifn (by simpa using h) (Ev.now _)
theorem gnI_le (v : List Int) : -1 ≤ gnI v ∧ gnI v ≤ 199 := by
 unfold gnI
 have := gp_len v
 split <;> omega
noncomputable def kc (v u : List Int) : Int := if gnI v - gnI u = 0 then cmpl (gps v) (gps u) else gnI v - gnI u
theorem kc_ev {v u : List Int} (hv : v.length ≤ 1099511627776) (hu : u.length ≤ 1099511627776) : Ev (fun k => impl_inOrderCmp.f k v u) (kc v u) := by
 have a := gnI_le v
 have b := gnI_le u
 have g := gps_len v
 unfold impl_inOrderCmp.f kc
 refine ev_bind _ (gnI_ev hv) (ev_bind _ (gnI_ev hu) ?_)
 rw [w64 (x := gnI v - gnI u) (by omega) (by omega)]
 by_cases c : gnI v - gnI u = 0
 · rw [if_pos c]
   exact ev_ifp c (ev_bind _ (gapsI_gps hv) (ev_bind _ (gapsI_gps hu) (ev_bind _ (cmpl_ev (by omega)) (Ev.now _))))
 · rw [if_neg c]
   exact ev_ifn c (Ev.now _)
theorem kc_swap (v u : List Int) : kc u v = - kc v u := by
 unfold kc
 by_cases c : gnI v - gnI u = 0
 · rw [if_pos c, if_pos (show gnI u - gnI v = 0 by omega)]; exact cmpl_swap _ _
 · rw [if_neg c, if_neg (show ¬ gnI u - gnI v = 0 by omega)]; omega
theorem kc_le {a b c : List Int} (h : kc a b ≤ 0) (k : kc b c ≤ 0) : kc a c ≤ 0 := by
 unfold kc at h k ⊢
 by_cases p : gnI a - gnI b = 0
 · rw [if_pos p] at h
   by_cases q : gnI b - gnI c = 0
   · rw [if_pos q] at k
     rw [if_pos (by omega)]
     exact cmpl_le _ _ _ h k
   · rw [if_neg q] at k
     rw [if_neg (by omega)]; omega
 · rw [if_neg p] at h
   by_cases q : gnI b - gnI c = 0
   · rw [if_neg (by omega)]; omega
   · rw [if_neg q] at k
     rw [if_neg (by omega)]; omega
theorem kc_swo : Go.Sort.SWO (Go.Proofs.ltOf kc) := by
 have lt : ∀ x y, Go.Proofs.ltOf kc x y = true ↔ kc x y < 0 := fun x y => by unfold Go.Proofs.ltOf; exact decide_eq_true_iff
 have nl : ∀ x y, Go.Proofs.ltOf kc x y = false ↔ kc y x ≤ 0 := fun x y => by
  rw [kc_swap x y]; unfold Go.Proofs.ltOf; rw [decide_eq_false_iff_not]; omega
 refine ⟨fun x => ?_, fun x y z h k => ?_, fun x y z h k => ?_⟩
 · have := kc_swap x x
   rw [nl]; omega
 · rw [lt] at h k ⊢
   have h1 := kc_le (show kc x y ≤ 0 by omega) (show kc y z ≤ 0 by omega)
   by_cases c : kc x z < 0
   · exact c
   · have h2 : kc z x ≤ 0 := by rw [kc_swap x z]; omega
     have h3 := kc_le h2 (show kc x y ≤ 0 by omega)
     rw [kc_swap y z] at h3
     omega
 · rw [nl] at h k ⊢
   exact kc_le k h
theorem gp_fob {v : List Int} (h : SG v) {y : Int} (hy : y ∈ gp v) : y ≤ fob v := by
 have := (fob_some h (fun e => by rw [e] at hy; cases hy)).2.2.2 y
 have n := (gp_mem.1 hy).2.2
 exact Int.not_lt.1 fun c => n (this c)
theorem kid_fact {v : List Int} (h : SG v) {x : Int} (c : ¬ x ≤ fob v) (b : (rmg v x).2 = true) : SG (rmg v x).1 ∧ gp (rmg v x).1 = gp v ++ [x] := by
 have p : pw (gp v ++ [x]) := by
  unfold pw
  rw [List.pairwise_append]
  refine ⟨asc_pw (fl_asc _ _ _), List.pairwise_singleton _ _, fun y hy z hz => ?_⟩
  rw [List.mem_singleton.1 hz]
  have := gp_fob h hy
  omega
 have e : srt (gp v ++ [x]) = gp v ++ [x] := pw_eq (srt_pw _) p (fun z => srt_mem)
 unfold rmg at b ⊢
 rw [e] at b ⊢
 unfold fgr at b ⊢
 by_cases f : FG (gp v ++ [x])
 · rw [if_pos f]
   exact ⟨f.2.2, gp_mg f.1 f.2.1⟩
 · rw [if_neg f] at b; cases b
theorem kids_mem {v : List Int} {s : S26} (hs : s ∈ (kids v).1) : SG v ∧ ∃ x ∈ v, ¬ x ≤ fob v ∧ (rmg v x).2 = true ∧ s = ⟨(rmg v x).1⟩ := by
 unfold kids at hs
 by_cases h : SG v
 · rw [if_pos h] at hs
   refine ⟨h, ?_⟩
   rcases kgo_is v v [] with e | ⟨e, k⟩
   · rw [e] at hs; cases hs
   · rw [e, List.nil_append] at hs
     obtain ⟨x, hx, rfl⟩ := List.mem_map.1 hs
     obtain ⟨hx, hc⟩ := List.mem_filter.1 hx
     have hc : ¬ x ≤ fob v := by simpa using hc
     exact ⟨x, hx, hc, k x hx hc, rfl⟩
 · rw [if_neg h] at hs; cases hs
def ord (a b : S26) : Prop := lx (gp a.f0) (gp b.f0) = true
theorem kids_pw (v : List Int) : (kids v).1.Pairwise ord := by
 unfold kids
 by_cases h : SG v
 · rw [if_pos h]
   rcases kgo_is v v [] with e | ⟨e, k⟩
   · rw [e]; exact List.Pairwise.nil
   · rw [e, List.nil_append]
     show List.Pairwise ord _
     rw [List.pairwise_map]
     have p : (v.filter fun x => !decide (x ≤ fob v)).Pairwise (· < ·) := (asc_pw h.asc).filter _
     refine List.Pairwise.imp_of_mem (fun {a b} ha hb hab => ?_) p
     obtain ⟨ha, ca⟩ := List.mem_filter.1 ha
     obtain ⟨hb, cb⟩ := List.mem_filter.1 hb
     have ca : ¬ a ≤ fob v := by simpa using ca
     have cb : ¬ b ≤ fob v := by simpa using cb
     show lx _ _ = true
     rw [(kid_fact h ca (k a ha ca)).2, (kid_fact h cb (k b hb cb)).2]
     exact lx_snoc _ _ _ hab
 · rw [if_neg h]; exact List.Pairwise.nil
noncomputable def nxt (L : List S26) : List S26 := L.flatMap fun s => (kids s.f0).1
noncomputable def lay : Nat → List S26
 | 0 => [⟨[1]⟩]
 | n + 1 => nxt (lay n)
theorem nxt_len : ∀ L : List S26, (nxt L).length ≤ 12 * L.length
 | [] => Nat.le_refl _
 | s :: r => by
  have h := nxt_len r
  have k := kids_len s.f0
  show ((s :: r).flatMap fun s => (kids s.f0).1).length ≤ _
  rw [List.flatMap_cons, List.length_append, List.length_cons]
  show _ + (nxt r).length ≤ _
  omega
theorem lay_len : ∀ n : Nat, n ≤ 8 → (lay n).length ≤ 12 ^ n
 | 0, _ => Nat.le_refl _
 | n + 1, h => by
  have := nxt_len (lay n)
  have k := lay_len n (by omega)
  show (nxt (lay n)).length ≤ _
  rw [Nat.pow_succ]; omega
theorem lay_small {n : Nat} (h : n ≤ 8) : (lay n).length ≤ 429981696 := by
 have a := lay_len n h
 have b : 12 ^ n ≤ 12 ^ 8 := Nat.pow_le_pow_right (by decide) h
 have c : (12 : Nat) ^ 8 = 429981696 := by decide
 omega
structure Good (n : Nat) (L : List S26) : Prop where
 sg : ∀ s ∈ L, SG s.f0 ∧ (gp s.f0).length = n
 pw : L.Pairwise ord
theorem Good.next {n : Nat} {L : List S26} (h : Good n L) : Good (n + 1) (nxt L) := by
 refine ⟨fun s hs => ?_, ?_⟩
 · obtain ⟨p, hp, hs⟩ := List.mem_flatMap.1 hs
   obtain ⟨g, x, hx, c, b, rfl⟩ := kids_mem hs
   obtain ⟨f1, f2⟩ := kid_fact g c b
   refine ⟨f1, ?_⟩
   show (gp (rmg p.f0 x).1).length = n + 1
   rw [f2, List.length_append, (h.sg p hp).2]; rfl
 · unfold nxt
   rw [List.pairwise_flatMap]
   refine ⟨fun a _ => kids_pw a.f0, ?_⟩
   refine List.Pairwise.imp_of_mem (fun {a b} ha hb hab x hx y hy => ?_) h.pw
   obtain ⟨ga, u, _, cu, bu, rfl⟩ := kids_mem hx
   obtain ⟨gb, w, _, cw, bw, rfl⟩ := kids_mem hy
   show lx _ _ = true
   rw [(kid_fact ga cu bu).2, (kid_fact gb cw bw).2]
   exact lx_app _ _ _ _ (by rw [(h.sg a ha).2, (h.sg b hb).2]) hab
theorem one_fg : Ev (fun k => spec_FromGens.f k [1]) ([1], true) := ev_mono (n := 3000) (fun k => spec_FromGens.mono _ k) (by kernel_rfl)
theorem one_sg : SG [1] := by
 have a : Ev (fun k => spec_IsSemigroup.f k [1]) true := ev_mono (n := 3000) (fun k => spec_IsSemigroup.mono _ k) (by kernel_rfl)
 exact of_decide_eq_true (ev_one (sgS_ev (v := [1]) (by decide)) a)
theorem one_gp : gp [1] = [] := by
 have a : Ev (fun k => spec_l4Gaps.f k [1]) [] := ev_mono (n := 3000) (fun k => spec_l4Gaps.mono _ k) (by kernel_rfl)
 exact ev_one (l4Gaps_ev one_sg) a
theorem lay_good : ∀ n : Nat, Good n (lay n)
 | 0 => ⟨fun s hs => by rw [List.mem_singleton.1 hs]; exact ⟨one_sg, by rw [one_gp]; rfl⟩, List.pairwise_singleton _ _⟩
 | n + 1 => (lay_good n).next
theorem get26 {K : List S26} {i : Nat} (h : i < K.length) : rd_T26 K (i : Int) = K[i] := by
 unfold rd_T26
 rw [List.getD_eq_getElem?_getD, Int.toNat_natCast, List.getElem?_eq_getElem h]; rfl
theorem put_l {X : List S26} {g : List Int} (hX : ∀ e ∈ X, SG e.f0 ∧ bef (gp e.f0) g = true) (hl : X.length ≤ 1000000000) (d : Nat) : ∀ i : Nat, i + d = X.length → Ev (fun k => spec_l19Put.l0 k X g (i : Int)) (X.length : Int) := by
 induction d with
 | zero =>
  intro i h
  refine Ev.step (fun k => by rw [spec_l19Put.l0]) (ev_ifn (by omega) (ev_ifp (by omega) (ev_ifp (by omega) (ev_ifp ?_ (ev_to (Ev.now _) (by omega))))))
  rw [List.length_drop, List.length_nil]; omega
 | succ d ih =>
  intro i h
  have hi : i < X.length := by omega
  have m := hX _ (List.getElem_mem hi)
  have gl := gp_len (X[i]).f0
  refine Ev.step (fun k => by rw [spec_l19Put.l0]) (ev_ifp (by omega) (ev_ifp (by omega) ?_))
  rw [get26 hi]
  refine ev_bind _ (l4Gaps_ev m.1) (ev_bind _ (bef_ev (by omega)) (ev_ifp m.2 ?_))
  rw [w64 (x := (i : Int) + 1) (by omega) (by omega)]
  exact ih (i + 1) (by omega)
theorem put_ev {X : List S26} {c : List Int} (hc : SG c) (hX : ∀ e ∈ X, SG e.f0 ∧ bef (gp e.f0) (gp c) = true) (hl : X.length ≤ 1000000000) : Ev (fun k => spec_l19Put.f k X c) (X.length : Int) := by
 unfold spec_l19Put.f
 exact ev_bind _ (l4Gaps_ev hc) (put_l hX hl X.length 0 (by omega))
theorem copy_eq {l : List Int} (h : l.length ≤ 1048576) : spec_l3Copy.f l = some l := by
 unfold spec_l3Copy.f
 simp only [Option.bind_some, List.nil_append, List.length_nil]
 exact if_pos (by omega)
theorem agS_l2 {n : Nat} {x0 x6 : Int} {x5 pre K : List S26} {x8 : Int} (hg : Good n (pre ++ K)) (hl : (pre ++ K).length ≤ 1000000000) {r : List S26} (N : Ev (fun k => spec_AllOfGenus.l1 k x0 x5 x6 (pre ++ K) (wrap64 (x8 + 1))) r) (d : Nat) : ∀ i : Nat, i + d = K.length → Ev (fun k => spec_AllOfGenus.l2 k x0 x5 x6 (pre ++ K.take i) x8 K (i : Int)) r := by
 have hla : (pre ++ K).length = pre.length + K.length := List.length_append
 induction d with
 | zero =>
  intro i h
  rw [List.take_of_length_le (by omega)]
  exact Ev.step (fun k => by rw [spec_AllOfGenus.l2]) (ev_ifn (by omega) N)
 | succ d ih =>
  intro i h
  have hi : i < K.length := by omega
  have mi : K[i] ∈ pre ++ K := List.mem_append_right _ (List.getElem_mem hi)
  have gi := hg.sg _ mi
  have li := gi.1.len
  have hp : (pre ++ K.take i).length = pre.length + i := by rw [List.length_append, List.length_take]; omega
  refine Ev.step (fun k => by rw [spec_AllOfGenus.l2]) (ev_ifp (by omega) (ev_ifp (by omega) ?_))
  rw [get26 hi, copy_eq (by omega)]
  simp only [Option.bind_some]
  refine ev_bind _ (put_ev gi.1 (fun e he => ?_) (by omega)) ?_
  · have hs : (pre ++ K.take i) ++ (K[i] :: K.drop (i + 1)) = pre ++ K := by
     rw [List.append_assoc]; congr 1
     rw [← List.drop_eq_getElem_cons hi, List.take_append_drop]
    have p := hg.pw
    rw [← hs, List.pairwise_append] at p
    have o := p.2.2 e he _ (List.mem_cons_self ..)
    have ge := hg.sg e (by rw [← hs]; exact List.mem_append_left _ he)
    refine ⟨ge.1, ?_⟩
    unfold bef
    rw [if_pos (by rw [ge.2, gi.2])]
    exact o
  · refine ev_ifp rfl (ev_ifp (by omega) ?_)
    rw [w64 (x := (i : Int) + 1) (by omega) (by omega)]
    have e : (pre ++ K.take i) ++ [(⟨(K[i]).f0⟩ : S26)] = pre ++ K.take (i + 1) := by
     rw [List.append_assoc, List.take_succ_eq_append_getElem hi]
    rw [e]
    exact ih (i + 1) (by omega)
theorem nxt_take {L : List S26} {i : Nat} (h : i < L.length) : nxt (L.take (i + 1)) = nxt (L.take i) ++ (kids (L[i]).f0).1 := by
 unfold nxt
 rw [List.take_succ_eq_append_getElem h, List.flatMap_append]
 simp
theorem good_pre {n : Nat} {A B : List S26} (h : Good n (A ++ B)) : Good n A := ⟨fun s hs => h.sg s (List.mem_append_left _ hs), (List.pairwise_append.1 h.pw).1⟩
theorem good_take {n : Nat} {L : List S26} (h : Good n L) (i : Nat) : Good n (L.take i) := good_pre (B := L.drop i) (by rw [List.take_append_drop]; exact h)
theorem agS_l1 {n : Nat} {x0 x6 : Int} {L : List S26} (hg : Good n L) (hl : L.length ≤ 35831808) {r : List S26} (N : Ev (fun k => spec_AllOfGenus.l0 k x0 (nxt L) (wrap64 (x6 + 1))) r) (d : Nat) : ∀ i : Nat, i + d = L.length → Ev (fun k => spec_AllOfGenus.l1 k x0 L x6 (nxt (L.take i)) (i : Int)) r := by
 induction d with
 | zero =>
  intro i h
  rw [List.take_of_length_le (by omega)]
  exact Ev.step (fun k => by rw [spec_AllOfGenus.l1]) (ev_ifn (by omega) N)
 | succ d ih =>
  intro i h
  have hi : i < L.length := by omega
  have gi := hg.sg _ (List.getElem_mem hi)
  have li := gi.1.len
  refine Ev.step (fun k => by rw [spec_AllOfGenus.l1]) (ev_ifp (by omega) (ev_ifp (by omega) ?_))
  rw [get26 hi]
  refine ev_bind _ (kidS_ev (by omega)) ?_
  have g2 := (good_take hg (i + 1)).next
  rw [nxt_take hi] at g2
  have l2 := nxt_len (L.take (i + 1))
  rw [nxt_take hi, List.length_take] at l2
  have := agS_l2 (x0 := x0) (x5 := L) (x6 := x6) (x8 := (i : Int)) g2 (by omega) (r := r) (by
   rw [w64 (x := (i : Int) + 1) (by omega) (by omega), ← nxt_take hi]
   exact ih (i + 1) (by omega)) _ 0 (Nat.zero_add _)
  rw [List.take_zero, List.append_nil] at this
  exact this
theorem agS_l0 {g : Nat} (hg : g ≤ 8) (d : Nat) : ∀ m : Nat, m + d = g → Ev (fun k => spec_AllOfGenus.l0 k (g : Int) (lay m) (m : Int)) (lay g) := by
 induction d with
 | zero =>
  intro m h
  rw [show m = g by omega]
  exact Ev.step (fun k => by rw [spec_AllOfGenus.l0]) (ev_ifn (by omega) (Ev.now _))
 | succ d ih =>
  intro m h
  refine Ev.step (fun k => by rw [spec_AllOfGenus.l0]) (ev_ifp (by omega) ?_)
  have a := lay_len m (by omega)
  have b : 12 ^ m ≤ 12 ^ 7 := Nat.pow_le_pow_right (by decide) (by omega)
  have c : (12 : Nat) ^ 7 = 35831808 := by decide
  have := agS_l1 (x0 := (g : Int)) (x6 := (m : Int)) (lay_good m) (by omega) (r := lay g) (by
   rw [w64 (x := (m : Int) + 1) (by omega) (by omega)]
   exact ih (m + 1) (by omega)) _ 0 (Nat.zero_add _)
  exact this
theorem agS_ev {g : Nat} (hg : g ≤ 8) : Ev (fun k => spec_AllOfGenus.f k (g : Int)) (lay g) := by
 unfold spec_AllOfGenus.f
 rw [l1In_eq]
 simp only [Option.bind_some]
 exact ev_ifp (decide_eq_true ⟨by omega, by omega⟩) (ev_bind _ one_fg (agS_l0 hg g 0 (by omega)))
theorem agI_l1 {L : List S26} {n : Nat} (hg : Good n L) (hl : L.length ≤ 35831808) {x15 x16 : Int} {r : List S26} (N : Ev (fun k => impl_AllOfGenus.l0 k (nxt L) x15 (wrap64 (x16 + 1))) r) (d : Nat) : ∀ i : Nat, i + d = L.length → Ev (fun k => impl_AllOfGenus.l1 k (nxt (L.take i)) x15 x16 L L.length (i : Int)) r := by
 induction d with
 | zero =>
  intro i h
  rw [List.take_of_length_le (by omega)]
  exact Ev.step (fun k => by rw [impl_AllOfGenus.l1]) (ev_ifn (by omega) N)
 | succ d ih =>
  intro i h
  have hi : i < L.length := by omega
  have gi := hg.sg _ (List.getElem_mem hi)
  have li := gi.1.len
  refine Ev.step (fun k => by rw [impl_AllOfGenus.l1]) (ev_ifp (by omega) (ev_ifp (by omega) (ev_ifp (by omega) ?_)))
  rw [get26 hi]
  refine ev_bind _ (kidI_ev (by omega)) ?_
  have l1 := nxt_len (L.take i)
  rw [List.length_take] at l1
  have l2 := kids_len (L[i]).f0
  refine ev_ifp (by omega) ?_
  rw [w64 (x := (i : Int) + 1) (by omega) (by omega), ← nxt_take hi]
  exact ih (i + 1) (by omega)
theorem lay_ord {g : Nat} (hg : g ≤ 8) : InOrd (lay g) := by
 have hl := lay_small hg
 have hG := lay_good g
 have sm : ∀ a ∈ ([] : List Int) :: (lay g).map (·.f0), a.length ≤ 1099511627776 := fun a ha => by
  rcases List.mem_cons.1 ha with e | ha
  · rw [e]; simp
  · obtain ⟨s, hs, rfl⟩ := List.mem_map.1 ha
    have := (hG.sg s hs).1.len
    omega
 refine ⟨by omega, kc, kc_swo, fun a ha b hb => (kc_ev (sm a ha) (sm b hb)).rounds, ?_⟩
 refine List.Pairwise.imp_of_mem (fun {a b} ha hb hab => ?_) hG.pw
 have ga := hG.sg a ha
 have gb := hG.sg b hb
 unfold kc gnI
 rw [if_pos ga.1, if_pos gb.1, if_pos (by omega), gps_sg ga.1, gps_sg gb.1]
 exact lx_cmpl _ _ hab
theorem agI_l0 {g : Nat} (hg : g ≤ 8) (d : Nat) : ∀ m : Nat, m + d = g → Ev (fun k => impl_AllOfGenus.l0 k (lay m) (g : Int) (m : Int)) (lay g) := by
 induction d with
 | zero =>
  intro m h
  rw [show m = g by omega]
  refine Ev.step (fun k => by rw [impl_AllOfGenus.l0]) (ev_ifn (by omega) ?_)
  rw [impl_inOrder.yes (lay_ord hg)]
  exact Ev.now _
 | succ d ih =>
  intro m h
  refine Ev.step (fun k => by rw [impl_AllOfGenus.l0]) (ev_ifp (by omega) ?_)
  have a := lay_len m (by omega)
  have b : 12 ^ m ≤ 12 ^ 7 := Nat.pow_le_pow_right (by decide) (by omega)
  have c : (12 : Nat) ^ 7 = 35831808 := by decide
  have := agI_l1 (x15 := (g : Int)) (x16 := (m : Int)) (lay_good m) (by omega) (r := lay g) (by
   rw [w64 (x := (m : Int) + 1) (by omega) (by omega)]
   exact ih (m + 1) (by omega)) _ 0 (Nat.zero_add _)
  exact this
theorem agI_ev {g : Nat} (hg : g ≤ 8) : Ev (fun k => impl_AllOfGenus.f k (g : Int)) (lay g) := by
 unfold impl_AllOfGenus.f
 rw [within_eq]
 simp only [Option.bind_some]
 exact ev_ifp (decide_eq_true ⟨by omega, by omega⟩) (agI_l0 hg g 0 (by omega))
end Go.Proofs.Ytonknpgfbkgbjaa.E
end
section
namespace Go.Proofs.Ytonknpgfbkgbjaa.Pure
open Go.RowKit Go.Proofs.Ytonknpgfbkgbjaa.PB Go.Proofs.Ytonknpgfbkgbjaa.E Go.Proofs.YtonknpgfbkgbjaaW.PrintWords Go.Proofs.YtonknpgfbkgbjaaW.PrintLast Go.Proofs.YtonknpgfbkgbjaaW.PrintMore
set_option linter.unusedVariables false
set_option linter.unusedSimpArgs false
theorem FnExactCountGenus (a0 : Int) (h : (Lit.int .i64 a0).wf = true) : ∃ k, laws_FnExactCountGenus.f k a0 = some true := by
 apply Ev.rounds
 unfold laws_FnExactCountGenus.f
 by_cases c : 0 ≤ a0 ∧ a0 ≤ 8
 · obtain ⟨g, rfl⟩ : ∃ g : Nat, a0 = (g : Int) := ⟨a0.toNat, by omega⟩
   have hg : g ≤ 8 := by omega
   have s : Ev (fun k => spec_CountGenus.f k (g : Int)) ((lay g).length : Int) := by
    unfold spec_CountGenus.f
    rw [l1In_eq]
    simp only [Option.bind_some]
    exact ev_ifp (decide_eq_true c) (ev_bind _ (agS_ev hg) (Ev.now _))
   have i : Ev (fun k => impl_CountGenus.f k (g : Int)) ((lay g).length : Int) := by
    unfold impl_CountGenus.f
    rw [within_eq]
    simp only [Option.bind_some]
    exact ev_ifp (decide_eq_true c) (ev_bind _ (agI_ev hg) (Ev.now _))
   exact ev_bind _ s (ev_bind _ i (ev_ifp rfl (Ev.now _)))
 · have s : Ev (fun k => spec_CountGenus.f k a0) (-1) := by
    unfold spec_CountGenus.f
    rw [l1In_eq]
    simp only [Option.bind_some]
    exact ev_ifn (by simpa using c) (Ev.now _)
   have i : Ev (fun k => impl_CountGenus.f k a0) (-1) := by
    unfold impl_CountGenus.f
    rw [within_eq]
    simp only [Option.bind_some]
    exact ev_ifn (by simpa using c) (Ev.now _)
   exact ev_bind _ s (ev_bind _ i (ev_ifp rfl (Ev.now _)))
end Go.Proofs.Ytonknpgfbkgbjaa.Pure
end
