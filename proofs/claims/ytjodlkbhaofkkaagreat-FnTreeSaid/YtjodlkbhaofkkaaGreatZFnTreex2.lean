-- Bundled by shake.py from this session's printed and written texts; Lean checks it.
import Derived.Laws.StructEq
import Derived.Test.YtjodlkbhaofkkaaGreatProg
import Derived.Test.YtjodlkbhaofkkaaGreatZFnTreex1
section
namespace Go.Proofs.YtjodlkbhaofkkaaGreatW.PrintMore
open Go.RowKit Go.Proofs.YtjodlkbhaofkkaaGreatW.PrintWords
namespace Kd
open Go.Proofs.YtjodlkbhaofkkaaGreatW.PrintWords.Kd
end Kd
namespace Kd
open Go.Proofs.YtjodlkbhaofkkaaGreatW.PrintWords.Kd
section
variable {α : Type} {d : Kd α} {e base g N : Nat} {ok : Nat → Prop} {W w1 : World} {u v : Value} {xs : List α}
end
end Kd
theorem ja (k k' : IntKind) (x y : Int) : Builtin.max2 (.int k x) (.int k' y) = pure (.int k (if x < y then y else x)) := by simp only [Builtin.max2, gt_iff_lt]
theorem jb (k k' : IntKind) (x y : Int) : Builtin.min2 (.int k x) (.int k' y) = pure (.int k (if y < x then y else x)) := by simp only [Builtin.min2]
theorem j5 (ats : Array TypeId) (ty : TypeId) (a b : Value) : Builtin.max_ ats ty #[a, b] = (Builtin.max2 a b >>= fun s => pure s) := by simp only [Builtin.max_, List.foldlM_cons, List.foldlM_nil]
theorem j6 (ats : Array TypeId) (ty : TypeId) (a b : Value) : Builtin.min_ ats ty #[a, b] = (Builtin.min2 a b >>= fun s => pure s) := by simp only [Builtin.min_, List.foldlM_cons, List.foldlM_nil]
theorem hY (ats : Array TypeId) (ty : TypeId) (a b c : Value) : Builtin.max_ ats ty #[a, b, c] = (Builtin.max2 a b >>= fun s => Builtin.max2 s c >>= fun s => pure s) := by simp only [Builtin.max_, List.foldlM_cons, List.foldlM_nil]
theorem hZ (ats : Array TypeId) (ty : TypeId) (a b c : Value) : Builtin.min_ ats ty #[a, b, c] = (Builtin.min2 a b >>= fun s => Builtin.min2 s c >>= fun s => pure s) := by simp only [Builtin.min_, List.foldlM_cons, List.foldlM_nil]
theorem jc (ats : Array TypeId) (ty : TypeId) (a b c d : Value) : Builtin.max_ ats ty #[a, b, c, d] = (Builtin.max2 a b >>= fun s => Builtin.max2 s c >>= fun s => Builtin.max2 s d >>= fun s => pure s) := by simp only [Builtin.max_, List.foldlM_cons, List.foldlM_nil]
theorem jd (ats : Array TypeId) (ty : TypeId) (a b c d : Value) : Builtin.min_ ats ty #[a, b, c, d] = (Builtin.min2 a b >>= fun s => Builtin.min2 s c >>= fun s => Builtin.min2 s d >>= fun s => pure s) := by simp only [Builtin.min_, List.foldlM_cons, List.foldlM_nil]
end Go.Proofs.YtjodlkbhaofkkaaGreatW.PrintMore
namespace Go.Proofs.YtjodlkbhaofkkaaGreatW.PrintWords
open Go.RowKit
section
variable {P : Program} {ops : Array Oper} {rest : List Oper} {o : Oper} {a : Act} {Q : Exit → Act → World → Prop} {W : World}
theorem gate_callee {f : FuncId} {as_w : Array Operand} {ts : Array TypeId} (_ho : o.op = .call { callee := .value (.func f), args := as_w, argTypes := ts }) (h : wpList P ops Q (o :: rest) a W) : wpList P ops Q (o :: rest) a W := h
theorem gate_builtin {b : Builtin} {xs : Array Operand} {ts : Array TypeId} (_ho : o.op = .call { callee := .builtin b, args := xs, argTypes := ts }) (h : wpList P ops Q (o :: rest) a W) : wpList P ops Q (o :: rest) a W := h
end
def mx (a b : Int) : Int := if a < b then b else a
def mn (a b : Int) : Int := if b < a then b else a
theorem ov (w : World) (n : Nat) : w.drewN n = w.drewN n := rfl
namespace Kd
section
variable {α : Type} {d : Kd α} {e base : Nat} {ok : Nat → Prop} {W w1 : World} {v : Value} {xs : List α}
end
section
variable {α : Type} {d : Kd α} {e base g n cap : Nat} {ok oki okp : Nat → Prop} {W : World} {xs : List α} {i : Int} {c : List Value}
end
section
variable {α : Type} {d : Kd α} {e base b b' g N : Nat} {ok ok1 : Nat → Prop} {W W2 w1 : World} {u v : Value} {xs ys : List α} {S : Nat → Prop}
theorem Uj (hE : d.E = []) (h : d.Q e W base ok v xs) : d.Q e W base (fun k => some k = v.ownBlock) v xs := by
 obtain ⟨h0, inner, ho, hr⟩ := h
 refine ⟨fun k hk => hk.symm, inner, ho, hr.nP (fun p c hp => d.M_mono (fun k hk => ?_) (d.M_bound hp))⟩
 obtain ⟨_, _, _, q, hq, _⟩ := hk
 rw [hE] at hq
 cases hq
theorem aaN (hu : d.Q e W base (fun k => ok k ∧ k ≠ g) u xs) (hk : aq W w1 g none) : d.Q e w1 base (fun k => ok k ∧ k < W.heap.size) u xs := fe (Ci (sH hu) hk (fun _ h => h.1.2)) (fun _ h => ⟨h.1.1, h.2.2.1⟩)
theorem aaO (h : d.Q e w1 base (fun k => ok k ∧ k < N) u xs) (hbase : ∀ k, v.ownBlock = some k → N ≤ k) : d.Q e w1 base (fun k => (ok k ∧ some k ≠ v.ownBlock) ∧ k < N) u xs :=
 fe h (fun k hk => ⟨⟨hk.1, fun e => Nat.lt_irrefl _ (Nat.lt_of_lt_of_le hk.2 (hbase k e.symm))⟩, hk.2⟩)
end
end Kd
end Go.Proofs.YtjodlkbhaofkkaaGreatW.PrintWords
namespace Go.Proofs.YtjodlkbhaofkkaaGreatW.PrintWords
open Go.RowKit
namespace Kd
def V {α : Type} (d : Kd α) (_e : Nat) (W : World) (_base : Nat) (ok : Nat → Prop) (v : Value) (xs : List α) : Prop := ∃ A c, v = .slice A xs.length c ∧ xs.length ≤ c ∧ F d W ok A xs.length xs
section
variable {α β : Type} {d : Kd α} {e base base' n m c g N' lo hi : Nat} {ok ok' S : Nat → Prop} {w W w1 : World} {A : Option Addr} {ad : Addr} {u v v1 : Value} {xs : List α}
theorem Bm (h : V d e W base ok v xs) (hF : ∀ A, F d W ok A xs.length xs → F d w1 ok' A xs.length xs) : V d e w1 base' ok' v xs := by
 obtain ⟨A, c, hv, hl, hf⟩ := h
 exact ⟨A, c, hv, hl, hF A hf⟩
theorem yM (hl : xs.length ≤ c) (hf : F d W ok A xs.length xs) : V d e W base ok (.slice A xs.length c) xs := ⟨A, c, rfl, hl, hf⟩
theorem Cw (h : V d e W base ok v xs) : ∃ A c, v = .slice A xs.length c := by
 obtain ⟨A, c, hv, _⟩ := h
 exact ⟨A, c, hv⟩
theorem NK (h : V d e W base ok (.slice A n c) xs) : n = xs.length ∧ n ≤ c ∧ F d W ok A xs.length xs := by
 obtain ⟨A', c', hv, hl, hf⟩ := h
 injection hv with ha hn hc
 subst ha; subst hc
 exact ⟨hn, by rw [hn]; exact hl, hf⟩
theorem fZ (h : V d e W base ok (.slice A n c) xs) : n = xs.length ∧ n ≤ c ∧ d.C W A xs.length xs := ⟨(NK h).1, (NK h).2.1, Jk (NK h).2.2⟩
theorem V_F (h : V d e W base ok (.slice A n c) xs) : F d W ok A n xs := by
 obtain ⟨hn, _, hf⟩ := NK h
 rw [hn]
 exact hf
theorem mF (d : Kd α) (e : Nat) (W : World) (base : Nat) (ok : Nat → Prop) : V d e W base ok (.slice none 0 0) [] := ⟨none, 0, rfl, Nat.le_refl _, XG d W ok⟩
theorem R_V (h : d.R e W base ok v xs) : V d e W base' ok v xs := by
 obtain ⟨A, c, rfl⟩ := aN h
 exact ⟨A, c, rfl, (ao h).2.1, XH h⟩
theorem Q_V (h : d.Q e W base ok v xs) : V d e W base' ok v xs := by
 obtain ⟨A, c, rfl, hl⟩ := la h
 exact ⟨A, c, rfl, hl, Q_F h⟩
theorem je (h : V d e W base ok v xs) (hok : ∀ k, ok k → ok' k) : V d e W base ok' v xs := Bm h (fun _ hf => Cp hf hok)
theorem iB (h : V d e W base ok v xs) (hb : Below W.heap.size W w1) : V d e w1 base ok v xs := Bm h (fun _ hf => Ub hf hb)
theorem yN (h : V d e W base ok v xs) {p : Addr} (hok : ∀ k, ok k → k ≠ p.block) (u : Value) : V d e (W.setCell p u) base ok v xs := Bm h (fun _ hf => agh hf hok u)
theorem Uk (h : V d e W base (fun k => ok k ∧ some k ≠ u.ownBlock) v xs) (hg : W.grownBy w1 u.ownBlock) (hat : v1.ownBlock = u.ownBlock ∨ ∃ b, v1.ownBlock = some b ∧ W.heap.size ≤ b) : V d e w1 base (fun k => ok k ∧ some k ≠ v1.ownBlock) v xs := Bm h (fun _ hf => Uc hf hg hat)
theorem pV (h : V d e W base (fun k => ok k ∧ some k ≠ v.ownBlock) u xs) (hg : W.grownBy w1 v.ownBlock) (hat : v1.ownBlock = v.ownBlock ∨ ∃ b, v1.ownBlock = some b ∧ W.heap.size ≤ b) : V d e w1 base (fun k => ok k ∧ some k ≠ v1.ownBlock) u xs := Uk h hg hat
theorem rB (h : N d e W base (fun k => ok k ∧ some k ≠ v.ownBlock) u xs) (hg : W.grownBy w1 v.ownBlock) (hat : v1.ownBlock = v.ownBlock ∨ ∃ b, v1.ownBlock = some b ∧ W.heap.size ≤ b) : N d e w1 base (fun k => ok k ∧ some k ≠ v1.ownBlock) u xs := Uh h hg hat
theorem kf (h : V d e W base ok v xs) (hbase : ∀ k, u.ownBlock = some k → W.heap.size ≤ k) (hb : Below W.heap.size W w1) : V d e w1 base (fun k => ok k ∧ some k ≠ u.ownBlock) v xs := Bm h (fun _ hf => NC hf hbase hb)
theorem nk (h : V d e W base ok v xs) (a : Nat) (ha : W.heap.size ≤ a) : V d e W base (fun k => ok k ∧ k ≠ a) v xs := Bm h (fun _ hf => ND hf a ha)
theorem agi (h : V d e W base ok (.slice (some ad) n c) xs) (z : α) (i : Int) (h0 : 0 ≤ i) (h1 : i < n) :
 ∃ cs, cs.length = d.sz ∧ FK d W ok (xs.getD i.toNat z) cs ∧ ∀ j u, cs[j]? = some u → W.cell? (ad.add (i.toNat * d.sz + j)) = some u := by
 obtain ⟨ad', cs, he, hcl, hK, hcc, _⟩ := XI (V_F h) z i h0 h1
 injection he with he
 subst he
 exact ⟨cs, hcl, hK, hcc⟩
theorem agj (h : F d W ok A xs.length xs) (hm : m ≤ xs.length) (hc : xs.length ≤ c) : F d W ok (if c = m then A else A.map (·.add (m * d.sz))) (xs.drop m).length (xs.drop m) := agf h (fun _ hC => yz hC hm hc)
theorem pE {M : Nat → Prop} (h : d.R e w1 W.heap.size ok v xs) (hle : w.heap.size ≤ W.heap.size) (hM : ∀ k, w.heap.size ≤ k → M k) : d.R e w1 W.heap.size (fun k => M k ∧ ok k) v xs := bB (kH h) (fun k hk => ⟨hM k (Nat.le_trans hle hk.2.1), hk.1⟩)
end
end Kd
end Go.Proofs.YtjodlkbhaofkkaaGreatW.PrintWords
namespace Go.Proofs.YtjodlkbhaofkkaaGreatW.PrintWords
open Go.RowKit
theorem pF {α : Type} {d : Kd α} {t : Nat} {w w' : World} {base : Nat} {ok : Nat → Prop} {v : Value} {xs : List α} (h : Kd.V d t w base ok v xs) [e : pA w w'] : Kd.V d t w' base ok v xs := Kd.iB h e.out
end Go.Proofs.YtjodlkbhaofkkaaGreatW.PrintWords
end
section
namespace Go.Proofs.YtjodlkbhaofkkaaGreat.PA
open Go.RowKit Go.Proofs.YtjodlkbhaofkkaaGreatW.PrintWords Go.Proofs.YtjodlkbhaofkkaaGreatW.PrintLast Go.Proofs.YtjodlkbhaofkkaaGreatW.PrintMore
attribute [local go_sem] ja jb j5 j6 hY hZ jc jd
set_option linter.unusedVariables false
set_option linter.unusedSimpArgs false
def agk : Option Int → Value
 | none => .nilIface
 | some c => .iface 0 (.int .i64 c)
theorem cD : agk none = .nilIface := rfl
theorem cF (c : Int) : agk (some c) = .iface 0 (.int .i64 c) := rfl
theorem iS : (Tryz.prog.info? 3).map (fun i => (i.zero, i.size, i.bytes)) = some (some (.int .i64 0), 1, 8) := by kernel_rfl
theorem D9 : (Tryz.prog.info? 4).map (fun i => (i.zero, i.size, i.bytes)) = some (some (.bool false), 1, 1) := by kernel_rfl
theorem pG : (Tryz.prog.info? 26).map (fun i => (i.zero, i.size, i.bytes)) = some (some (.agg #[(.slice none 0 0)]), 1, 24) := by kernel_rfl
structure cT where
 f0 : (List Int)
def z26 : cT := ⟨([] : List Int)⟩
def ix : Kd cT := Kd.iso (Kd.slice 3 (Kd.int .i64)) (fun x : cT => x.f0)
theorem yO {w : World} {x : cT} {cs : List Value} (h : ix.K w x cs) : ∃ A0 c0, cs = [.slice A0 x.f0.length c0] ∧ x.f0.length ≤ c0 ∧ (Kd.int .i64).C w A0 x.f0.length x.f0 := by
 obtain ⟨A0, c0, rfl, l0, g0⟩ := h
 exact ⟨A0, c0, rfl, l0, g0⟩
theorem aaP (w : World) (x : cT) {A0 : Option Addr} {c0 : Nat} (l0 : x.f0.length ≤ c0) (g0 : (Kd.int .i64).C w A0 x.f0.length x.f0) : ix.K w x [.slice A0 x.f0.length c0] := ⟨A0, c0, rfl, l0, g0⟩
theorem Jm (w : World) (base : Nat) (ok : Nat → Prop) (x : cT) {v0 : Value} (g0 : (Kd.int .i64).R 3 w base ok v0 x.f0) : ix.M w base ok x [v0] := ⟨v0, rfl, g0⟩
theorem jP {W : World} {ok : Nat → Prop} {x : cT} {cs : List Value} (h : Kd.FK ix W ok x cs) : ∃ A0 c0, cs = [.slice A0 x.f0.length c0] ∧ x.f0.length ≤ c0 ∧ Kd.F (Kd.int .i64) W ok A0 x.f0.length x.f0 := by
 obtain ⟨A0, c0, rfl, l0, _⟩ := yO (Kd.pC h)
 exact ⟨A0, c0, rfl, l0, (fun W' hW => by obtain ⟨A0_, c0_, he, l0_, g0_⟩ := yO (h W' hW); injection (Option.some.inj (show some (Value.slice A0 x.f0.length c0) = some (Value.slice A0_ x.f0.length c0_) from congrArg (fun l => l[0]?) he)) with ha_ _ _; rw [ha_]; exact g0_)⟩
theorem qI (W : World) (ok : Nat → Prop) (x : cT) {A0 : Option Addr} {c0 : Nat} (l0 : x.f0.length ≤ c0) (g0 : Kd.F (Kd.int .i64) W ok A0 x.f0.length x.f0) : Kd.FK ix W ok x [.slice A0 x.f0.length c0] := fun W2 hW => aaP W2 x l0 (g0 W2 hW)
def cG (xs : List cT) (i : Int) : cT := xs.getD i.toNat z26
theorem mP {w : World} {A : Option Addr} {n : Nat} {xs : List cT} (h : Kd.C ix w A n xs) (i : Int) (h0 : 0 ≤ i) (h1 : i < n) : ∃ ad A0 c0, A = some ad ∧ w.cell? (ad.add i.toNat) = some (.slice A0 (cG xs i).f0.length c0) ∧ (cG xs i).f0.length ≤ c0 ∧ (Kd.int .i64).C w A0 (cG xs i).f0.length (cG xs i).f0 := by
 obtain ⟨ad, c, e, _, hK, gL⟩ := Kd.Jb h z26 i h0 h1
 have hc : ∀ j u, c[j]? = some u → w.cell? (ad.add (i.toNat * 1 + j)) = some u := gL
 obtain ⟨A0, c0, rfl, l0, g0⟩ := yO hK
 exact ⟨ad, A0, c0, e, by have hq := hc 0 _ rfl; rwa [Nat.mul_one, Nat.add_zero] at hq, l0, g0⟩
theorem D_ (A : Option Addr) (n n' c c' : Nat) : (Value.slice A n c).ownBlock = (Value.slice A n' c').ownBlock := by cases A <;> rfl
theorem rC {P : Program} {md : Region.Mode} {ops : Array Oper} {Q : Exit → Act → World → Prop} {S S' : World → Prop} (hSS : ∀ w, S' w → S w) :
 ∀ {fuel : Nat} {l : Array Bool} {a : Act} {w : World}, S' w → (S' w → bH P md ops Q S' [] fuel l a w) → bH P md ops Q S [] fuel l a w
 | 0, _, _, _, h0, h => h h0
 | fuel + 1, _, _, _, h0, h => ⟨(h h0).1, fun i hi => wpOp_mono (fun a' w' h' => ⟨fun hn _ => hSS _ (h'.1 hn h0), rC hSS (h'.1 (by simp) h0) (fun _ => h'.2)⟩) ((h h0).2 i hi)⟩
end Go.Proofs.YtjodlkbhaofkkaaGreat.PA
end
section
namespace Go.Proofs.YtjodlkbhaofkkaaGreat.PA
open Go.RowKit Go.Proofs.YtjodlkbhaofkkaaGreatW.PrintWords Go.Proofs.YtjodlkbhaofkkaaGreatW.PrintLast Go.Proofs.YtjodlkbhaofkkaaGreatW.PrintMore
attribute [local go_sem] ja jb j5 j6 hY hZ jc jd
set_option linter.unusedVariables false
set_option linter.unusedSimpArgs false
set_option maxHeartbeats 8000000
set_option maxRecDepth 100000
def dG.f (a0 : Int) (a1 : Int) (a2 : Int) : Option (Bool) := if a0 ≥ a1 then (some (decide (a0 ≤ a2))) else (some false)
theorem dG.calls (a0 : Int) (a1 : Int) (a2 : Int) (r : Bool) (w : World) (h : dG.f a0 a1 a2 = some r) :
 Calls Tryz.prog 48 #[.int .i64 a0, .int .i64 a1, .int .i64 a2] w fun e w' => e = .returned (.bool r) ∧ av w w' := by
 have H := h
 clear h
 unfold dG.f at H
 by_cases c4 : a0 ≥ a1
 rotate_left
 · rw [if_neg c4] at H
   have kI : decide (a1 ≤ a0) = false := decide_eq_false c4
   clear c4
   obtain rfl := Option.some.inj H
   go_enter Tryz.func48, Tryz.ntmps48
   go_wp2
   go_ret
   exact ⟨by first | rfl | (simp; done) | (simp [*]; done), by repeat (first | exact av.refl _ | apply av.step)⟩
 rw [if_pos c4] at H
 have kI : decide (a1 ≤ a0) = true := decide_eq_true c4
 clear c4
 obtain rfl := Option.some.inj H
 go_enter Tryz.func48, Tryz.ntmps48
 go_wp2
 go_ret
 exact ⟨by first | rfl | (simp; done) | (simp [*]; done), by repeat (first | exact av.refl _ | apply av.step)⟩
def a6.l0 : Nat → Int → Int → List Int → Int → Int → Option (Bool)
 | 0, _, _, _, _, _ => none
 | k + 1, x1, x2, x9, AQ, vz => if vz < AQ then (if 0 ≤ vz then (if vz < (x9.length : Int) then ((dG.f (rd x9 vz) x1 x2).bind fun t102 => (if t102 = true then (a6.l0 k x1 x2 x9 AQ (wrap64 (vz + 1))) else (some false))) else (none)) else (none)) else (some true)
def a6.f (k : Nat) (l0 : List Int) (a1 : Int) (a2 : Int) : Option (Bool) := a6.l0 k a1 a2 l0 (l0.length : Int) 0
theorem a6.er : ∀ k, (∀ y0 y1 y2 y3 y4, bK (a6.l0 k y0 y1 y2 y3 y4) (a6.l0 (k + 1) y0 y1 y2 y3 y4))
 | 0 => fun _ _ _ _ _ r h => by simp [a6.l0] at h
 | k + 1 => by
  have ia := a6.er k
  · intro y0 y1 y2 y3 y4
    unfold a6.l0
    repeat' first
    | (with_reducible exact ia _ _ _ _ _)
    | (with_reducible exact bK.refl _)
    | (with_reducible exact bK.none _)
    | (with_reducible refine bK.ite ?_ ?_)
    | (with_reducible refine bK.bind ?_ (fun _ => ?_))
    | exact ia _ _ _ _ _
    | exact bK.none _
    | refine bK.ite ?_ ?_
    | refine bK.bind ?_ (fun _ => ?_)
theorem a6.mono : ∀ a0 a1 a2 k, bK (a6.f k a0 a1 a2) (a6.f (k + 1) a0 a1 a2) := by
 intro a0 a1 a2 k
 have ia := a6.er k
 unfold a6.f
 repeat' first
  | (with_reducible exact ia _ _ _ _ _)
  | (with_reducible exact bK.refl _)
  | (with_reducible exact bK.none _)
  | (with_reducible refine bK.ite ?_ ?_)
  | (with_reducible refine bK.bind ?_ (fun _ => ?_))
  | exact ia _ _ _ _ _
  | exact bK.none _
  | refine bK.ite ?_ ?_
  | refine bK.bind ?_ (fun _ => ?_)
theorem a6.calls (k : Nat) (A0 : Option Addr) (c0 : Nat) (l0 : List Int) (a1 : Int) (a2 : Int) (r : Bool) (w : World) (fH : Kd.C (Kd.int .i64) w A0 l0.length l0) (gL : l0.length ≤ c0) (h : a6.f k l0 a1 a2 = some r) :
 Calls Tryz.prog 84 #[.slice A0 l0.length c0, .int .i64 a1, .int .i64 a2] w fun e w' => e = .returned (.bool r) ∧ av w w' := by
 have eZ := aa.mk fH
 have jN := aa.mk gL
 clear fH gL
 have H := h
 clear h
 unfold a6.f at H
 have H' := aa.mk H
 clear H
 go_enter Tryz.func84, Tryz.ntmps84
 go_wp2
 go_loopg [11] k (fun kq v11 w' => ∃ (fk : Int), v11 = .int .i64 fk ∧ aa (a6.l0 kq a1 a2 l0 (l0.length : Int) fk = some r) ∧ aa (kq ≤ k) ∧ av w w')
 case atStart => exact ⟨(0), eF, H', ⟨Nat.le_refl _⟩, by repeat (first | exact av.refl _ | apply av.step)⟩
 case round =>
  clear H'
  obtain ⟨fk, rfl, HA, fu, ⟨m1, rfl⟩⟩ := hrel
  cases gk with
  | zero => exact absurd HA.out (by simp [a6.l0])
  | succ k1 =>
   have H := HA.out
   clear HA
   simp only [a6.l0] at H
   by_cases c4 : fk < (l0.length : Int)
   rotate_left
   · rw [if_neg c4] at H
     have kI : decide (fk < (l0.length : Int)) = false := decide_eq_false c4
     clear c4
     obtain rfl := Option.some.inj H
     go_wp2
     go_ret
     exact ⟨by first | rfl | (simp; done) | (simp [*]; done), by repeat (first | exact av.refl _ | apply av.step)⟩
   rw [if_pos c4] at H
   have kI : decide (fk < (l0.length : Int)) = true := decide_eq_true c4
   clear c4
   obtain ⟨qJ, H⟩ := dB H
   obtain ⟨pH, H⟩ := dB H
   obtain ⟨t102, A7, H⟩ := eA H
   by_cases c8 : t102 = true
   rotate_left
   · replace c8 := Bool.eq_false_iff.mpr c8
     subst c8
     rw [if_neg (show ¬ (false = true) by decide)] at H
     obtain rfl := Option.some.inj H
     have GD : 0 ≤ (fk : Int) := bO
     have GF : fk < (l0.length : Int) := bO
     obtain ⟨agl, aaQ, Ul⟩ := Kd.aZ eZ.out fk GD GF
     cases aaQ
     replace GD := eq_true GD
     replace GF := eq_true GF
     go_wp2_with (first | ((with_reducible refine gate_callee (f := 48) rfl ?_); refine dU (some 18) Tryz.func48 #[.int .i64 (rd l0 fk), .int .i64 a1, .int .i64 a2] ?_; (with_reducible refine (dG.calls (rd l0 fk) a1 a2 false _ A7.out).mono ?_); rintro e w' ⟨rfl, ⟨nd, rfl⟩⟩; refine ⟨_, rfl, ?_⟩))
     go_ret
     exact ⟨by first | rfl | (simp; done) | (simp [*]; done), by repeat (first | exact av.refl _ | apply av.step)⟩
   subst c8
   rw [if_pos rfl] at H
   have H' := aa.mk H
   clear H
   have GD : 0 ≤ (fk : Int) := bO
   have GF : fk < (l0.length : Int) := bO
   obtain ⟨agl, aaQ, Ul⟩ := Kd.aZ eZ.out fk GD GF
   cases aaQ
   replace GD := eq_true GD
   replace GF := eq_true GF
   go_wp2_with (first | ((with_reducible refine gate_callee (f := 48) rfl ?_); refine dU (some 18) Tryz.func48 #[.int .i64 (rd l0 fk), .int .i64 a1, .int .i64 a2] ?_; (with_reducible refine (dG.calls (rd l0 fk) a1 a2 true _ A7.out).mono ?_); rintro e w' ⟨rfl, ⟨nd, rfl⟩⟩; refine ⟨_, rfl, ?_⟩))
   go_roundg k1
   case measure => have := fu.out; omega
   case rel => exact ⟨(wrap64 (fk + 1)), eF, H', ⟨by have := fu.out; omega⟩, by repeat (first | exact av.refl _ | apply av.step)⟩
def bb.l0 : Nat → List Int → Int → Option (Bool)
 | 0, _, _ => none
 | k + 1, x0, x3 => if x3 < (x0.length : Int) then (if 0 ≤ x3 then (if 0 ≤ (wrap64 (x3 - 1)) then (if (wrap64 (x3 - 1)) < (x0.length : Int) then (if (rd x0 x3) ≤ (rd x0 (wrap64 (x3 - 1))) then (some false) else (bb.l0 k x0 (wrap64 (x3 + 1)))) else (none)) else (none)) else (none)) else (some true)
def bb.f (k : Nat) (l0 : List Int) : Option (Bool) := bb.l0 k l0 1
theorem bb.er : ∀ k, (∀ y0 y1, bK (bb.l0 k y0 y1) (bb.l0 (k + 1) y0 y1))
 | 0 => fun _ _ r h => by simp [bb.l0] at h
 | k + 1 => by
  have ia := bb.er k
  · intro y0 y1
    unfold bb.l0
    repeat' first
    | (with_reducible exact ia _ _)
    | (with_reducible exact bK.refl _)
    | (with_reducible exact bK.none _)
    | (with_reducible refine bK.ite ?_ ?_)
    | (with_reducible refine bK.bind ?_ (fun _ => ?_))
    | exact ia _ _
    | exact bK.none _
    | refine bK.ite ?_ ?_
    | refine bK.bind ?_ (fun _ => ?_)
theorem bb.mono : ∀ a0 k, bK (bb.f k a0) (bb.f (k + 1) a0) := by
 intro a0 k
 have ia := bb.er k
 unfold bb.f
 repeat' first
  | (with_reducible exact ia _ _)
  | (with_reducible exact bK.refl _)
  | (with_reducible exact bK.none _)
  | (with_reducible refine bK.ite ?_ ?_)
  | (with_reducible refine bK.bind ?_ (fun _ => ?_))
  | exact ia _ _
  | exact bK.none _
  | refine bK.ite ?_ ?_
  | refine bK.bind ?_ (fun _ => ?_)
theorem bb.calls (k : Nat) (A0 : Option Addr) (c0 : Nat) (l0 : List Int) (r : Bool) (w : World) (fH : Kd.C (Kd.int .i64) w A0 l0.length l0) (gL : l0.length ≤ c0) (h : bb.f k l0 = some r) :
 Calls Tryz.prog 85 #[.slice A0 l0.length c0] w fun e w' => e = .returned (.bool r) ∧ av w w' := by
 have eZ := aa.mk fH
 have jN := aa.mk gL
 clear fH gL
 have H := h
 clear h
 unfold bb.f at H
 have H' := aa.mk H
 clear H
 go_enter Tryz.func85, Tryz.ntmps85
 go_wp2
 repeat (go_quiet (fail); try go_wp2)
 go_loopg [3] k (fun kq v3 w' => ∃ (bd : Int), v3 = .int .i64 bd ∧ aa (bb.l0 kq l0 bd = some r) ∧ aa (kq ≤ k) ∧ av w w')
 case atStart => exact ⟨(1), eF, H', ⟨Nat.le_refl _⟩, by repeat (first | exact av.refl _ | apply av.step)⟩
 case round =>
  clear H'
  obtain ⟨bd, rfl, HA, fu, ⟨m1, rfl⟩⟩ := hrel
  cases gk with
  | zero => exact absurd HA.out (by simp [bb.l0])
  | succ k1 =>
   have H := HA.out
   clear HA
   simp only [bb.l0] at H
   by_cases c2 : bd < (l0.length : Int)
   rotate_left
   · rw [if_neg c2] at H
     have tL : decide (bd < (l0.length : Int)) = false := decide_eq_false c2
     clear c2
     obtain rfl := Option.some.inj H
     go_wp2
     repeat (go_quiet (fail); try go_wp2)
     go_ret
     exact ⟨by first | rfl | (simp; done) | (simp [*]; done), by repeat (first | exact av.refl _ | apply av.step)⟩
   rw [if_pos c2] at H
   have tL : decide (bd < (l0.length : Int)) = true := decide_eq_true c2
   clear c2
   obtain ⟨jD, H⟩ := dB H
   obtain ⟨LK, Um⟩ : ∃ j_ : Int, (wrap64 (bd - 1)) = j_ := ⟨_, rfl⟩
   replace H : (if 0 ≤ (LK) then (if (LK) < (l0.length : Int) then (if (rd l0 bd) ≤ (rd l0 (LK)) then (some false) else (bb.l0 k1 l0 (wrap64 (bd + 1)))) else (none)) else (none)) = some r := by first | (rw [Um] at H; exact H) | (simp only [Um] at H ⊢; exact H)
   have au_ : (IntKind.i64.wrap (bd - 1)) = LK := (b6 _).trans Um
   obtain ⟨qJ, H⟩ := dB H
   obtain ⟨pH, H⟩ := dB H
   by_cases c7 : (rd l0 bd) ≤ (rd l0 (LK))
   · rw [if_pos c7] at H
     have oO : decide ((rd l0 bd) ≤ (rd l0 (LK))) = true := decide_eq_true c7
     clear c7
     obtain rfl := Option.some.inj H
     have GG : 0 ≤ (bd : Int) := bO
     have GH : bd < (l0.length : Int) := bO
     obtain ⟨NL, aaR, Un⟩ := Kd.aZ eZ.out bd GG GH
     cases aaR
     replace GG := eq_true GG
     replace GH := eq_true GH
     have GI : 0 ≤ ((LK) : Int) := bO
     have GJ : (LK) < (l0.length : Int) := bO
     obtain ⟨NM, aaS, Uo⟩ := Kd.aZ eZ.out (LK) GI GJ
     obtain rfl : NL = NM := (by injection aaS)
     replace GI := eq_true GI
     replace GJ := eq_true GJ
     go_wp2
     repeat (go_quiet (fail); try go_wp2)
     go_ret
     exact ⟨by first | rfl | (simp; done) | (simp only [← Um] <;> (first | rfl | simp)) | (simp [*]; done), by repeat (first | exact av.refl _ | apply av.step)⟩
   rw [if_neg c7] at H
   have oO : decide ((rd l0 bd) ≤ (rd l0 (LK))) = false := decide_eq_false c7
   clear c7
   have H' := aa.mk H
   clear H
   have GG : 0 ≤ (bd : Int) := bO
   have GH : bd < (l0.length : Int) := bO
   obtain ⟨NL, aaR, Un⟩ := Kd.aZ eZ.out bd GG GH
   cases aaR
   replace GG := eq_true GG
   replace GH := eq_true GH
   have GI : 0 ≤ ((LK) : Int) := bO
   have GJ : (LK) < (l0.length : Int) := bO
   obtain ⟨NM, aaS, Uo⟩ := Kd.aZ eZ.out (LK) GI GJ
   obtain rfl : NL = NM := (by injection aaS)
   replace GI := eq_true GI
   replace GJ := eq_true GJ
   go_wp2
   repeat (go_quiet (fail); try go_wp2)
   go_roundg k1
   case measure => have := fu.out; omega
   case rel => exact ⟨(wrap64 (bd + 1)), eF, H', ⟨by have := fu.out; omega⟩, by repeat (first | exact av.refl _ | apply av.step)⟩
def de.l0 : Nat → Int → Int → Option (Int)
 | 0, _, _ => none
 | k + 1, x0, x1 => if x0 = 0 then (some x1) else (de.l0 k (Int.tmod x1 x0) x0)
def de.f (k : Nat) (a0 : Int) (a1 : Int) : Option (Int) := (a6.f k (([a0, a1] : List Int)) (-1000000) 1000000).bind fun t108 => (if t108 = true then (de.l0 k (mx a0 (wrap64 (-a0))) (mx a1 (wrap64 (-a1)))) else (some 0))
theorem de.er : ∀ k, (∀ y0 y1, bK (de.l0 k y0 y1) (de.l0 (k + 1) y0 y1))
 | 0 => fun _ _ r h => by simp [de.l0] at h
 | k + 1 => by
  have ia := de.er k
  · intro y0 y1
    unfold de.l0
    repeat' first
    | (with_reducible exact ia _ _)
    | (with_reducible exact a6.mono _ _ _ _)
    | (with_reducible exact bK.refl _)
    | (with_reducible exact bK.none _)
    | (with_reducible refine bK.ite ?_ ?_)
    | (with_reducible refine bK.bind ?_ (fun _ => ?_))
    | exact ia _ _
    | exact bK.none _
    | refine bK.ite ?_ ?_
    | refine bK.bind ?_ (fun _ => ?_)
theorem de.mono : ∀ a0 a1 k, bK (de.f k a0 a1) (de.f (k + 1) a0 a1) := by
 intro a0 a1 k
 have ia := de.er k
 unfold de.f
 repeat' first
  | (with_reducible exact ia _ _)
  | (with_reducible exact a6.mono _ _ _ _)
  | (with_reducible exact bK.refl _)
  | (with_reducible exact bK.none _)
  | (with_reducible refine bK.ite ?_ ?_)
  | (with_reducible refine bK.bind ?_ (fun _ => ?_))
  | exact ia _ _
  | exact bK.none _
  | refine bK.ite ?_ ?_
  | refine bK.bind ?_ (fun _ => ?_)
theorem de.calls (k : Nat) (a0 : Int) (a1 : Int) (r : Int) (w : World) (h : de.f k a0 a1 = some r) :
 Calls Tryz.prog 109 #[.int .i64 a0, .int .i64 a1] w fun e w' => e = .returned (.int .i64 r) ∧ Below w.heap.size w w' := by
 have HB := aa.mk (Below.refl w.heap.size w)
 have H := h
 clear h
 unfold de.f at H
 obtain ⟨NN, NO⟩ : ∃ y_ : List Int, y_ = (([a0, a1] : List Int)) := ⟨_, rfl⟩
 replace H : ((a6.f k NN (-1000000) 1000000).bind fun t108 => (if t108 = true then (de.l0 k (mx a0 (wrap64 (-a0))) (mx a1 (wrap64 (-a1)))) else (some 0))) = some r := by subst NO; exact H
 have Jn := aa.mk NO
 clear NO
 obtain ⟨t108, A3, H⟩ := eA H
 by_cases c4 : t108 = true
 rotate_left
 · replace c4 := Bool.eq_false_iff.mpr c4
   subst c4
   rw [if_neg (show ¬ (false = true) by decide)] at H
   obtain rfl := Option.some.inj H
   go_enter Tryz.func109, Tryz.ntmps109
   go_wp2_with (first | ((with_reducible refine gate_dst (N := 7) rfl ?_); refine Kd.iK (Kd.int .i64) _ 3 ?hg (N := 7) ?hd (xs := ([a0, a1] : List Int)) (inner := [.int .i64 a0, .int .i64 a1]) (ok := fun _ => True) (okp := fun _ => True) ?hr ?hp (fun _ hk => hk) trivial (Below.refl _ _) (Nat.le_refl _) (by simp) ?_; (case hd => rfl); (case hg => rfl); (case hr => first | (go_simp; done) | (go_simp; rfl)); (case hp => exact (bE.one (show Kd.M (Kd.int .i64) _ _ _ a0 [.int .i64 a0] from rfl) (bE.one (show Kd.M (Kd.int .i64) _ _ _ a1 [.int .i64 a1] from rfl) (bE.none _ _)))); intro aps Bn nU hb hg_ hnew_; clear hg_ hnew_; (first | rw [← Jn.out] at nU | (simp only [Int.reduceToNat] at nU; rw [← Jn.out] at nU)); have yP := aa.mk (Kd.aW nU (ag (gA HB.out))); replace HB := jL HB hb; clear hb nU; obtain ⟨NP, GK, GL⟩ := Kd.aN yP.out; subst GL) | ((with_reducible refine gate_callee (f := 84) rfl ?_); refine dU (some 8) Tryz.func84 #[.slice NP NN.length GK, .int .i64 (-1000000), .int .i64 1000000] ?_; (with_reducible refine (a6.calls k _ _ NN (-1000000) 1000000 false _ ?ah ?aj A3.out).mono ?_); (case ah => exact kx ((Kd.ao yP.out).2.2)); (case aj => exact (Kd.ao yP.out).2.1); rintro e w' ⟨rfl, ⟨nd, rfl⟩⟩; refine ⟨_, rfl, ?_⟩))
   go_ret
   exact ⟨ig, gA HB.out⟩
 subst c4
 rw [if_pos rfl] at H
 obtain ⟨Jo, xz⟩ : ∃ j_ : Int, (mx a0 (wrap64 (-a0))) = j_ := ⟨_, rfl⟩
 replace H : (de.l0 k Jo (mx a1 (wrap64 (-a1)))) = some r := by first | (rw [xz] at H; exact H) | (simp only [xz] at H ⊢; exact H)
 (try rw [xz] at A3)
 have ava : (if a0 < (wrap64 (-a0)) then (wrap64 (-a0)) else a0) = Jo := xz
 obtain ⟨ji6, LL⟩ : ∃ j_ : Int, (mx a1 (wrap64 (-a1))) = j_ := ⟨_, rfl⟩
 replace H : (de.l0 k Jo ji6) = some r := by first | (rw [LL] at H; exact H) | (simp only [LL] at H ⊢; exact H)
 (try rw [LL] at A3)
 have avb : (if a1 < (wrap64 (-a1)) then (wrap64 (-a1)) else a1) = ji6 := LL
 have H' := aa.mk H
 clear H
 go_enter Tryz.func109, Tryz.ntmps109
 go_wp2_with (first | ((with_reducible refine gate_dst (N := 7) rfl ?_); refine Kd.iK (Kd.int .i64) _ 3 ?hg (N := 7) ?hd (xs := ([a0, a1] : List Int)) (inner := [.int .i64 a0, .int .i64 a1]) (ok := fun _ => True) (okp := fun _ => True) ?hr ?hp (fun _ hk => hk) trivial (Below.refl _ _) (Nat.le_refl _) (by simp) ?_; (case hd => rfl); (case hg => rfl); (case hr => first | (go_simp; done) | (go_simp; rfl)); (case hp => exact (bE.one (show Kd.M (Kd.int .i64) _ _ _ a0 [.int .i64 a0] from rfl) (bE.one (show Kd.M (Kd.int .i64) _ _ _ a1 [.int .i64 a1] from rfl) (bE.none _ _)))); intro aps w7 NQ hb hg_ hnew_; clear hg_ hnew_; (first | rw [← Jn.out] at NQ | (simp only [Int.reduceToNat] at NQ; rw [← Jn.out] at NQ)); have yP := aa.mk (Kd.aW NQ (ag (gA HB.out))); replace HB := jL HB hb; clear hb NQ; obtain ⟨pI, o3, NR⟩ := Kd.aN yP.out; subst NR) | ((with_reducible refine gate_callee (f := 84) rfl ?_); refine dU (some 8) Tryz.func84 #[.slice pI NN.length o3, .int .i64 (-1000000), .int .i64 1000000] ?_; (with_reducible refine (a6.calls k _ _ NN (-1000000) 1000000 true _ ?ah ?aj A3.out).mono ?_); (case ah => exact kx ((Kd.ao yP.out).2.2)); (case aj => exact (Kd.ao yP.out).2.1); rintro e w' ⟨rfl, ⟨nd, rfl⟩⟩; refine ⟨_, rfl, ?_⟩))
 go_loopg [0, 1] k (fun kq v0 v1 w' => ∃ (AR : Int) (Up : Int), v0 = .int .i64 AR ∧ v1 = .int .i64 Up ∧ aa (de.l0 kq AR Up = some r) ∧ aa (kq ≤ k) ∧ aa (Below w.heap.size w w'))
 case atStart => exact ⟨(Jo), (ji6), (by first | rfl | (simp; done) | (simp only [← xz] <;> (first | rfl | simp)) | (simp [*]; done)), (by first | rfl | (simp; done) | (simp only [← LL] <;> (first | rfl | simp)) | (simp [*]; done)), H', ⟨Nat.le_refl _⟩, ⟨gA HB.out⟩⟩
 case round =>
  clear H'
  obtain ⟨AR, Up, rfl, rfl, HA, fu, HB⟩ := hrel
  cases gk with
  | zero => exact absurd HA.out (by simp [de.l0])
  | succ k1 =>
   have H := HA.out
   clear HA
   simp only [de.l0] at H
   by_cases rh : AR = 0
   · rw [if_pos rh] at H
     have pW : (AR == 0) = true := beq_iff_eq.mpr rh
     have NS : (AR != 0) = false := bne_eq_false_iff_eq.mpr rh
     clear rh
     obtain rfl := Option.some.inj H
     go_wp2
     go_ret
     exact ⟨by first | rfl | (simp [cD, cF] <;> rfl) | (simp only [← xz, ← LL]; first | rfl | (simp [cD, cF] <;> rfl)) | (simp [*, cD, cF] <;> rfl), gA HB.out⟩
   rw [if_neg rh] at H
   have pW : (AR == 0) = false := beq_eq_false_iff_ne.mpr rh
   have NS : (AR != 0) = true := bne_iff_ne.mpr rh
   have H' := aa.mk H
   clear H
   go_wp2
   go_roundg k1
   case measure => have := fu.out; omega
   case rel => exact ⟨(Int.tmod Up AR), (AR), eF, eF, H', ⟨by have := fu.out; omega⟩, ⟨gA HB.out⟩⟩
def bI.l0 : Nat → Int → List Int → Int → Int → Option (Int)
 | 0, _, _, _, _ => none
 | k + 1, x3, x6, x7, x8 => if x8 < x7 then (if 0 ≤ x8 then (if x8 < (x6.length : Int) then ((de.f k x3 (rd x6 x8)).bind fun t110 => (bI.l0 k t110 x6 x7 (wrap64 (x8 + 1)))) else (none)) else (none)) else (some x3)
def bI.f (k : Nat) (l0 : List Int) : Option (Int) := bI.l0 k 0 l0 (l0.length : Int) 0
theorem bI.er : ∀ k, (∀ y0 y1 y2 y3, bK (bI.l0 k y0 y1 y2 y3) (bI.l0 (k + 1) y0 y1 y2 y3))
 | 0 => fun _ _ _ _ r h => by simp [bI.l0] at h
 | k + 1 => by
  have ia := bI.er k
  · intro y0 y1 y2 y3
    unfold bI.l0
    repeat' first
    | (with_reducible exact ia _ _ _ _)
    | (with_reducible exact de.mono _ _ _)
    | (with_reducible exact bK.refl _)
    | (with_reducible exact bK.none _)
    | (with_reducible refine bK.ite ?_ ?_)
    | (with_reducible refine bK.bind ?_ (fun _ => ?_))
    | exact ia _ _ _ _
    | exact bK.none _
    | refine bK.ite ?_ ?_
    | refine bK.bind ?_ (fun _ => ?_)
theorem bI.mono : ∀ a0 k, bK (bI.f k a0) (bI.f (k + 1) a0) := by
 intro a0 k
 have ia := bI.er k
 unfold bI.f
 repeat' first
  | (with_reducible exact ia _ _ _ _)
  | (with_reducible exact de.mono _ _ _)
  | (with_reducible exact bK.refl _)
  | (with_reducible exact bK.none _)
  | (with_reducible refine bK.ite ?_ ?_)
  | (with_reducible refine bK.bind ?_ (fun _ => ?_))
  | exact ia _ _ _ _
  | exact bK.none _
  | refine bK.ite ?_ ?_
  | refine bK.bind ?_ (fun _ => ?_)
theorem bI.calls (k : Nat) (A0 : Option Addr) (c0 : Nat) (l0 : List Int) (r : Int) (w : World) (fH : Kd.C (Kd.int .i64) w A0 l0.length l0) (gL : l0.length ≤ c0) (h : bI.f k l0 = some r) :
 Calls Tryz.prog 86 #[.slice A0 l0.length c0] w fun e w' => e = .returned (.int .i64 r) ∧ Below w.heap.size w w' := by
 have eZ := aa.mk fH
 have jN := aa.mk gL
 clear fH gL
 have HB := aa.mk (Below.refl w.heap.size w)
 have H := h
 clear h
 unfold bI.f at H
 have H' := aa.mk H
 clear H
 go_enter Tryz.func86, Tryz.ntmps86
 go_wp2
 go_loopg [3, 8] k (fun kq v3 v8 w' => ∃ (bd : Int) (lh : Int), v3 = .int .i64 bd ∧ v8 = .int .i64 lh ∧ aa (bI.l0 kq bd l0 (l0.length : Int) lh = some r) ∧ aa (kq ≤ k) ∧ aa (Below w.heap.size w w'))
 case atStart => exact ⟨(0), (0), eF, eF, H', ⟨Nat.le_refl _⟩, ⟨gA HB.out⟩⟩
 case round =>
  clear H'
  obtain ⟨bd, lh, rfl, rfl, HA, fu, HB⟩ := hrel
  cases gk with
  | zero => exact absurd HA.out (by simp [bI.l0])
  | succ k1 =>
   have H := HA.out
   clear HA
   simp only [bI.l0] at H
   by_cases c2 : lh < (l0.length : Int)
   rotate_left
   · rw [if_neg c2] at H
     have tL : decide (lh < (l0.length : Int)) = false := decide_eq_false c2
     clear c2
     obtain rfl := Option.some.inj H
     go_wp2
     go_ret
     exact ⟨ig, gA HB.out⟩
   rw [if_pos c2] at H
   have tL : decide (lh < (l0.length : Int)) = true := decide_eq_true c2
   clear c2
   obtain ⟨jD, H⟩ := dB H
   obtain ⟨kI, H⟩ := dB H
   obtain ⟨t110, A5, H⟩ := eA H
   have H' := aa.mk H
   clear H
   have aaT : 0 ≤ (lh : Int) := bO
   have aaU : lh < (l0.length : Int) := bO
   obtain ⟨avc, apu, Cx⟩ := Kd.aZ eZ.out lh aaT aaU
   cases apu
   (try replace Cx := (HB.out.cell (World.block_lt_of_cell? w _ Cx)).trans Cx)
   replace aaT := eq_true aaT
   replace aaU := eq_true aaU
   go_wp2_with (first | ((with_reducible refine gate_callee (f := 109) rfl ?_); refine dU (some 14) Tryz.func109 #[.int .i64 bd, .int .i64 (rd l0 lh)] ?_; (with_reducible refine (de.calls k1 bd (rd l0 lh) t110 _ A5.out).mono ?_); rintro e w6 ⟨rfl, hb⟩; refine ⟨_, rfl, ?_⟩; replace HB := jL HB hb; (try clear hb)))
   go_roundg k1
   case measure => have := fu.out; omega
   case rel => exact ⟨(t110), (wrap64 (lh + 1)), eF, eF, H', ⟨by have := fu.out; omega⟩, ⟨gA HB.out⟩⟩
mutual
def ar.l0 : Nat → List Int → Int → List Int → Int → Int → Option (List Int)
 | 0, _, _, _, _, _ => none
 | k + 1, x0, x1, x5, Jp, tq => if tq < Jp then (if 0 ≤ tq then (if tq < (x5.length : Int) then (ar.l0 k x0 x1 (x5.set (tq : Int).toNat (-1)) Jp (wrap64 (tq + 1))) else (none)) else (none)) else (if 0 < (x5.length : Int) then (ar.l1 k x0 x1 (x5.set (0 : Int).toNat 0) true) else (none))
def ar.l1 : Nat → List Int → Int → List Int → Bool → Option (List Int)
 | 0, _, _, _, _ => none
 | k + 1, x0, x1, x5, x7 => if x7 = true then (ar.l2 k x0 x1 x5 false (x5.length : Int) 0) else (some x5)
def ar.l2 : Nat → List Int → Int → List Int → Bool → Int → Int → Option (List Int)
 | 0, _, _, _, _, _, _ => none
 | k + 1, x0, x1, x5, x7, Gp, GM => if GM < Gp then (if 0 ≤ GM then (if GM < (x5.length : Int) then (if (rd x5 GM) < 0 then (ar.l2 k x0 x1 x5 x7 Gp (wrap64 (GM + 1))) else (ar.l3 k x0 x1 x5 x7 GM (rd x5 GM) Gp GM x0 (x0.length : Int) 0)) else (none)) else (none)) else (ar.l1 k x0 x1 x5 x7)
def ar.l3 : Nat → List Int → Int → List Int → Bool → Int → Int → Int → Int → List Int → Int → Int → Option (List Int)
 | 0, _, _, _, _, _, _, _, _, _, _, _ => none
 | k + 1, x0, x1, x5, x7, x8, x9, Gp, GM, LM, x37, GN => if GN < x37 then (if 0 ≤ GN then (if GN < (LM.length : Int) then (if x1 = 0 then (none) else (if 0 ≤ (Int.tmod (wrap64 (x8 + (rd LM GN))) x1) then (if (Int.tmod (wrap64 (x8 + (rd LM GN))) x1) < (x5.length : Int) then (if (rd x5 (Int.tmod (wrap64 (x8 + (rd LM GN))) x1)) < 0 then (ar.l3 k x0 x1 (x5.set ((Int.tmod (wrap64 (x8 + (rd LM GN))) x1) : Int).toNat (wrap64 (x9 + (rd LM GN)))) true x8 x9 Gp GM LM x37 (wrap64 (GN + 1))) else (if (wrap64 (x9 + (rd LM GN))) < (rd x5 (Int.tmod (wrap64 (x8 + (rd LM GN))) x1)) then (ar.l3 k x0 x1 (x5.set ((Int.tmod (wrap64 (x8 + (rd LM GN))) x1) : Int).toNat (wrap64 (x9 + (rd LM GN)))) true x8 x9 Gp GM LM x37 (wrap64 (GN + 1))) else (ar.l3 k x0 x1 x5 x7 x8 x9 Gp GM LM x37 (wrap64 (GN + 1))))) else (none)) else (none))) else (none)) else (none)) else (ar.l2 k x0 x1 x5 x7 Gp (wrap64 (GM + 1)))
end
def ar.f (k : Nat) (l0 : List Int) (a1 : Int) : Option (List Int) := if 0 ≤ a1 then (if (a1 : Int).toNat ≤ 35184372088832 then ((some (List.replicate (a1 : Int).toNat 0 : List Int)).bind fun xA => (ar.l0 k l0 a1 xA (xA.length : Int) 0)) else (none)) else (none)
theorem ar.er : ∀ k, (∀ y0 y1 y2 y3 y4, bK (ar.l0 k y0 y1 y2 y3 y4) (ar.l0 (k + 1) y0 y1 y2 y3 y4)) ∧ (∀ y0 y1 y2 y3, bK (ar.l1 k y0 y1 y2 y3) (ar.l1 (k + 1) y0 y1 y2 y3)) ∧ (∀ y0 y1 y2 y3 y4 y5, bK (ar.l2 k y0 y1 y2 y3 y4 y5) (ar.l2 (k + 1) y0 y1 y2 y3 y4 y5)) ∧ (∀ y0 y1 y2 y3 y4 y5 y6 y7 y8 y9 y10, bK (ar.l3 k y0 y1 y2 y3 y4 y5 y6 y7 y8 y9 y10) (ar.l3 (k + 1) y0 y1 y2 y3 y4 y5 y6 y7 y8 y9 y10))
 | 0 => ⟨fun _ _ _ _ _ r h => by simp [ar.l0] at h, fun _ _ _ _ r h => by simp [ar.l1] at h, fun _ _ _ _ _ _ r h => by simp [ar.l2] at h, fun _ _ _ _ _ _ _ _ _ _ _ r h => by simp [ar.l3] at h⟩
 | k + 1 => by
  obtain ⟨ia, oP, AS, NT⟩ := ar.er k
  refine ⟨?_, ?_, ?_, ?_⟩
  · intro y0 y1 y2 y3 y4
    unfold ar.l0
    repeat' first
    | (with_reducible exact ia _ _ _ _ _)
    | (with_reducible exact oP _ _ _ _)
    | (with_reducible exact AS _ _ _ _ _ _)
    | (with_reducible exact NT _ _ _ _ _ _ _ _ _ _ _)
    | (with_reducible exact bK.refl _)
    | (with_reducible exact bK.none _)
    | (with_reducible refine bK.ite ?_ ?_)
    | (with_reducible refine bK.bind ?_ (fun _ => ?_))
    | exact ia _ _ _ _ _
    | exact oP _ _ _ _
    | exact AS _ _ _ _ _ _
    | exact NT _ _ _ _ _ _ _ _ _ _ _
    | exact bK.none _
    | refine bK.ite ?_ ?_
    | refine bK.bind ?_ (fun _ => ?_)
  · intro y0 y1 y2 y3
    unfold ar.l1
    repeat' first
    | (with_reducible exact ia _ _ _ _ _)
    | (with_reducible exact oP _ _ _ _)
    | (with_reducible exact AS _ _ _ _ _ _)
    | (with_reducible exact NT _ _ _ _ _ _ _ _ _ _ _)
    | (with_reducible exact bK.refl _)
    | (with_reducible exact bK.none _)
    | (with_reducible refine bK.ite ?_ ?_)
    | (with_reducible refine bK.bind ?_ (fun _ => ?_))
    | exact ia _ _ _ _ _
    | exact oP _ _ _ _
    | exact AS _ _ _ _ _ _
    | exact NT _ _ _ _ _ _ _ _ _ _ _
    | exact bK.none _
    | refine bK.ite ?_ ?_
    | refine bK.bind ?_ (fun _ => ?_)
  · intro y0 y1 y2 y3 y4 y5
    unfold ar.l2
    repeat' first
    | (with_reducible exact ia _ _ _ _ _)
    | (with_reducible exact oP _ _ _ _)
    | (with_reducible exact AS _ _ _ _ _ _)
    | (with_reducible exact NT _ _ _ _ _ _ _ _ _ _ _)
    | (with_reducible exact bK.refl _)
    | (with_reducible exact bK.none _)
    | (with_reducible refine bK.ite ?_ ?_)
    | (with_reducible refine bK.bind ?_ (fun _ => ?_))
    | exact ia _ _ _ _ _
    | exact oP _ _ _ _
    | exact AS _ _ _ _ _ _
    | exact NT _ _ _ _ _ _ _ _ _ _ _
    | exact bK.none _
    | refine bK.ite ?_ ?_
    | refine bK.bind ?_ (fun _ => ?_)
  · intro y0 y1 y2 y3 y4 y5 y6 y7 y8 y9 y10
    unfold ar.l3
    repeat' first
    | (with_reducible exact ia _ _ _ _ _)
    | (with_reducible exact oP _ _ _ _)
    | (with_reducible exact AS _ _ _ _ _ _)
    | (with_reducible exact NT _ _ _ _ _ _ _ _ _ _ _)
    | (with_reducible exact bK.refl _)
    | (with_reducible exact bK.none _)
    | (with_reducible refine bK.ite ?_ ?_)
    | (with_reducible refine bK.bind ?_ (fun _ => ?_))
    | exact ia _ _ _ _ _
    | exact oP _ _ _ _
    | exact AS _ _ _ _ _ _
    | exact NT _ _ _ _ _ _ _ _ _ _ _
    | exact bK.none _
    | refine bK.ite ?_ ?_
    | refine bK.bind ?_ (fun _ => ?_)
theorem ar.mono : ∀ a0 a1 k, bK (ar.f k a0 a1) (ar.f (k + 1) a0 a1) := by
 intro a0 a1 k
 obtain ⟨ia, oP, AS, NT⟩ := ar.er k
 unfold ar.f
 repeat' first
  | (with_reducible exact ia _ _ _ _ _)
  | (with_reducible exact oP _ _ _ _)
  | (with_reducible exact AS _ _ _ _ _ _)
  | (with_reducible exact NT _ _ _ _ _ _ _ _ _ _ _)
  | (with_reducible exact bK.refl _)
  | (with_reducible exact bK.none _)
  | (with_reducible refine bK.ite ?_ ?_)
  | (with_reducible refine bK.bind ?_ (fun _ => ?_))
  | exact ia _ _ _ _ _
  | exact oP _ _ _ _
  | exact AS _ _ _ _ _ _
  | exact NT _ _ _ _ _ _ _ _ _ _ _
  | exact bK.none _
  | refine bK.ite ?_ ?_
  | refine bK.bind ?_ (fun _ => ?_)
theorem ar.calls (k : Nat) (A0 : Option Addr) (c0 : Nat) (l0 : List Int) (a1 : Int) (r : List Int) (w : World) (fH : Kd.C (Kd.int .i64) w A0 l0.length l0) (gL : l0.length ≤ c0) (h : ar.f k l0 a1 = some r) :
 Calls Tryz.prog 88 #[.slice A0 l0.length c0, .int .i64 a1] w fun e w' => ∃ jf : Value, e = .returned (jf) ∧ Kd.R (Kd.int .i64) 3 w' w.heap.size (fun _ => True) jf r ∧ Below w.heap.size w w' := by
 have eZ := aa.mk fH
 have jN := aa.mk gL
 clear fH gL
 have HB := aa.mk (Below.refl w.heap.size w)
 have H := h
 clear h
 unfold ar.f at H
 obtain ⟨c3, H⟩ := kG H
 have jD := eq_true c3
 have ow : decide (0 ≤ a1) = true := decide_eq_true c3
 clear c3
 obtain ⟨c4, H⟩ := kG H
 have kI := eq_true c4
 have Ea : decide ((a1 : Int).toNat ≤ 35184372088832) = true := decide_eq_true c4
 clear c4
 obtain ⟨xA, NU⟩ : ∃ y_ : List Int, y_ = (List.replicate (a1 : Int).toNat 0) := ⟨_, rfl⟩
 replace H : (ar.l0 k l0 a1 xA (xA.length : Int) 0) = some r := by subst NU; exact H
 have XK := aa.mk NU
 clear NU
 have H' := aa.mk H
 clear H
 go_enter Tryz.func88, Tryz.ntmps88
 go_wp2_with (first | ((with_reducible refine gate_dst (N := 14) rfl ?_); refine Kd.vG (Kd.int .i64) _ 3 rfl (N := 14) rfl 24 _ _ rfl a1 rfl rfl Tryz.underlying24 (.int .i64 0) 8 iS rfl (by decide) (by omega) 0 (ok := fun _ => True) (okp := fun _ => True) rfl (fun _ hk => hk) trivial (bO) (Nat.le_trans (Nat.mul_le_mul_right _ (bO : a1.toNat ≤ 35184372088832)) (by omega)) (Below.refl _ _) (Nat.le_refl _) ?_; intro azl w5 pX hb hg_ hnew_; clear hg_ hnew_; (first | rw [← XK.out] at pX | (simp only [Int.reduceToNat] at pX; rw [← XK.out] at pX)); have XL := aa.mk (Kd.aW pX (ag (gA HB.out))); replace HB := jL HB hb; clear hb pX; obtain ⟨AH, sP, Bo⟩ := Kd.aN XL.out; subst Bo))
 go_loopg [17] k (fun kq v17 w' => ∃ (aJ : List Int) (lv : Int), v17 = .int .i64 lv ∧ aa (ar.l0 kq l0 a1 aJ (xA.length : Int) lv = some r) ∧ aa (kq ≤ k) ∧ aa (Kd.R (Kd.int .i64) 3 w' w.heap.size (fun _ => True) (.slice AH xA.length sP) aJ) ∧ aa (Below w.heap.size w w'))
 case atStart => exact ⟨(xA), (0), eF, H', ⟨Nat.le_refl _⟩, ⟨b9 XL.out⟩, ⟨gA HB.out⟩⟩
 case round =>
  clear H'
  try clear jD
  try clear ow
  try clear kI
  try clear Ea
  obtain ⟨aJ, lv, rfl, HA, fu, cr, HB⟩ := hrel
  have gY := (Kd.ao cr.out).1
  rw [gY] at cr
  (try simp only [gY])
  cases gk with
  | zero => exact absurd HA.out (by simp [ar.l0])
  | succ k1 =>
   have H := HA.out
   clear HA
   simp only [ar.l0] at H
   by_cases c8 : lv < (xA.length : Int)
   · rw [if_pos c8] at H
     have rD : decide (lv < (xA.length : Int)) = true := decide_eq_true c8
     (try (have c8h := rD; simp only [gY] at c8h))
     clear c8
     obtain ⟨uo, H⟩ := dB H
     obtain ⟨rh, H⟩ := kG H
     have pW : decide (lv < (aJ.length : Int)) = true := decide_eq_true rh
     (try (have apx := pW; simp only [gY] at apx))
     clear rh
     obtain ⟨aaV, NV⟩ : ∃ y_ : List Int, y_ = (aJ.set (lv : Int).toNat (-1)) := ⟨_, rfl⟩
     replace H : (ar.l0 k1 l0 a1 aaV (xA.length : Int) (wrap64 (lv + 1))) = some r := by subst NV; exact H
     have agm := aa.mk NV
     clear NV
     have H' := aa.mk H
     clear H
     have p11 : 0 ≤ (lv : Int) := bO
     have q11 : (lv : Int) < ((aJ.length : Int) : Int) := bO
     obtain ⟨aaW, apA, Uq, agn, apB, azm, ago⟩ := Kd.ry cr.out (by omega)
     (first | cases Uq | (injection Uq with ea_ en_ ec_; (first | subst ea_ | (injection ea_ with ea_; subst ea_)); subst ec_; clear en_))
     have apC := aa.mk agn
     have azn := aa.mk ago
     clear agn apB ago
     obtain ⟨apD, apE⟩ := Kd.lK 0 cr.out (lv : Int) p11 q11
     replace p11 := eq_true p11
     replace q11 := eq_true q11
     have aaX := Kd.pz cr.out (lv : Int) (-1)
     go_wp2_with (first | ((with_reducible refine gate_store (t := 3) (p := 22) rfl ?_); refine fw (t := 3) (p := 22) (v := ?apF) (w1 := (wr.setCell ⟨aaW, (lv : Int).toNat, none⟩ (.int .i64 (-1)))) ?hg ?ho ?hn ?hr ?_; (case ho => rfl); (case hg => rfl); (case hn => rfl); (case hr => first | (go_simp; done) | (go_simp; rfl)); intro Eb hw; have hg : wr.grownBy Eb (some aaW) := (by rw [hw]; exact aaX.2); have hp_ : Kd.R (Kd.int .i64) 3 Eb w.heap.size (fun _ => True) (.slice (some ⟨aaW, 0, none⟩) aJ.length sP) aaV := (by rw [hw, agm.out]; exact aaX.1); clear aaX; replace cr := aa.mk (hp_); replace HB := aa.mk ((by rw [hw]; exact hP (HB.out) apC.out : Below w.heap.size w Eb)); clear hg hw hp_))
     (try simp only [← gY])
     go_roundg k1
     case measure => have := fu.out; omega
     case rel => exact ⟨(aaV), (wrap64 (lv + 1)), eF, H', ⟨by have := fu.out; omega⟩, ⟨by (try simp only [gY]); (with_reducible repeat (first | apply Kd.bQ | apply Kd.bT | apply Kd.bR)); exact cr.out⟩, ⟨gA HB.out⟩⟩
   rw [if_neg c8] at H
   have rD : decide (lv < (xA.length : Int)) = false := decide_eq_false c8
   (try (have c8h := rD; simp only [gY] at c8h))
   clear c8
   obtain ⟨mG, H⟩ := kG H
   have jQ : decide (0 < (aJ.length : Int)) = true := decide_eq_true mG
   have Bp : decide (0 < aJ.length) = true := decide_eq_true (by omega)
   (try (have NW := jQ; simp only [gY] at NW))
   clear mG
   obtain ⟨aaY, NX⟩ : ∃ y_ : List Int, y_ = (aJ.set (0 : Int).toNat 0) := ⟨_, rfl⟩
   replace H : (ar.l1 k1 l0 a1 aaY true) = some r := by subst NX; exact H
   have agp := aa.mk NX
   clear NX
   have H' := aa.mk H
   clear H
   have p15 : 0 ≤ (0 : Int) := (by omega)
   have q15 : (0 : Int) < ((aJ.length : Int) : Int) := bO
   have apG : (0 < aJ.length) = True := eq_true (by omega)
   obtain ⟨qK, apH, Ur, agq, apI, azo, agr⟩ := Kd.ry cr.out (by omega)
   (first | cases Ur | (injection Ur with ea_ en_ ec_; (first | subst ea_ | (injection ea_ with ea_; subst ea_)); subst ec_; clear en_))
   have aaZ := aa.mk agq
   have azp := aa.mk agr
   clear agq apI agr
   obtain ⟨GO, NY⟩ := Kd.lK 0 cr.out (0 : Int) p15 q15
   (try rw [show ((0 : Int)).toNat = 0 from rfl] at GO)
   (try simp only [Nat.reduceMul, Nat.zero_mul, Nat.zero_add, Nat.reduceAdd] at GO)
   (try rw [show ((0 : Int)).toNat = 0 from rfl] at NY)
   (try simp only [Nat.reduceMul, Nat.zero_mul, Nat.zero_add, Nat.reduceAdd] at NY)
   replace p15 := eq_true p15
   replace q15 := eq_true q15
   have aa0 := Kd.pz cr.out (0 : Int) 0
   go_wp2_with (first | ((with_reducible refine gate_store (t := 3) (p := 25) rfl ?_); refine fw (t := 3) (p := 25) (v := ?apJ) (w1 := (wr.setCell ⟨qK, (0 : Int).toNat, none⟩ (.int .i64 0))) ?hg ?ho ?hn ?hr ?_; (case ho => rfl); (case hg => rfl); (case hn => rfl); (case hr => first | (go_simp; done) | (go_simp; rfl)); intro LN hw; have hg : wr.grownBy LN (some qK) := (by rw [hw]; exact aa0.2); have hp_ : Kd.R (Kd.int .i64) 3 LN w.heap.size (fun _ => True) (.slice (some ⟨qK, 0, none⟩) aJ.length sP) aaY := (by rw [hw, agp.out]; exact aa0.1); clear aa0; replace cr := aa.mk (hp_); replace HB := aa.mk ((by rw [hw]; exact hP (HB.out) aaZ.out : Below w.heap.size w LN)); clear hg hw hp_))
   go_loopg [7] k1 (fun kq v7 w' => ∃ (cR : List Int) (jm : Bool), v7 = .bool jm ∧ aa (ar.l1 kq l0 a1 cR jm = some r) ∧ aa (kq ≤ k1) ∧ aa (Kd.R (Kd.int .i64) 3 w' w.heap.size (fun _ => True) (.slice (some ⟨qK, 0, none⟩) aJ.length sP) cR) ∧ aa (Below w.heap.size w w'))
   case atStart => exact ⟨(aaY), (true), eF, H', ⟨Nat.le_refl _⟩, ⟨by (try simp only [gY]); (with_reducible repeat (first | apply Kd.bQ | apply Kd.bT | apply Kd.bR)); exact cr.out⟩, ⟨gA HB.out⟩⟩
   case round =>
    clear H'
    try clear rD
    try clear jQ
    try clear Bp
    try clear p15
    try clear q15
    try clear apG
    try clear GO
    obtain ⟨cR, jm, rfl, HA, jo, cr, HB⟩ := hrel
    have iL := (Kd.ao cr.out).1
    rw [iL] at cr
    (try simp only [iL])
    cases gk with
    | zero => exact absurd HA.out (by simp [ar.l1])
    | succ k2 =>
     have H := HA.out
     clear HA
     simp only [ar.l1] at H
     by_cases vN : jm = true
     rotate_left
     · replace vN := Bool.eq_false_iff.mpr vN
       subst vN
       rw [if_neg (show ¬ (false = true) by decide)] at H
       obtain rfl := Option.some.inj H
       go_wp2
       go_ret
       exact ⟨_, ig, b9 cr.out, gA HB.out⟩
     subst vN
     rw [if_pos rfl] at H
     have H' := aa.mk H
     clear H
     go_wp2
     go_loopg [7, 29] k2 (fun kq v7 v29 w' => ∃ (ll : List Int) (jk : Bool) (fA : Int), v7 = .bool jk ∧ v29 = .int .i64 fA ∧ aa (ar.l2 kq l0 a1 ll jk (cR.length : Int) fA = some r) ∧ aa (kq ≤ k2) ∧ aa (Kd.R (Kd.int .i64) 3 w' w.heap.size (fun _ => True) (.slice (some ⟨qK, 0, none⟩) cR.length sP) ll) ∧ aa (Below w.heap.size w w'))
     case atStart => exact ⟨(cR), (false), (0), eF, eF, H', ⟨Nat.le_refl _⟩, ⟨by (try simp only [gY]); (try simp only [iL]); (with_reducible repeat (first | apply Kd.bQ | apply Kd.bT | apply Kd.bR)); exact cr.out⟩, ⟨gA HB.out⟩⟩
     case round =>
      clear H'
      obtain ⟨ll, jk, fA, rfl, rfl, HA, lp, cr, HB⟩ := hrel
      have lO := (Kd.ao cr.out).1
      rw [lO] at cr
      (try simp only [lO])
      cases gk with
      | zero => exact absurd HA.out (by simp [ar.l2])
      | succ k3 =>
       have H := HA.out
       clear HA
       simp only [ar.l2] at H
       by_cases rE : fA < (cR.length : Int)
       rotate_left
       · rw [if_neg rE] at H
         have pY : decide (fA < (cR.length : Int)) = false := decide_eq_false rE
         (try (have NZ := pY; simp only [gY, iL, lO] at NZ))
         clear rE
         have H' := aa.mk H
         clear H
         go_wp2
         (try simp only [← iL, ← lO])
         go_roundg k3
         case measure => have := fu.out; have := jo.out; have := lp.out; omega
         case rel => exact ⟨(ll), (jk), eF, H', ⟨by have := fu.out; have := jo.out; have := lp.out; omega⟩, ⟨by (try simp only [gY]); (try simp only [iL]); (try simp only [lO]); (with_reducible repeat (first | apply Kd.bQ | apply Kd.bT | apply Kd.bR)); exact cr.out⟩, ⟨gA HB.out⟩⟩
       rw [if_pos rE] at H
       have pY : decide (fA < (cR.length : Int)) = true := decide_eq_true rE
       (try (have NZ := pY; simp only [gY, iL, lO] at NZ))
       clear rE
       obtain ⟨tr, H⟩ := dB H
       obtain ⟨GP, H⟩ := kG H
       have tt : decide (fA < (ll.length : Int)) = true := decide_eq_true GP
       (try (have aa1 := tt; simp only [gY, iL, lO] at aa1))
       clear GP
       by_cases wJ : (rd ll fA) < 0
       · rw [if_pos wJ] at H
         have uq : decide ((rd ll fA) < 0) = true := decide_eq_true wJ
         clear wJ
         have H' := aa.mk H
         clear H
         have Ec : 0 ≤ (fA : Int) := bO
         have Ed : fA < (ll.length : Int) := bO
         obtain ⟨N0, Ee, o4⟩ := Kd.aZ (Kd.ao cr.out).2.2 fA Ec Ed
         obtain rfl : (⟨qK, 0, none⟩ : Addr) = N0 := (by injection Ee)
         (first | simp only [add_plain] at o4 | simp only [ny] at o4 | simp only [Addr.add, Nat.zero_add] at o4 | skip)
         replace Ec := eq_true Ec
         replace Ed := eq_true Ed
         go_wp2
         (try simp only [← lO])
         go_roundg k3
         case measure => have := fu.out; have := jo.out; have := lp.out; omega
         case rel => exact ⟨(ll), (jk), (wrap64 (fA + 1)), eF, eF, H', ⟨by have := fu.out; have := jo.out; have := lp.out; omega⟩, ⟨by (try simp only [gY]); (try simp only [iL]); (try simp only [lO]); (with_reducible repeat (first | apply Kd.bQ | apply Kd.bT | apply Kd.bR)); exact cr.out⟩, ⟨gA HB.out⟩⟩
       rw [if_neg wJ] at H
       have uq : decide ((rd ll fA) < 0) = false := decide_eq_false wJ
       clear wJ
       have H' := aa.mk H
       clear H
       have Ec : 0 ≤ (fA : Int) := bO
       have Ed : fA < (ll.length : Int) := bO
       obtain ⟨N0, Ee, o4⟩ := Kd.aZ (Kd.ao cr.out).2.2 fA Ec Ed
       obtain rfl : (⟨qK, 0, none⟩ : Addr) = N0 := (by injection Ee)
       (first | simp only [add_plain] at o4 | simp only [ny] at o4 | simp only [Addr.add, Nat.zero_add] at o4 | skip)
       replace Ec := eq_true Ec
       replace Ed := eq_true Ed
       go_wp2
       go_loopg [7, 38] k3 (fun kq v7 v38 w' => ∃ (lP : List Int) (LO : Bool) (gZ : Int), v7 = .bool LO ∧ v38 = .int .i64 gZ ∧ aa (ar.l3 kq l0 a1 lP LO fA (rd ll fA) (cR.length : Int) fA l0 (l0.length : Int) gZ = some r) ∧ aa (kq ≤ k3) ∧ aa (Kd.R (Kd.int .i64) 3 w' w.heap.size (fun _ => True) (.slice (some ⟨qK, 0, none⟩) ll.length sP) lP) ∧ aa (Below w.heap.size w w'))
       case atStart => exact ⟨(ll), (jk), (0), eF, eF, H', ⟨Nat.le_refl _⟩, ⟨by (try simp only [gY]); (try simp only [iL]); (try simp only [lO]); (with_reducible repeat (first | apply Kd.bQ | apply Kd.bT | apply Kd.bR)); exact cr.out⟩, ⟨gA HB.out⟩⟩
       case round =>
        clear H'
        try clear pY
        try clear tr
        try clear tt
        try clear uq
        try clear o4
        try clear Ec
        try clear Ed
        obtain ⟨lP, LO, gZ, rfl, rfl, HA, qx, cr, HB⟩ := hrel
        have o5 := (Kd.ao cr.out).1
        rw [o5] at cr
        (try simp only [o5])
        cases gk with
        | zero => exact absurd HA.out (by simp [ar.l3])
        | succ k4 =>
         have H := HA.out
         clear HA
         simp only [ar.l3] at H
         by_cases q9 : gZ < (l0.length : Int)
         rotate_left
         · rw [if_neg q9] at H
           have ra : decide (gZ < (l0.length : Int)) = false := decide_eq_false q9
           (try (have aa2 := ra; simp only [gY, iL, lO, o5] at aa2))
           clear q9
           have H' := aa.mk H
           clear H
           go_wp2
           (try simp only [← lO, ← o5])
           go_roundg k4
           case measure => have := fu.out; have := jo.out; have := lp.out; have := qx.out; omega
           case rel => exact ⟨(lP), (LO), (wrap64 (fA + 1)), eF, eF, H', ⟨by have := fu.out; have := jo.out; have := lp.out; have := qx.out; omega⟩, ⟨by (try simp only [gY]); (try simp only [iL]); (try simp only [lO]); (try simp only [o5]); (with_reducible repeat (first | apply Kd.bQ | apply Kd.bT | apply Kd.bR)); exact cr.out⟩, ⟨gA HB.out⟩⟩
         rw [if_pos q9] at H
         have ra : decide (gZ < (l0.length : Int)) = true := decide_eq_true q9
         (try (have aa2 := ra; simp only [gY, iL, lO, o5] at aa2))
         clear q9
         obtain ⟨N1, H⟩ := dB H
         obtain ⟨Cy, H⟩ := kG H
         have rF : decide (gZ < (l0.length : Int)) = true := decide_eq_true Cy
         (try (have apL := rF; simp only [gY, iL, lO, o5] at apL))
         clear Cy
         obtain ⟨Cz, H⟩ := in_ H
         have Ef : (a1 == 0) = false := beq_eq_false_iff_ne.mpr Cz
         have N2 : (a1 != 0) = true := bne_iff_ne.mpr Cz
         obtain ⟨jV, XM⟩ : ∃ j_ : Int, (Int.tmod (wrap64 (fA + (rd l0 gZ))) a1) = j_ := ⟨_, rfl⟩
         replace H : (if 0 ≤ (jV) then (if (jV) < (lP.length : Int) then (if (rd lP (jV)) < 0 then (ar.l3 k4 l0 a1 (lP.set ((jV) : Int).toNat (wrap64 ((rd ll fA) + (rd l0 gZ)))) true fA (rd ll fA) (cR.length : Int) fA l0 (l0.length : Int) (wrap64 (gZ + 1))) else (if (wrap64 ((rd ll fA) + (rd l0 gZ))) < (rd lP (jV)) then (ar.l3 k4 l0 a1 (lP.set ((jV) : Int).toNat (wrap64 ((rd ll fA) + (rd l0 gZ)))) true fA (rd ll fA) (cR.length : Int) fA l0 (l0.length : Int) (wrap64 (gZ + 1))) else (ar.l3 k4 l0 a1 lP LO fA (rd ll fA) (cR.length : Int) fA l0 (l0.length : Int) (wrap64 (gZ + 1))))) else (none)) else (none)) = some r := by first | (rw [XM] at H; exact H) | (simp only [XM] at H ⊢; exact H)
         obtain ⟨ags, H⟩ := dB H
         obtain ⟨wK, H⟩ := kG H
         have yQ : decide ((jV) < (lP.length : Int)) = true := decide_eq_true wK
         (try (have apM := yQ; simp only [gY, iL, lO, o5] at apM))
         clear wK
         by_cases Na : (rd lP (jV)) < 0
         · rw [if_pos Na] at H
           have Bq : decide ((rd lP (jV)) < 0) = true := decide_eq_true Na
           clear Na
           obtain ⟨aa3, N3⟩ : ∃ y_ : List Int, y_ = (lP.set ((jV) : Int).toNat (wrap64 ((rd ll fA) + (rd l0 gZ)))) := ⟨_, rfl⟩
           replace H : (ar.l3 k4 l0 a1 aa3 true fA (rd ll fA) (cR.length : Int) fA l0 (l0.length : Int) (wrap64 (gZ + 1))) = some r := by subst N3; exact H
           have agt := aa.mk N3
           clear N3
           have H' := aa.mk H
           clear H
           have yR : 0 ≤ (gZ : Int) := bO
           have yS : gZ < (l0.length : Int) := bO
           obtain ⟨XN, LP, lQ⟩ := Kd.aZ eZ.out gZ yR yS
           cases LP
           (try replace lQ := (HB.out.cell (World.block_lt_of_cell? w _ lQ)).trans lQ)
           replace yR := eq_true yR
           replace yS := eq_true yS
           have yT : 0 ≤ ((jV) : Int) := bO
           have yU : (jV) < (lP.length : Int) := bO
           obtain ⟨Eg, LQ, lR⟩ := Kd.aZ (Kd.ao cr.out).2.2 (jV) yT yU
           obtain rfl : (⟨qK, 0, none⟩ : Addr) = Eg := (by injection LQ)
           (first | simp only [add_plain] at lR | simp only [ny] at lR | simp only [Addr.add, Nat.zero_add] at lR | skip)
           replace yT := eq_true yT
           replace yU := eq_true yU
           have p31 : 0 ≤ ((jV) : Int) := bO
           have q31 : ((jV) : Int) < ((lP.length : Int) : Int) := bO
           obtain ⟨apP, apQ⟩ := Kd.lK 0 cr.out ((jV) : Int) p31 q31
           replace p31 := eq_true p31
           replace q31 := eq_true q31
           have aa4 := Kd.pz cr.out ((jV) : Int) (wrap64 ((rd ll fA) + (rd l0 gZ)))
           go_wp2_with (first | ((with_reducible refine gate_store (t := 3) (p := 67) rfl ?_); refine fw (t := 3) (p := 67) (v := ?apR) (w1 := (wr.setCell ⟨qK, ((jV) : Int).toNat, none⟩ (.int .i64 (wrap64 ((rd ll fA) + (rd l0 gZ)))))) ?hg ?ho ?hn ?hr ?_; (case ho => rfl); (case hg => rfl); (case hn => rfl); (case hr => first | (go_simp; done) | (go_simp; rfl)); intro XO hw; have hg : wr.grownBy XO (some qK) := (by rw [hw]; exact aa4.2); have hp_ : Kd.R (Kd.int .i64) 3 XO w.heap.size (fun _ => True) (.slice (some ⟨qK, 0, none⟩) lP.length sP) aa3 := (by rw [hw, agt.out]; exact aa4.1); clear aa4; replace cr := aa.mk (hp_); replace HB := aa.mk ((by rw [hw]; exact hP (HB.out) aaZ.out : Below w.heap.size w XO)); clear hg hw hp_))
           (try simp only [← o5])
           go_roundg k4
           case measure => have := fu.out; have := jo.out; have := lp.out; have := qx.out; omega
           case rel => exact ⟨(aa3), (true), (wrap64 (gZ + 1)), eF, eF, H', ⟨by have := fu.out; have := jo.out; have := lp.out; have := qx.out; omega⟩, ⟨by (try simp only [gY]); (try simp only [iL]); (try simp only [lO]); (try simp only [o5]); (with_reducible repeat (first | apply Kd.bQ | apply Kd.bT | apply Kd.bR)); exact cr.out⟩, ⟨gA HB.out⟩⟩
         rw [if_neg Na] at H
         have Bq : decide ((rd lP (jV)) < 0) = false := decide_eq_false Na
         clear Na
         by_cases TH : (wrap64 ((rd ll fA) + (rd l0 gZ))) < (rd lP (jV))
         rotate_left
         · rw [if_neg TH] at H
           have N4 : decide ((wrap64 ((rd ll fA) + (rd l0 gZ))) < (rd lP (jV))) = false := decide_eq_false TH
           clear TH
           have H' := aa.mk H
           clear H
           have yR : 0 ≤ (gZ : Int) := bO
           have yS : gZ < (l0.length : Int) := bO
           obtain ⟨XN, LP, lQ⟩ := Kd.aZ eZ.out gZ yR yS
           cases LP
           (try replace lQ := (HB.out.cell (World.block_lt_of_cell? w _ lQ)).trans lQ)
           replace yR := eq_true yR
           replace yS := eq_true yS
           have yT : 0 ≤ ((jV) : Int) := bO
           have yU : (jV) < (lP.length : Int) := bO
           obtain ⟨Eg, LQ, lR⟩ := Kd.aZ (Kd.ao cr.out).2.2 (jV) yT yU
           obtain rfl : (⟨qK, 0, none⟩ : Addr) = Eg := (by injection LQ)
           (first | simp only [add_plain] at lR | simp only [ny] at lR | simp only [Addr.add, Nat.zero_add] at lR | skip)
           replace yT := eq_true yT
           replace yU := eq_true yU
           have GQ : 0 ≤ ((jV) : Int) := bO
           have GR : (jV) < (lP.length : Int) := bO
           obtain ⟨N5, pZ, qL⟩ := Kd.aZ (Kd.ao cr.out).2.2 (jV) GQ GR
           obtain rfl : (⟨qK, 0, none⟩ : Addr) = N5 := (by injection pZ)
           (first | simp only [add_plain] at qL | simp only [ny] at qL | simp only [Addr.add, Nat.zero_add] at qL | skip)
           replace GQ := eq_true GQ
           replace GR := eq_true GR
           go_wp2
           (try simp only [← o5])
           go_roundg k4
           case measure => have := fu.out; have := jo.out; have := lp.out; have := qx.out; omega
           case rel => exact ⟨(lP), (LO), (wrap64 (gZ + 1)), eF, eF, H', ⟨by have := fu.out; have := jo.out; have := lp.out; have := qx.out; omega⟩, ⟨by (try simp only [gY]); (try simp only [iL]); (try simp only [lO]); (try simp only [o5]); (with_reducible repeat (first | apply Kd.bQ | apply Kd.bT | apply Kd.bR)); exact cr.out⟩, ⟨gA HB.out⟩⟩
         rw [if_pos TH] at H
         have N4 : decide ((wrap64 ((rd ll fA) + (rd l0 gZ))) < (rd lP (jV))) = true := decide_eq_true TH
         clear TH
         obtain ⟨aa5, N6⟩ : ∃ y_ : List Int, y_ = (lP.set ((jV) : Int).toNat (wrap64 ((rd ll fA) + (rd l0 gZ)))) := ⟨_, rfl⟩
         replace H : (ar.l3 k4 l0 a1 aa5 true fA (rd ll fA) (cR.length : Int) fA l0 (l0.length : Int) (wrap64 (gZ + 1))) = some r := by subst N6; exact H
         have agu := aa.mk N6
         clear N6
         have H' := aa.mk H
         clear H
         have yR : 0 ≤ (gZ : Int) := bO
         have yS : gZ < (l0.length : Int) := bO
         obtain ⟨XN, LP, lQ⟩ := Kd.aZ eZ.out gZ yR yS
         cases LP
         (try replace lQ := (HB.out.cell (World.block_lt_of_cell? w _ lQ)).trans lQ)
         replace yR := eq_true yR
         replace yS := eq_true yS
         have yT : 0 ≤ ((jV) : Int) := bO
         have yU : (jV) < (lP.length : Int) := bO
         obtain ⟨Eg, LQ, lR⟩ := Kd.aZ (Kd.ao cr.out).2.2 (jV) yT yU
         obtain rfl : (⟨qK, 0, none⟩ : Addr) = Eg := (by injection LQ)
         (first | simp only [add_plain] at lR | simp only [ny] at lR | simp only [Addr.add, Nat.zero_add] at lR | skip)
         replace yT := eq_true yT
         replace yU := eq_true yU
         have GQ : 0 ≤ ((jV) : Int) := bO
         have GR : (jV) < (lP.length : Int) := bO
         obtain ⟨N5, pZ, qL⟩ := Kd.aZ (Kd.ao cr.out).2.2 (jV) GQ GR
         obtain rfl : (⟨qK, 0, none⟩ : Addr) = N5 := (by injection pZ)
         (first | simp only [add_plain] at qL | simp only [ny] at qL | simp only [Addr.add, Nat.zero_add] at qL | skip)
         replace GQ := eq_true GQ
         replace GR := eq_true GR
         have p35 : 0 ≤ ((jV) : Int) := bO
         have q35 : ((jV) : Int) < ((lP.length : Int) : Int) := bO
         obtain ⟨apU, apV⟩ := Kd.lK 0 cr.out ((jV) : Int) p35 q35
         replace p35 := eq_true p35
         replace q35 := eq_true q35
         have aa6 := Kd.pz cr.out ((jV) : Int) (wrap64 ((rd ll fA) + (rd l0 gZ)))
         go_wp2_with (first | ((with_reducible refine gate_store (t := 3) (p := 67) rfl ?_); refine fw (t := 3) (p := 67) (v := ?apW) (w1 := (wr.setCell ⟨qK, ((jV) : Int).toNat, none⟩ (.int .i64 (wrap64 ((rd ll fA) + (rd l0 gZ)))))) ?hg ?ho ?hn ?hr ?_; (case ho => rfl); (case hg => rfl); (case hn => rfl); (case hr => first | (go_simp; done) | (go_simp; rfl)); intro w37 hw; have hg : wr.grownBy w37 (some qK) := (by rw [hw]; exact aa6.2); have hp_ : Kd.R (Kd.int .i64) 3 w37 w.heap.size (fun _ => True) (.slice (some ⟨qK, 0, none⟩) lP.length sP) aa5 := (by rw [hw, agu.out]; exact aa6.1); clear aa6; replace cr := aa.mk (hp_); replace HB := aa.mk ((by rw [hw]; exact hP (HB.out) aaZ.out : Below w.heap.size w w37)); clear hg hw hp_))
         (try simp only [← o5])
         go_roundg k4
         case measure => have := fu.out; have := jo.out; have := lp.out; have := qx.out; omega
         case rel => exact ⟨(aa5), (true), (wrap64 (gZ + 1)), eF, eF, H', ⟨by have := fu.out; have := jo.out; have := lp.out; have := qx.out; omega⟩, ⟨by (try simp only [gY]); (try simp only [iL]); (try simp only [lO]); (try simp only [o5]); (with_reducible repeat (first | apply Kd.bQ | apply Kd.bT | apply Kd.bR)); exact cr.out⟩, ⟨gA HB.out⟩⟩
def fL.f (k : Nat) (l0 : List Int) : Option (Bool) := (dG.f (l0.length : Int) 1 20).bind fun t122 => (if t122 = true then ((a6.f k l0 1 60).bind fun t123 => (some t123)) else (some false))
theorem fL.mono : ∀ a0 k, bK (fL.f k a0) (fL.f (k + 1) a0) := by
 intro a0 k
 unfold fL.f
 repeat' first
  | (with_reducible exact a6.mono _ _ _ _)
  | (with_reducible exact bK.refl _)
  | (with_reducible exact bK.none _)
  | (with_reducible refine bK.ite ?_ ?_)
  | (with_reducible refine bK.bind ?_ (fun _ => ?_))
  | exact bK.none _
  | refine bK.ite ?_ ?_
  | refine bK.bind ?_ (fun _ => ?_)
theorem fL.calls (k : Nat) (A0 : Option Addr) (c0 : Nat) (l0 : List Int) (r : Bool) (w : World) (fH : Kd.C (Kd.int .i64) w A0 l0.length l0) (gL : l0.length ≤ c0) (h : fL.f k l0 = some r) :
 Calls Tryz.prog 110 #[.slice A0 l0.length c0] w fun e w' => e = .returned (.bool r) ∧ av w w' := by
 have eZ := aa.mk fH
 have jN := aa.mk gL
 clear fH gL
 have H := h
 clear h
 unfold fL.f at H
 obtain ⟨t122, A2, H⟩ := eA H
 by_cases c3 : t122 = true
 rotate_left
 · replace c3 := Bool.eq_false_iff.mpr c3
   subst c3
   rw [if_neg (show ¬ (false = true) by decide)] at H
   obtain rfl := Option.some.inj H
   go_enter Tryz.func110, Tryz.ntmps110
   go_wp2_with (first | ((with_reducible refine gate_callee (f := 48) rfl ?_); refine dU (some 5) Tryz.func48 #[.int .i64 (l0.length : Int), .int .i64 1, .int .i64 20] ?_; (with_reducible refine (dG.calls (l0.length : Int) 1 20 false _ A2.out).mono ?_); rintro e w' ⟨rfl, ⟨nd, rfl⟩⟩; refine ⟨_, rfl, ?_⟩))
   go_ret
   exact ⟨by first | rfl | (simp; done) | (simp [*]; done), by repeat (first | exact av.refl _ | apply av.step)⟩
 subst c3
 rw [if_pos rfl] at H
 obtain ⟨t123, A4, H⟩ := eA H
 obtain rfl := Option.some.inj H
 go_enter Tryz.func110, Tryz.ntmps110
 go_wp2_with (first | ((with_reducible refine gate_callee (f := 48) rfl ?_); refine dU (some 5) Tryz.func48 #[.int .i64 (l0.length : Int), .int .i64 1, .int .i64 20] ?_; (with_reducible refine (dG.calls (l0.length : Int) 1 20 true _ A2.out).mono ?_); rintro e w' ⟨rfl, ⟨nd, rfl⟩⟩; refine ⟨_, rfl, ?_⟩) | (go_at_call 84; (with_reducible refine (a6.calls k _ _ l0 1 60 t123 _ ?ah ?aj A4.out).mono ?_); (case ah => exact kx (eZ.out)); (case aj => exact jN.out); rintro e w' ⟨rfl, ⟨nd, rfl⟩⟩))
 go_ret
 exact ⟨by first | rfl | (simp; done) | (simp [*]; done), by repeat (first | exact av.refl _ | apply av.step)⟩
def b4.f (k : Nat) (l0 : List Int) (a1 : Int) : Option (Bool) := (fL.f k l0).bind fun t124 => (if t124 = true then ((dG.f a1 0 1000000).bind fun t125 => (if t125 = true then (if 0 < (l0.length : Int) then ((ar.f k l0 (rd l0 0)).bind fun t127 => (if (rd l0 0) = 0 then (none) else (if 0 ≤ (Int.tmod a1 (rd l0 0)) then (if (Int.tmod a1 (rd l0 0)) < (t127.length : Int) then (if (rd t127 (Int.tmod a1 (rd l0 0))) ≥ 0 then (some (decide ((rd t127 (Int.tmod a1 (rd l0 0))) ≤ a1))) else (some false)) else (none)) else (none)))) else (none)) else (some false))) else (some false))
theorem b4.mono : ∀ a0 a1 k, bK (b4.f k a0 a1) (b4.f (k + 1) a0 a1) := by
 intro a0 a1 k
 unfold b4.f
 repeat' first
  | (with_reducible exact ar.mono _ _ _)
  | (with_reducible exact fL.mono _ _)
  | (with_reducible exact bK.refl _)
  | (with_reducible exact bK.none _)
  | (with_reducible refine bK.ite ?_ ?_)
  | (with_reducible refine bK.bind ?_ (fun _ => ?_))
  | exact bK.none _
  | refine bK.ite ?_ ?_
  | refine bK.bind ?_ (fun _ => ?_)
def b4.T3 : Bool × List (List Nat × List Nat) := (true, [([], []), ([], []), ([1], [1]), ([2], [2]), ([0, 3], [0, 3]), ([], []), ([], []), ([6], [6]), ([7], [7]), ([5, 8], [5, 8]), ([4, 9], [4, 9]), ([10], [10]), ([11, 4, 0, 1, 2, 3, 4, 5, 6, 7, 8, 9, 10, 11], [11])])
def b4.B3 : List Nat := [0, 0, 2, 6, 15, 0, 0, 64, 192, 480, 1023, 2047, 4095]
theorem b4.agv : gX .any (opsOf Tryz.f87 3) = b4.T3 := by kernel_rfl
theorem b4.XP : gm b4.T3.2 b4.B3 = true := by kernel_rfl
theorem b4.calls (k : Nat) (A0 : Option Addr) (c0 : Nat) (l0 : List Int) (a1 : Int) (r : Bool) (w : World) (fH : Kd.C (Kd.int .i64) w A0 l0.length l0) (gL : l0.length ≤ c0) (h : b4.f k l0 a1 = some r) :
 Calls Tryz.prog 87 #[.slice A0 l0.length c0, .int .i64 a1] w fun e w' => e = .returned (.bool r) ∧ Below w.heap.size w w' := by
 have eZ := aa.mk fH
 have jN := aa.mk gL
 clear fH gL
 have HB := aa.mk (Below.refl w.heap.size w)
 have H := h
 clear h
 unfold b4.f at H
 obtain ⟨t124, A3, H⟩ := eA H
 by_cases c4 : t124 = true
 rotate_left
 · replace c4 := Bool.eq_false_iff.mpr c4
   subst c4
   rw [if_neg (show ¬ (false = true) by decide)] at H
   obtain rfl := Option.some.inj H
   go_enter Tryz.func87, Tryz.ntmps87
   go_wp2_with (first | ((with_reducible refine gate_callee (f := 110) rfl ?_); refine dU (some 7) Tryz.func110 #[.slice A0 l0.length c0] ?_; (with_reducible refine (fL.calls k _ _ l0 false _ ?ah ?aj A3.out).mono ?_); (case ah => exact kx (eZ.out)); (case aj => exact jN.out); rintro e w' ⟨rfl, ⟨nd, rfl⟩⟩; refine ⟨_, rfl, ?_⟩))
   go_ret
   exact ⟨ig, gA HB.out⟩
 subst c4
 rw [if_pos rfl] at H
 obtain ⟨t125, A5, H⟩ := eA H
 by_cases c6 : t125 = true
 rotate_left
 · replace c6 := Bool.eq_false_iff.mpr c6
   subst c6
   rw [if_neg (show ¬ (false = true) by decide)] at H
   obtain rfl := Option.some.inj H
   go_enter Tryz.func87, Tryz.ntmps87
   go_wp2_with (first | ((with_reducible refine gate_callee (f := 110) rfl ?_); refine dU (some 7) Tryz.func110 #[.slice A0 l0.length c0] ?_; (with_reducible refine (fL.calls k _ _ l0 true _ ?ah ?aj A3.out).mono ?_); (case ah => exact kx (eZ.out)); (case aj => exact jN.out); rintro e w' ⟨rfl, ⟨nd, rfl⟩⟩; refine ⟨_, rfl, ?_⟩) | (go_at_call 48; (with_reducible refine (dG.calls a1 0 1000000 false _ A5.out).mono ?_); rintro e w' ⟨rfl, ⟨nd, rfl⟩⟩))
   go_ret
   exact ⟨ig, gA HB.out⟩
 subst c6
 rw [if_pos rfl] at H
 obtain ⟨c7, H⟩ := kG H
 have oO : decide (0 < (l0.length : Int)) = true := decide_eq_true c7
 have xB : decide (0 < l0.length) = true := decide_eq_true (by omega)
 clear c7
 obtain ⟨t127, A8, H⟩ := eA H
 obtain ⟨c9, H⟩ := in_ H
 have uo : ((rd l0 0) == 0) = false := beq_eq_false_iff_ne.mpr c9
 have agw : ((rd l0 0) != 0) = true := bne_iff_ne.mpr c9
 obtain ⟨rG, yV⟩ : ∃ j_ : Int, (Int.tmod a1 (rd l0 0)) = j_ := ⟨_, rfl⟩
 replace H : (if 0 ≤ (rG) then (if (rG) < (t127.length : Int) then (if (rd t127 (rG)) ≥ 0 then (some (decide ((rd t127 (rG)) ≤ a1))) else (some false)) else (none)) else (none)) = some r := by first | (rw [yV] at H; exact H) | (simp only [yV] at H ⊢; exact H)
 (try rw [yV] at A3)
 (try rw [yV] at A5)
 (try rw [yV] at A8)
 obtain ⟨yW, H⟩ := dB H
 obtain ⟨o6, H⟩ := dB H
 by_cases mY : (rd t127 (rG)) ≥ 0
 rotate_left
 · rw [if_neg mY] at H
   have lS : decide (0 ≤ (rd t127 (rG))) = false := decide_eq_false mY
   clear mY
   obtain rfl := Option.some.inj H
   go_enter Tryz.func87, Tryz.ntmps87
   try go_wp2_with (first | ((with_reducible refine gate_callee (f := 110) rfl ?_); refine dU (some 7) Tryz.func110 #[.slice A0 l0.length c0] ?_; (with_reducible refine (fL.calls k _ _ l0 true _ ?ah ?aj A3.out).mono ?_); (case ah => exact kx (eZ.out)); (case aj => exact jN.out); rintro e w' ⟨rfl, ⟨nd, rfl⟩⟩; refine ⟨_, rfl, ?_⟩) | (go_at_call 48; (with_reducible refine (dG.calls a1 0 1000000 true _ A5.out).mono ?_); rintro e w' ⟨rfl, ⟨nd, rfl⟩⟩))
   replace HB := aa.mk (bD HB.out)
   have GS : 0 ≤ (0 : Int) := (by omega)
   have GU : 0 < (l0.length : Int) := bO
   obtain ⟨p3, Us, js⟩ := Kd.aZ eZ.out 0 GS GU
   have gM := js
   (try rw [show ((0 : Int)).toNat = 0 from rfl] at gM)
   (try rw [show 0 * 1 = 0 from rfl] at gM)
   (try rw [Addr.add_zero'] at gM)
   cases Us
   have agx : (0 < l0.length) = True := eq_true (by omega)
   (try rw [show ((0 : Int)).toNat = 0 from rfl] at js)
   (try rw [Addr.add_zero'] at js)
   (try replace js := (HB.out.cell (World.block_lt_of_cell? w _ js)).trans js)
   replace GS := eq_true GS
   replace GU := eq_true GU
   have GV : 0 ≤ (0 : Int) := (by omega)
   have GW : 0 < (l0.length : Int) := bO
   obtain ⟨N7, aa8, jt⟩ := Kd.aZ eZ.out 0 GV GW
   have gN := jt
   (try rw [show ((0 : Int)).toNat = 0 from rfl] at gN)
   (try rw [show 0 * 1 = 0 from rfl] at gN)
   (try rw [Addr.add_zero'] at gN)
   obtain rfl : p3 = N7 := (by injection aa8)
   have agy : (0 < l0.length) = True := eq_true (by omega)
   (try rw [show ((0 : Int)).toNat = 0 from rfl] at jt)
   (try rw [Addr.add_zero'] at jt)
   (try replace jt := (HB.out.cell (World.block_lt_of_cell? w _ jt)).trans jt)
   replace GV := eq_true GV
   replace GW := eq_true GW
   refine fy (n := 13) (S := fun w' => w'.cell? p3 = some (.int .i64 (rd l0 0)) ∧ w'.cell? p3 = some (.int .i64 (rd l0 0)) ∧ True) (ds := []) (B_ 0 13) (by kernel_rfl) rfl rfl ⟨((HB.out.cell (World.block_lt_of_cell? w _ gM)).trans gM), ((HB.out.cell (World.block_lt_of_cell? w _ gN)).trans gN), trivial⟩ (fun hHeld => ?_); refine dv b4.agv b4.XP (fun HT_ HW_ => ?_)
   (first | (generalize hq_ : World.drew (World.drewN w _) = LN at hHeld ⊢; have HBq_ : aa (Below w.heap.size w LN) := ⟨hq_ ▸ (bD (gr (Below.refl w.heap.size w) _))⟩; clear hq_ HB; have HB := HBq_; clear HBq_; replace js := (HB.out.cell (World.block_lt_of_cell? w _ gM)).trans gM; replace jt := (HB.out.cell (World.block_lt_of_cell? w _ gN)).trans gN) | (generalize w.drew = LN at HB js jt hHeld ⊢))
   refine b5 HT_ 0 14 (B_ 1 13) ?_
   refine b5 HT_ 1 15 (B_ 3 13) ?_
   refine b5 HT_ 2 16 (B_ 7 13) ?_
   refine b5 HT_ 5 19 (B_ 39 13) ?_
   refine b5 HT_ 6 20 (B_ 103 13) ?_
   refine b5 HT_ 7 21 (B_ 231 13) ?_
   refine xy HT_ HW_ hHeld 3 17 (B_ 239 13) ?_
   refine xy HT_ HW_ hHeld 8 22 (B_ 495 13) ?_
   refine b5 HT_ 9 23 (B_ 1007 13) ?_
   refine o2 HT_ 4 18 (B_ 1023 13) (fun K hK => ?_)
   refine gu Tryz.func88 (by kernel_rfl) rfl #[.slice (some p3) l0.length c0, .int .i64 (rd l0 0)] (by rfl) rfl rfl (by (try simp only [List.map_toArray, List.map_cons, List.map_nil]); first | done | rfl | (simp only [List.length_drop, List.length_take]; rfl)) ?_
   with_reducible refine (ar.calls k _ _ l0 (rd l0 0) t127 _ ?ah ?aj A8.out).mono ?_
   (case ah => exact iZ eZ HB)
   (case aj => exact jN.out)
   rintro e Ut ⟨aa9, rfl, b0, hb⟩
   refine ⟨_, rfl, ?_⟩
   have Eh := aa.mk (Kd.aW b0 (ag (gA HB.out)))
   replace HB := jL HB hb
   (try clear hb)
   (try clear b0)
   obtain ⟨eT, eI, LR⟩ := Kd.aN Eh.out
   (first | subst LR | (injection LR with ox tM oy; have tN := ox.symm; have tO := oy.symm; clear ox tM oy; subst tN; subst tO))
   have GX : 0 ≤ ((rG) : Int) := bO
   have GY : (rG) < (t127.length : Int) := bO
   obtain ⟨N8, aa_, CA⟩ := Kd.aZ (Kd.ao Eh.out).2.2 (rG) GX GY
   cases aa_
   replace GX := eq_true GX
   replace GY := eq_true GY
   refine hK.out _ _ ⟨((HB.out.cell (World.block_lt_of_cell? w _ gM)).trans gM), ((HB.out.cell (World.block_lt_of_cell? w _ gN)).trans gN), trivial⟩ (fun _ => ?_); refine rC (S' := fun w' => w'.cell? p3 = some (.int .i64 (rd l0 0)) ∧ w'.cell? p3 = some (.int .i64 (rd l0 0)) ∧ w'.cell? (N8.add ((rG)).toNat) = some (.int .i64 (rd t127 (rG)))) (fun _ h => ⟨h.1, h.2.1, trivial⟩) ⟨((HB.out.cell (World.block_lt_of_cell? w _ gM)).trans gM), ((HB.out.cell (World.block_lt_of_cell? w _ gN)).trans gN), CA⟩ (fun hHeld => ?_)
   clear hK K
   refine ep (a' := ?_) ?_ ?_
   rotate_left
   · show Act.put _ (some 18) _ = _
     simp only [Act.put, jK, jA, jB, b6, dw]
     rfl
   refine b5 HT_ 10 24 (B_ 2047 13) ?_
   refine xy HT_ HW_ hHeld 11 25 (B_ 4095 13) ?_
   refine b5 HT_ 12 5 (B_ 8191 13) ?_
   refine ik (eS HT_.out (by kernel_rfl)) ?_
   try go_wp2
   go_ret
   exact ⟨by first | rfl | (simp [cD, cF] <;> rfl) | (simp only [← yV]; first | rfl | (simp [cD, cF] <;> rfl)) | (simp [*, cD, cF] <;> rfl), gA HB.out⟩
 rw [if_pos mY] at H
 have lS : decide (0 ≤ (rd t127 (rG))) = true := decide_eq_true mY
 clear mY
 obtain rfl := Option.some.inj H
 go_enter Tryz.func87, Tryz.ntmps87
 try go_wp2_with (first | ((with_reducible refine gate_callee (f := 110) rfl ?_); refine dU (some 7) Tryz.func110 #[.slice A0 l0.length c0] ?_; (with_reducible refine (fL.calls k _ _ l0 true _ ?ah ?aj A3.out).mono ?_); (case ah => exact kx (eZ.out)); (case aj => exact jN.out); rintro e w' ⟨rfl, ⟨nd, rfl⟩⟩; refine ⟨_, rfl, ?_⟩) | (go_at_call 48; (with_reducible refine (dG.calls a1 0 1000000 true _ A5.out).mono ?_); rintro e w' ⟨rfl, ⟨nd, rfl⟩⟩))
 replace HB := aa.mk (bD HB.out)
 have GS : 0 ≤ (0 : Int) := (by omega)
 have GU : 0 < (l0.length : Int) := bO
 obtain ⟨p3, Us, js⟩ := Kd.aZ eZ.out 0 GS GU
 have gM := js
 (try rw [show ((0 : Int)).toNat = 0 from rfl] at gM)
 (try rw [show 0 * 1 = 0 from rfl] at gM)
 (try rw [Addr.add_zero'] at gM)
 cases Us
 have agx : (0 < l0.length) = True := eq_true (by omega)
 (try rw [show ((0 : Int)).toNat = 0 from rfl] at js)
 (try rw [Addr.add_zero'] at js)
 (try replace js := (HB.out.cell (World.block_lt_of_cell? w _ js)).trans js)
 replace GS := eq_true GS
 replace GU := eq_true GU
 have GV : 0 ≤ (0 : Int) := (by omega)
 have GW : 0 < (l0.length : Int) := bO
 obtain ⟨N7, aa8, jt⟩ := Kd.aZ eZ.out 0 GV GW
 have gN := jt
 (try rw [show ((0 : Int)).toNat = 0 from rfl] at gN)
 (try rw [show 0 * 1 = 0 from rfl] at gN)
 (try rw [Addr.add_zero'] at gN)
 obtain rfl : p3 = N7 := (by injection aa8)
 have agy : (0 < l0.length) = True := eq_true (by omega)
 (try rw [show ((0 : Int)).toNat = 0 from rfl] at jt)
 (try rw [Addr.add_zero'] at jt)
 (try replace jt := (HB.out.cell (World.block_lt_of_cell? w _ jt)).trans jt)
 replace GV := eq_true GV
 replace GW := eq_true GW
 refine fy (n := 13) (S := fun w' => w'.cell? p3 = some (.int .i64 (rd l0 0)) ∧ w'.cell? p3 = some (.int .i64 (rd l0 0)) ∧ True) (ds := []) (B_ 0 13) (by kernel_rfl) rfl rfl ⟨((HB.out.cell (World.block_lt_of_cell? w _ gM)).trans gM), ((HB.out.cell (World.block_lt_of_cell? w _ gN)).trans gN), trivial⟩ (fun hHeld => ?_); refine dv b4.agv b4.XP (fun HT_ HW_ => ?_)
 (first | (generalize hq_ : World.drew (World.drewN w _) = TI at hHeld ⊢; have HBq_ : aa (Below w.heap.size w TI) := ⟨hq_ ▸ (bD (gr (Below.refl w.heap.size w) _))⟩; clear hq_ HB; have HB := HBq_; clear HBq_; replace js := (HB.out.cell (World.block_lt_of_cell? w _ gM)).trans gM; replace jt := (HB.out.cell (World.block_lt_of_cell? w _ gN)).trans gN) | (generalize w.drew = TI at HB js jt hHeld ⊢))
 refine b5 HT_ 0 14 (B_ 1 13) ?_
 refine b5 HT_ 1 15 (B_ 3 13) ?_
 refine b5 HT_ 2 16 (B_ 7 13) ?_
 refine b5 HT_ 5 19 (B_ 39 13) ?_
 refine b5 HT_ 6 20 (B_ 103 13) ?_
 refine b5 HT_ 7 21 (B_ 231 13) ?_
 refine xy HT_ HW_ hHeld 3 17 (B_ 239 13) ?_
 refine xy HT_ HW_ hHeld 8 22 (B_ 495 13) ?_
 refine b5 HT_ 9 23 (B_ 1007 13) ?_
 refine o2 HT_ 4 18 (B_ 1023 13) (fun K hK => ?_)
 refine gu Tryz.func88 (by kernel_rfl) rfl #[.slice (some p3) l0.length c0, .int .i64 (rd l0 0)] (by rfl) rfl rfl (by (try simp only [List.map_toArray, List.map_cons, List.map_nil]); first | done | rfl | (simp only [List.length_drop, List.length_take]; rfl)) ?_
 with_reducible refine (ar.calls k _ _ l0 (rd l0 0) t127 _ ?ah ?aj A8.out).mono ?_
 (case ah => exact iZ eZ HB)
 (case aj => exact jN.out)
 rintro e LS ⟨aa9, rfl, b0, hb⟩
 refine ⟨_, rfl, ?_⟩
 have Eh := aa.mk (Kd.aW b0 (ag (gA HB.out)))
 replace HB := jL HB hb
 (try clear hb)
 (try clear b0)
 obtain ⟨aba, ur, AT⟩ := Kd.aN Eh.out
 (first | subst AT | (injection AT with ox tM oy; have tN := ox.symm; have tO := oy.symm; clear ox tM oy; subst tN; subst tO))
 have GX : 0 ≤ ((rG) : Int) := bO
 have GY : (rG) < (t127.length : Int) := bO
 obtain ⟨N8, aa_, CA⟩ := Kd.aZ (Kd.ao Eh.out).2.2 (rG) GX GY
 cases aa_
 replace GX := eq_true GX
 replace GY := eq_true GY
 refine hK.out _ _ ⟨((HB.out.cell (World.block_lt_of_cell? w _ gM)).trans gM), ((HB.out.cell (World.block_lt_of_cell? w _ gN)).trans gN), trivial⟩ (fun _ => ?_); refine rC (S' := fun w' => w'.cell? p3 = some (.int .i64 (rd l0 0)) ∧ w'.cell? p3 = some (.int .i64 (rd l0 0)) ∧ w'.cell? (N8.add ((rG)).toNat) = some (.int .i64 (rd t127 (rG)))) (fun _ h => ⟨h.1, h.2.1, trivial⟩) ⟨((HB.out.cell (World.block_lt_of_cell? w _ gM)).trans gM), ((HB.out.cell (World.block_lt_of_cell? w _ gN)).trans gN), CA⟩ (fun hHeld => ?_)
 clear hK K
 refine ep (a' := ?_) ?_ ?_
 rotate_left
 · show Act.put _ (some 18) _ = _
   simp only [Act.put, jK, jA, jB, b6, dw]
   rfl
 refine b5 HT_ 10 24 (B_ 2047 13) ?_
 refine xy HT_ HW_ hHeld 11 25 (B_ 4095 13) ?_
 refine b5 HT_ 12 5 (B_ 8191 13) ?_
 refine ik (eS HT_.out (by kernel_rfl)) ?_
 try go_wp2
 go_ret
 exact ⟨by first | rfl | (simp [cD, cF] <;> rfl) | (simp only [← yV]; first | rfl | (simp [cD, cF] <;> rfl)) | (simp [*, cD, cF] <;> rfl), gA HB.out⟩
mutual
def ak.j0 : Nat → List Int → Bool → Option (Bool)
 | 0, _, _ => none
 | k + 1, x3, x27 => if x27 = true then (some false) else (ak.l0 k x3 1)
def ak.l0 : Nat → List Int → Int → Option (Bool)
 | 0, _, _ => none
 | k + 1, x3, x4 => if x4 < (x3.length : Int) then (if 0 ≤ x4 then (if x4 ≤ (x3.length : Int) then ((b4.f k (x3.take (x4 : Int).toNat) (rd x3 x4)).bind fun t139 => (if t139 = true then (some false) else (ak.l0 k x3 (wrap64 (x4 + 1))))) else (none)) else (none)) else (if 0 < (x3.length : Int) then ((ar.f k x3 (rd x3 0)).bind fun t141 => (ak.l1 k x3 t141 (t141.length : Int) 0)) else (none))
def ak.l1 : Nat → List Int → List Int → Int → Int → Option (Bool)
 | 0, _, _, _, _ => none
 | k + 1, x3, x46, x47, x48 => if x48 < x47 then (if 0 ≤ x48 then (if x48 < (x46.length : Int) then (if 0 < (x3.length : Int) then (if (wrap64 ((rd x46 x48) - (rd x3 0))) ≥ 200 then (some false) else (ak.l1 k x3 x46 x47 (wrap64 (x48 + 1)))) else (none)) else (none)) else (none)) else (some true)
end
def ak.f (k : Nat) (an : List Int) : Option (Bool) := (dG.f (an.length : Int) 1 12).bind fun t133 => (if t133 = true then ((a6.f k an 1 60).bind fun t134 => (if t134 = true then ((bb.f k an).bind fun t135 => (if t135 = true then ((bI.f k an).bind fun t136 => (ak.j0 k an (t136 != 1))) else (ak.j0 k an true))) else (ak.j0 k an true))) else (ak.j0 k an true))
theorem ak.er : ∀ k, (∀ y0 y1, bK (ak.j0 k y0 y1) (ak.j0 (k + 1) y0 y1)) ∧ (∀ y0 y1, bK (ak.l0 k y0 y1) (ak.l0 (k + 1) y0 y1)) ∧ (∀ y0 y1 y2 y3, bK (ak.l1 k y0 y1 y2 y3) (ak.l1 (k + 1) y0 y1 y2 y3))
 | 0 => ⟨fun _ _ r h => by simp [ak.j0] at h, fun _ _ r h => by simp [ak.l0] at h, fun _ _ _ _ r h => by simp [ak.l1] at h⟩
 | k + 1 => by
  obtain ⟨ia, oP, AS⟩ := ak.er k
  refine ⟨?_, ?_, ?_⟩
  · intro y0 y1
    unfold ak.j0
    repeat' first
    | (with_reducible exact ia _ _)
    | (with_reducible exact oP _ _)
    | (with_reducible exact AS _ _ _ _)
    | (with_reducible exact bI.mono _ _)
    | (with_reducible exact b4.mono _ _ _)
    | (with_reducible exact bb.mono _ _)
    | (with_reducible exact a6.mono _ _ _ _)
    | (with_reducible exact ar.mono _ _ _)
    | (with_reducible exact bK.refl _)
    | (with_reducible exact bK.none _)
    | (with_reducible refine bK.ite ?_ ?_)
    | (with_reducible refine bK.bind ?_ (fun _ => ?_))
    | exact ia _ _
    | exact oP _ _
    | exact AS _ _ _ _
    | exact bK.none _
    | refine bK.ite ?_ ?_
    | refine bK.bind ?_ (fun _ => ?_)
  · intro y0 y1
    unfold ak.l0
    repeat' first
    | (with_reducible exact ia _ _)
    | (with_reducible exact oP _ _)
    | (with_reducible exact AS _ _ _ _)
    | (with_reducible exact bI.mono _ _)
    | (with_reducible exact b4.mono _ _ _)
    | (with_reducible exact bb.mono _ _)
    | (with_reducible exact a6.mono _ _ _ _)
    | (with_reducible exact ar.mono _ _ _)
    | (with_reducible exact bK.refl _)
    | (with_reducible exact bK.none _)
    | (with_reducible refine bK.ite ?_ ?_)
    | (with_reducible refine bK.bind ?_ (fun _ => ?_))
    | exact ia _ _
    | exact oP _ _
    | exact AS _ _ _ _
    | exact bK.none _
    | refine bK.ite ?_ ?_
    | refine bK.bind ?_ (fun _ => ?_)
  · intro y0 y1 y2 y3
    unfold ak.l1
    repeat' first
    | (with_reducible exact ia _ _)
    | (with_reducible exact oP _ _)
    | (with_reducible exact AS _ _ _ _)
    | (with_reducible exact bI.mono _ _)
    | (with_reducible exact b4.mono _ _ _)
    | (with_reducible exact bb.mono _ _)
    | (with_reducible exact a6.mono _ _ _ _)
    | (with_reducible exact ar.mono _ _ _)
    | (with_reducible exact bK.refl _)
    | (with_reducible exact bK.none _)
    | (with_reducible refine bK.ite ?_ ?_)
    | (with_reducible refine bK.bind ?_ (fun _ => ?_))
    | exact ia _ _
    | exact oP _ _
    | exact AS _ _ _ _
    | exact bK.none _
    | refine bK.ite ?_ ?_
    | refine bK.bind ?_ (fun _ => ?_)
theorem ak.mono : ∀ a0 k, bK (ak.f k a0) (ak.f (k + 1) a0) := by
 intro a0 k
 obtain ⟨ia, oP, AS⟩ := ak.er k
 unfold ak.f
 repeat' first
  | (with_reducible exact ia _ _)
  | (with_reducible exact oP _ _)
  | (with_reducible exact AS _ _ _ _)
  | (with_reducible exact bI.mono _ _)
  | (with_reducible exact b4.mono _ _ _)
  | (with_reducible exact bb.mono _ _)
  | (with_reducible exact a6.mono _ _ _ _)
  | (with_reducible exact ar.mono _ _ _)
  | (with_reducible exact bK.refl _)
  | (with_reducible exact bK.none _)
  | (with_reducible refine bK.ite ?_ ?_)
  | (with_reducible refine bK.bind ?_ (fun _ => ?_))
  | exact ia _ _
  | exact oP _ _
  | exact AS _ _ _ _
  | exact bK.none _
  | refine bK.ite ?_ ?_
  | refine bK.bind ?_ (fun _ => ?_)
def ak.T7 : Bool × List (List Nat × List Nat) := (true, [([], []), ([], []), ([0, 1], [0, 1]), ([], []), ([], []), ([3, 4], [3, 4]), ([5], [5]), ([2, 6], [2, 6])])
def ak.B7 : List Nat := [0, 0, 3, 0, 0, 24, 56, 127]
theorem ak.agA : gX .any (opsOf Tryz.f42 7) = ak.T7 := by kernel_rfl
theorem ak.XQ : gm ak.T7.2 ak.B7 = true := by kernel_rfl
theorem ak.calls (k : Nat) (bF : Option Addr) (bl : Nat) (an : List Int) (r : Bool) (w : World) (eB : Kd.C (Kd.int .i64) w bF an.length an) (eC : an.length ≤ bl) (h : ak.f k an = some r) :
 Calls Tryz.prog 42 #[.agg #[.slice bF an.length bl]] w fun e w' => e = .returned (.bool r) ∧ Below w.heap.size w w' := by
 have kJ := Tryz.underlying26
 have bV := aa.mk eB
 have cH := aa.mk eC
 clear eB eC
 have HB := aa.mk (Below.refl w.heap.size w)
 have H := h
 clear h
 unfold ak.f at H
 have N9 := aa.mk H
 clear H
 go_enter Tryz.func42, Tryz.ntmps42
 go_upto_region 2 with (first | ((with_reducible refine gate_dst (N := 1) rfl ?_); refine iP 1 #[.slice bF an.length bl] 26 ?_; intro N_ hg w3 hbox hb; have jR := aa.mk (hbox); have ave := ij hg HB; have avf := ij hg HB; replace HB := jL HB hb; clear hb hbox hg; have Oa := fG jR; have abb := af jR.out 0))
 (try simp only [Act.put, jK, jA, jB])
 go_cut [27] (fun v27 wc => ∃ (kq : Nat) (Jq : Bool), v27 = .bool Jq ∧ aa (ak.j0 kq an Jq = some r) ∧ aa (kq ≤ k) ∧ aa (wc.heap[N_]? = some (.cells #[(.slice bF an.length bl)] 26 (0, 0))) ∧ aa (Below w.heap.size w wc))
 case first =>
  have H := N9.out
  clear N9
  obtain ⟨t133, A5, H⟩ := eA H
  by_cases c6 : t133 = true
  rotate_left
  · replace c6 := Bool.eq_false_iff.mpr c6
    subst c6
    rw [if_neg (show ¬ (false = true) by decide)] at H
    have H' := aa.mk H
    clear H
    go_wp2_with (first | ((with_reducible refine gate_callee (f := 48) rfl ?_); refine dU (some 11) Tryz.func48 #[.int .i64 (an.length : Int), .int .i64 1, .int .i64 12] ?_; (with_reducible refine (dG.calls (an.length : Int) 1 12 false _ A5.out).mono ?_); rintro e w' ⟨rfl, ⟨nd, rfl⟩⟩; refine ⟨_, rfl, ?_⟩))
    go_meet
    case rel => exact ⟨_, (true), eF, H', ⟨by first | omega | exact Nat.le_refl _⟩, ⟨cC jR.out⟩, ⟨bC HB⟩⟩
  subst c6
  rw [if_pos rfl] at H
  obtain ⟨t134, A7, H⟩ := eA H
  by_cases c8 : t134 = true
  rotate_left
  · replace c8 := Bool.eq_false_iff.mpr c8
    subst c8
    rw [if_neg (show ¬ (false = true) by decide)] at H
    have H' := aa.mk H
    clear H
    go_wp2_with (first | ((with_reducible refine gate_callee (f := 48) rfl ?_); refine dU (some 11) Tryz.func48 #[.int .i64 (an.length : Int), .int .i64 1, .int .i64 12] ?_; (with_reducible refine (dG.calls (an.length : Int) 1 12 true _ A5.out).mono ?_); rintro e w' ⟨rfl, ⟨nd, rfl⟩⟩; refine ⟨_, rfl, ?_⟩) | (go_at_call 84; (with_reducible refine (a6.calls k _ _ an 1 60 false _ ?ah ?aj A7.out).mono ?_); (case ah => repeat (first | exact (Kd.dx bV.out (bC HB)) | (with_reducible refine Kd.cz ?_ _) | (with_reducible refine Kd.cA ?_ _) | (with_reducible refine Kd.di ?_))); (case aj => exact cH.out); rintro e w' ⟨rfl, ⟨nd, rfl⟩⟩))
    go_meet
    case rel => exact ⟨_, (true), eF, H', ⟨by first | omega | exact Nat.le_refl _⟩, ⟨cC jR.out⟩, ⟨bC HB⟩⟩
  subst c8
  rw [if_pos rfl] at H
  obtain ⟨t135, A9, H⟩ := eA H
  by_cases rh : t135 = true
  rotate_left
  · replace rh := Bool.eq_false_iff.mpr rh
    subst rh
    rw [if_neg (show ¬ (false = true) by decide)] at H
    have H' := aa.mk H
    clear H
    go_wp2_with (first | ((with_reducible refine gate_callee (f := 48) rfl ?_); refine dU (some 11) Tryz.func48 #[.int .i64 (an.length : Int), .int .i64 1, .int .i64 12] ?_; (with_reducible refine (dG.calls (an.length : Int) 1 12 true _ A5.out).mono ?_); rintro e w' ⟨rfl, ⟨nd, rfl⟩⟩; refine ⟨_, rfl, ?_⟩) | (go_at_call 84; (with_reducible refine (a6.calls k _ _ an 1 60 true _ ?ah ?aj A7.out).mono ?_); (case ah => repeat (first | exact (Kd.dx bV.out (bC HB)) | (with_reducible refine Kd.cz ?_ _) | (with_reducible refine Kd.cA ?_ _) | (with_reducible refine Kd.di ?_))); (case aj => exact cH.out); rintro e w' ⟨rfl, ⟨nd, rfl⟩⟩) | (go_at_call 85; (with_reducible refine (bb.calls k _ _ an false _ ?ah ?aj A9.out).mono ?_); (case ah => repeat (first | exact (Kd.dx bV.out (bC HB)) | (with_reducible refine Kd.cz ?_ _) | (with_reducible refine Kd.cA ?_ _) | (with_reducible refine Kd.di ?_))); (case aj => exact cH.out); rintro e w' ⟨rfl, ⟨nd, rfl⟩⟩))
    go_meet
    case rel => exact ⟨_, (true), eF, H', ⟨by first | omega | exact Nat.le_refl _⟩, ⟨cC jR.out⟩, ⟨bC HB⟩⟩
  subst rh
  rw [if_pos rfl] at H
  obtain ⟨t136, A11, H⟩ := eA H
  have H' := aa.mk H
  clear H
  go_wp2_with (first | ((with_reducible refine gate_callee (f := 48) rfl ?_); refine dU (some 11) Tryz.func48 #[.int .i64 (an.length : Int), .int .i64 1, .int .i64 12] ?_; (with_reducible refine (dG.calls (an.length : Int) 1 12 true _ A5.out).mono ?_); rintro e w' ⟨rfl, ⟨nd, rfl⟩⟩; refine ⟨_, rfl, ?_⟩) | (go_at_call 84; (with_reducible refine (a6.calls k _ _ an 1 60 true _ ?ah ?aj A7.out).mono ?_); (case ah => repeat (first | exact (Kd.dx bV.out (bC HB)) | (with_reducible refine Kd.cz ?_ _) | (with_reducible refine Kd.cA ?_ _) | (with_reducible refine Kd.di ?_))); (case aj => exact cH.out); rintro e w' ⟨rfl, ⟨nd, rfl⟩⟩) | (go_at_call 85; (with_reducible refine (bb.calls k _ _ an true _ ?ah ?aj A9.out).mono ?_); (case ah => repeat (first | exact (Kd.dx bV.out (bC HB)) | (with_reducible refine Kd.cz ?_ _) | (with_reducible refine Kd.cA ?_ _) | (with_reducible refine Kd.di ?_))); (case aj => exact cH.out); rintro e w' ⟨rfl, ⟨nd, rfl⟩⟩) | (go_at_call 86; (with_reducible refine (bI.calls k _ _ an t136 _ ?ah ?aj A11.out).mono ?_); (case ah => repeat (first | exact (Kd.dx bV.out (bC HB)) | (with_reducible refine Kd.cz ?_ _) | (with_reducible refine Kd.cA ?_ _) | (with_reducible refine Kd.di ?_))); (case aj => exact cH.out); rintro e w12 ⟨rfl, hb⟩; replace jR := cn jR hb; replace HB := eM HB hb; (try clear hb)))
  go_meet
  case rel => exact ⟨_, ((t136 != 1)), eF, H', ⟨by first | omega | exact Nat.le_refl _⟩, ⟨cC jR.out⟩, ⟨bC HB⟩⟩
 case rest =>
  clear N9
  try clear Oa
  try clear abb
  obtain ⟨kq, Jq, rfl, HA, wL, jR, HB⟩ := hcut
  cases kq with
  | zero => exact absurd HA.out (by simp [ak.j0])
  | succ Nb =>
   have H := HA.out
   clear HA
   simp only [ak.j0] at H
   by_cases mY : Jq = true
   · subst mY
     rw [if_pos rfl] at H
     obtain rfl := Option.some.inj H
     go_wp2
     go_ret
     exact ⟨ig, bC HB⟩
   replace mY := Bool.eq_false_iff.mpr mY
   subst mY
   rw [if_neg (show ¬ (false = true) by decide)] at H
   have H' := aa.mk H
   clear H
   go_wp2
   go_loopg [4] Nb (fun kq v4 w' => ∃ (eN : Int), v4 = .int .i64 eN ∧ aa (ak.l0 kq an eN = some r) ∧ aa (kq ≤ Nb) ∧ aa (w'.heap[N_]? = some (.cells #[(.slice bF an.length bl)] 26 (0, 0))) ∧ aa (Below w.heap.size w w'))
   case atStart => exact ⟨(1), eF, H', ⟨Nat.le_refl _⟩, ⟨cC jR.out⟩, ⟨bC HB⟩⟩
   case round =>
    clear H'
    obtain ⟨eN, rfl, HA, jo, jR, HB⟩ := hrel
    cases gk with
    | zero => exact absurd HA.out (by simp [ak.l0])
    | succ k2 =>
     have H := HA.out
     clear HA
     simp only [ak.l0] at H
     by_cases mG : eN < (an.length : Int)
     · rw [if_pos mG] at H
       have jQ : decide (eN < (an.length : Int)) = true := decide_eq_true mG
       clear mG
       obtain ⟨AU, H⟩ := kG H
       have rH := eq_true AU
       have Ob : decide (0 ≤ eN) = true := decide_eq_true AU
       clear AU
       obtain ⟨rI, H⟩ := kG H
       have yX := eq_true rI
       have agB : decide (eN ≤ (an.length : Int)) = true := decide_eq_true rI
       clear rI
       obtain ⟨t139, A17, H⟩ := eA H
       by_cases vN : t139 = true
       · subst vN
         rw [if_pos rfl] at H
         obtain rfl := Option.some.inj H
         try go_wp2
         replace jR := aa.mk (bg jR.out)
         replace HB := aa.mk (bD HB.out)
         obtain ⟨azs, XR, _, XS, _⟩ := info_parts iS
         obtain ⟨apY, agD, agE⟩ := tk (P := Tryz.prog) (Value.int .i64) 0 24 3 .i64 Tryz.underlying24 XR XS bF bl an eN (bO) (bO) cH.out
         have Ei := aa.mk (Kd.tG (h1 := fun _ => rfl) (agD _ (Kd.qA bV.out)))
         have Oc := aa.mk agE
         clear agD agE XR XS
         have yY : 0 ≤ (eN : Int) := bO
         have yZ : eN < (an.length : Int) := bO
         obtain ⟨Ej, abe, lT⟩ := Kd.aZ bV.out eN yY yZ
         have kK := lT
         cases abe
         (try replace lT := (HB.out.cell (World.block_lt_of_cell? w _ lT)).trans lT)
         replace yY := eq_true yY
         replace yZ := eq_true yZ
         refine fy (n := 8) (S := fun w' => w'.cell? (Ej.add (eN).toNat) = some (.int .i64 (rd an eN))) (ds := []) (B_ 0 8) (by kernel_rfl) rfl rfl (by first | exact kK | exact (HB.out.cell (World.block_lt_of_cell? w _ kK)).trans kK | (obtain ⟨_, e_, h_⟩ := Kd.aZ bV.out eN (of_eq_true yY) (of_eq_true yZ); cases e_; exact h_)) (fun hHeld => ?_); refine dv ak.agA ak.XQ (fun HT_ HW_ => ?_)
         generalize wr.drew = TJ at jR HB Ei lT hHeld ⊢
         refine b5 HT_ 0 34 (B_ 1 8) ?_
         refine b5 HT_ 1 35 (B_ 3 8) ?_
         refine b5 HT_ 2 36 (B_ 7 8) ?_
         refine b5 HT_ 3 37 (B_ 15 8) ?_
         refine b5 HT_ 4 38 (B_ 31 8) ?_
         refine b5 HT_ 5 39 (B_ 63 8) ?_
         refine lL HT_ HW_ hHeld 6 40 (B_ 127 8) ?_
         refine o2 HT_ 7 41 (B_ 255 8) (fun K hK => ?_)
         refine gu Tryz.func87 (by kernel_rfl) rfl #[.slice (some Ej) (an.take (eN : Int).toNat).length bl, .int .i64 (rd an eN)] (by rfl) rfl rfl (by (try simp only [List.map_toArray, List.map_cons, List.map_nil]); first | done | (rw [show (an.take (eN : Int).toNat).length = eN.toNat from (by rw [List.length_take]; have h_ : (eN : Int) ≤ (an.length : Int) := bO; omega)] <;> rfl) | rfl | (simp only [List.length_drop, List.length_take]; rfl)) ?_
         with_reducible refine (b4.calls k2 _ _ (an.take (eN : Int).toNat) (rd an eN) true _ ?ah ?aj A17.out).mono ?_
         (case ah => exact iZ Ei HB)
         (case aj => exact Oc.out)
         rintro e TK ⟨rfl, hb⟩
         refine ⟨_, rfl, ?_⟩
         replace jR := cn jR hb
         replace HB := eM HB hb
         (try clear hb)
         refine hK.out _ _ (by first | exact kK | exact (HB.out.cell (World.block_lt_of_cell? w _ kK)).trans kK | (obtain ⟨_, e_, h_⟩ := Kd.aZ bV.out eN (of_eq_true yY) (of_eq_true yZ); cases e_; exact h_)) (fun hHeld => ?_)
         clear hK K
         refine ep (a' := ?_) ?_ ?_
         rotate_left
         · show Act.put _ (some 41) _ = _
           simp only [Act.put, jK, jA, jB, b6, dw]
           rfl
         refine ik (eS HT_.out (by kernel_rfl)) ?_
         try go_wp2
         go_ret
         exact ⟨ig, bC HB⟩
       replace vN := Bool.eq_false_iff.mpr vN
       subst vN
       rw [if_neg (show ¬ (false = true) by decide)] at H
       have H' := aa.mk H
       clear H
       try go_wp2
       replace jR := aa.mk (bg jR.out)
       replace HB := aa.mk (bD HB.out)
       obtain ⟨azt, XT, _, XU, _⟩ := info_parts iS
       obtain ⟨apZ, agF, agG⟩ := tk (P := Tryz.prog) (Value.int .i64) 0 24 3 .i64 Tryz.underlying24 XT XU bF bl an eN (bO) (bO) cH.out
       have Ei := aa.mk (Kd.tG (h1 := fun _ => rfl) (agF _ (Kd.qA bV.out)))
       have Oc := aa.mk agG
       clear agF agG XT XU
       have yY : 0 ≤ (eN : Int) := bO
       have yZ : eN < (an.length : Int) := bO
       obtain ⟨Ej, abe, lT⟩ := Kd.aZ bV.out eN yY yZ
       have kK := lT
       cases abe
       (try replace lT := (HB.out.cell (World.block_lt_of_cell? w _ lT)).trans lT)
       replace yY := eq_true yY
       replace yZ := eq_true yZ
       refine fy (n := 8) (S := fun w' => w'.cell? (Ej.add (eN).toNat) = some (.int .i64 (rd an eN))) (ds := []) (B_ 0 8) (by kernel_rfl) rfl rfl (by first | exact kK | exact (HB.out.cell (World.block_lt_of_cell? w _ kK)).trans kK | (obtain ⟨_, e_, h_⟩ := Kd.aZ bV.out eN (of_eq_true yY) (of_eq_true yZ); cases e_; exact h_)) (fun hHeld => ?_); refine dv ak.agA ak.XQ (fun HT_ HW_ => ?_)
       generalize wr.drew = DT at jR HB Ei lT hHeld ⊢
       refine b5 HT_ 0 34 (B_ 1 8) ?_
       refine b5 HT_ 1 35 (B_ 3 8) ?_
       refine b5 HT_ 2 36 (B_ 7 8) ?_
       refine b5 HT_ 3 37 (B_ 15 8) ?_
       refine b5 HT_ 4 38 (B_ 31 8) ?_
       refine b5 HT_ 5 39 (B_ 63 8) ?_
       refine lL HT_ HW_ hHeld 6 40 (B_ 127 8) ?_
       refine o2 HT_ 7 41 (B_ 255 8) (fun K hK => ?_)
       refine gu Tryz.func87 (by kernel_rfl) rfl #[.slice (some Ej) (an.take (eN : Int).toNat).length bl, .int .i64 (rd an eN)] (by rfl) rfl rfl (by (try simp only [List.map_toArray, List.map_cons, List.map_nil]); first | done | (rw [show (an.take (eN : Int).toNat).length = eN.toNat from (by rw [List.length_take]; have h_ : (eN : Int) ≤ (an.length : Int) := bO; omega)] <;> rfl) | rfl | (simp only [List.length_drop, List.length_take]; rfl)) ?_
       with_reducible refine (b4.calls k2 _ _ (an.take (eN : Int).toNat) (rd an eN) false _ ?ah ?aj A17.out).mono ?_
       (case ah => exact iZ Ei HB)
       (case aj => exact Oc.out)
       rintro e Ek ⟨rfl, hb⟩
       refine ⟨_, rfl, ?_⟩
       replace jR := cn jR hb
       replace HB := eM HB hb
       (try clear hb)
       refine hK.out _ _ (by first | exact kK | exact (HB.out.cell (World.block_lt_of_cell? w _ kK)).trans kK | (obtain ⟨_, e_, h_⟩ := Kd.aZ bV.out eN (of_eq_true yY) (of_eq_true yZ); cases e_; exact h_)) (fun hHeld => ?_)
       clear hK K
       refine ep (a' := ?_) ?_ ?_
       rotate_left
       · show Act.put _ (some 41) _ = _
         simp only [Act.put, jK, jA, jB, b6, dw]
         rfl
       refine ik (eS HT_.out (by kernel_rfl)) ?_
       try go_wp2
       go_roundg k2
       case measure => have := wL.out; have := jo.out; omega
       case rel => exact ⟨(wrap64 (eN + 1)), eF, H', ⟨by have := wL.out; have := jo.out; omega⟩, ⟨cC jR.out⟩, ⟨bC HB⟩⟩
     rw [if_neg mG] at H
     have jQ : decide (eN < (an.length : Int)) = false := decide_eq_false mG
     clear mG
     obtain ⟨Cy, H⟩ := kG H
     have rF : decide (0 < (an.length : Int)) = true := decide_eq_true Cy
     have XV : decide (0 < an.length) = true := decide_eq_true (by omega)
     clear Cy
     obtain ⟨t141, A26, H⟩ := eA H
     have H' := aa.mk H
     clear H
     have Uu : 0 ≤ (0 : Int) := (by omega)
     have Uv : 0 < (an.length : Int) := bO
     obtain ⟨Jr, ap0, sQ⟩ := Kd.aZ bV.out 0 Uu Uv
     cases ap0
     have avg : (0 < an.length) = True := eq_true (by omega)
     (try rw [show ((0 : Int)).toNat = 0 from rfl] at sQ)
     (try rw [Addr.add_zero'] at sQ)
     (try replace sQ := (HB.out.cell (World.block_lt_of_cell? w _ sQ)).trans sQ)
     replace Uu := eq_true Uu
     replace Uv := eq_true Uv
     go_wp2_with (first | ((with_reducible refine gate_callee (f := 88) rfl ?_); refine dU (some 46) Tryz.func88 #[.slice (some Jr) an.length bl, .int .i64 (rd an 0)] ?_; (with_reducible refine (ar.calls k2 _ _ an (rd an 0) t141 _ ?ah ?aj A26.out).mono ?_); (case ah => exact iZ bV HB); (case aj => exact cH.out); rintro e TL ⟨azv, rfl, b0, hb⟩; refine ⟨_, rfl, ?_⟩; have XW := aa.mk (Kd.aW b0 (ag (bC HB))); replace jR := cn jR hb; replace HB := eM HB hb; (try clear hb); (try clear b0); obtain ⟨Uw, Ux, GZ⟩ := Kd.aN XW.out; subst GZ))
     go_loopg [48] k2 (fun kq v48 w' => ∃ (nF : Int), v48 = .int .i64 nF ∧ aa (ak.l1 kq an t141 (t141.length : Int) nF = some r) ∧ aa (kq ≤ k2) ∧ aa (Kd.R (Kd.int .i64) 3 w' w.heap.size (fun _ => True) (.slice Uw t141.length Ux) t141) ∧ aa (w'.heap[N_]? = some (.cells #[(.slice (some Jr) an.length bl)] 26 (0, 0))) ∧ aa (Below w.heap.size w w'))
     case atStart => exact ⟨(0), eF, H', ⟨Nat.le_refl _⟩, ⟨b9 XW.out⟩, ⟨cC jR.out⟩, ⟨bC HB⟩⟩
     case round =>
      clear H'
      try clear jQ
      try clear rF
      try clear XV
      try clear sQ
      try clear Uu
      try clear Uv
      obtain ⟨nF, rfl, HA, lp, Od, jR, HB⟩ := hrel
      cases gk with
      | zero => exact absurd HA.out (by simp [ak.l1])
      | succ k3 =>
       have H := HA.out
       clear HA
       simp only [ak.l1] at H
       by_cases wK : nF < (t141.length : Int)
       rotate_left
       · rw [if_neg wK] at H
         have yQ : decide (nF < (t141.length : Int)) = false := decide_eq_false wK
         clear wK
         obtain rfl := Option.some.inj H
         go_wp2
         go_ret
         exact ⟨ig, bC HB⟩
       rw [if_pos wK] at H
       have yQ : decide (nF < (t141.length : Int)) = true := decide_eq_true wK
       clear wK
       obtain ⟨Bq, H⟩ := dB H
       obtain ⟨agH, H⟩ := dB H
       obtain ⟨Js, H⟩ := kG H
       have XX : decide (0 < (an.length : Int)) = true := decide_eq_true Js
       have avh : decide (0 < an.length) = true := decide_eq_true (by omega)
       clear Js
       by_cases CB : (wrap64 ((rd t141 nF) - (rd an 0))) ≥ 200
       · rw [if_pos CB] at H
         have agI : decide (200 ≤ (wrap64 ((rd t141 nF) - (rd an 0)))) = true := decide_eq_true CB
         clear CB
         obtain rfl := Option.some.inj H
         have G0 : 0 ≤ (nF : Int) := bO
         have G1 : nF < (t141.length : Int) := bO
         obtain ⟨agJ, abf, Uy⟩ := Kd.aZ (Kd.ao Od.out).2.2 nF G0 G1
         cases abf
         replace G0 := eq_true G0
         replace G1 := eq_true G1
         have G4 : 0 ≤ (0 : Int) := (by omega)
         have G5 : 0 < (an.length : Int) := bO
         obtain ⟨Oe, abg, lU⟩ := Kd.aZ bV.out 0 G4 G5
         obtain rfl : Jr = Oe := (by injection abg)
         have agK : (0 < an.length) = True := eq_true (by omega)
         (try rw [show ((0 : Int)).toNat = 0 from rfl] at lU)
         (try rw [Addr.add_zero'] at lU)
         (try replace lU := (HB.out.cell (World.block_lt_of_cell? w _ lU)).trans lU)
         replace G4 := eq_true G4
         replace G5 := eq_true G5
         go_wp2
         go_ret
         exact ⟨ig, bC HB⟩
       rw [if_neg CB] at H
       have agI : decide (200 ≤ (wrap64 ((rd t141 nF) - (rd an 0)))) = false := decide_eq_false CB
       clear CB
       have H' := aa.mk H
       clear H
       have G0 : 0 ≤ (nF : Int) := bO
       have G1 : nF < (t141.length : Int) := bO
       obtain ⟨agJ, abf, Uy⟩ := Kd.aZ (Kd.ao Od.out).2.2 nF G0 G1
       cases abf
       replace G0 := eq_true G0
       replace G1 := eq_true G1
       have G4 : 0 ≤ (0 : Int) := (by omega)
       have G5 : 0 < (an.length : Int) := bO
       obtain ⟨Oe, abg, lU⟩ := Kd.aZ bV.out 0 G4 G5
       obtain rfl : Jr = Oe := (by injection abg)
       have agK : (0 < an.length) = True := eq_true (by omega)
       (try rw [show ((0 : Int)).toNat = 0 from rfl] at lU)
       (try rw [Addr.add_zero'] at lU)
       (try replace lU := (HB.out.cell (World.block_lt_of_cell? w _ lU)).trans lU)
       replace G4 := eq_true G4
       replace G5 := eq_true G5
       go_wp2
       go_roundg k3
       case measure => have := wL.out; have := jo.out; have := lp.out; omega
       case rel => exact ⟨(wrap64 (nF + 1)), eF, H', ⟨by have := wL.out; have := jo.out; have := lp.out; omega⟩, ⟨b9 Od.out⟩, ⟨cC jR.out⟩, ⟨bC HB⟩⟩
end Go.Proofs.YtjodlkbhaofkkaaGreat.PA
end
