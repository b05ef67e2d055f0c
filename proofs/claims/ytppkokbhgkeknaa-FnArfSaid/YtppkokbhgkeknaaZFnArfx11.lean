-- Bundled by shake.py from this session's printed and written texts; Lean checks it.
import Derived.Test.YtppkokbhgkeknaaZFnArfx1
import Derived.Test.YtppkokbhgkeknaaZFnArfx10
import Derived.Test.YtppkokbhgkeknaaZFnArfx4
import Derived.Test.YtppkokbhgkeknaaZFnArfx5
import Derived.Test.YtppkokbhgkeknaaZFnArfx6
import Derived.Test.YtppkokbhgkeknaaZFnArfx7
import Derived.Test.YtppkokbhgkeknaaZFnArfx9
section
namespace Go.Proofs.Ytppkokbhgkeknaa.PA
open Go.RowKit Go.Proofs.YtppkokbhgkeknaaW.PrintWords Go.Proofs.YtppkokbhgkeknaaW.PrintLast Go.Proofs.YtppkokbhgkeknaaW.PrintMore
attribute [local go_sem] max2_int min2_int max_two min_two max_three min_three max_four min_four
set_option linter.unusedVariables false
set_option linter.unusedSimpArgs false
set_option maxHeartbeats 8000000
set_option maxRecDepth 100000
mutual
def laws_FnArf.j0 : Nat → Bool → Bool → Int → Int → Int → Bool → List Int → Bool → Bool → List Int → List Int → List Int → Option (Bool)
 | 0, _, _, _, _, _, _, _, _, _, _, _, _ => none
 | k + 1, x5, x9, x10, x11, x12, x13, x22, x23, x138, x987000, x992000, x1001000 => if x138 = true then (some false) else (if x13 = true then (if x9 = true then (laws_FnArf.j1 k x5 x9 x22 x23 true x987000 x992000 x1001000) else ((spec_Contains.f k x1001000 (wrap64 ((wrap64 (x10 + x11)) - x12))).bind fun t1032 => (laws_FnArf.j1 k x5 x9 x22 x23 t1032 x987000 x992000 x1001000))) else (laws_FnArf.j1 k x5 x9 x22 x23 false x987000 x992000 x1001000))
def laws_FnArf.j1 : Nat → Bool → Bool → List Int → Bool → Bool → List Int → List Int → List Int → Option (Bool)
 | 0, _, _, _, _, _, _, _, _ => none
 | k + 1, x5, x9, x22, x23, x151, x987000, x992000, x1001000 => if x151 = true then (some false) else (if x5 = true then ((impl_ArfClosure.f k x992000).bind fun bt1033 => ((impl_IsArf.f k x992000).bind fun t1038 => (if t1038 = true then ((impl_IsWithin.f k x987000 x992000).bind fun t1039 => (if t1039 = true then (if bt1033.2 = true then ((spec_EqualSemigroup.f k bt1033.1 x992000).bind fun t1040 => (if t1040 = true then (laws_FnArf.j2 k x9 x22 x23 x1001000) else (some false))) else (some false)) else (some false))) else (some false)))) else (laws_FnArf.j2 k x9 x22 x23 x1001000))
def laws_FnArf.j2 : Nat → Bool → List Int → Bool → List Int → Option (Bool)
 | 0, _, _, _, _ => none
 | k + 1, x9, x22, x23, x1001000 => laws_FnArf.l0 k x9 x22 x23 0 0 x1001000
def laws_FnArf.l0 : Nat → Bool → List Int → Bool → Int → Int → List Int → Option (Bool)
 | 0, _, _, _, _, _, _ => none
 | k + 1, x9, x22, x23, x28, x29, x1001000 => if x29 < (x22.length : Int) then (if x9 = true then (laws_FnArf.j4 k x9 x22 x23 x28 x29 x23 x1001000) else (laws_FnArf.j4 k x9 x22 x23 x28 x29 false x1001000)) else (laws_FnArf.j4 k x9 x22 x23 x28 x29 false x1001000)
def laws_FnArf.j4 : Nat → Bool → List Int → Bool → Int → Int → Bool → List Int → Option (Bool)
 | 0, _, _, _, _, _, _, _ => none
 | k + 1, x9, x22, x23, x28, x29, x186, x1001000 => if x186 = true then (if 0 ≤ x29 then (if x29 < (x22.length : Int) then ((impl_ElementAt.f k x1001000 (wrap64 (x29 + 1))).bind fun t1042 => (if t1042 = (wrap64 (x28 + (rd x22 x29))) then (laws_FnArf.l0 k x9 x22 x23 (wrap64 (x28 + (rd x22 x29))) (wrap64 (x29 + 1)) x1001000) else (some false))) else (none)) else (none)) else (some true)
end
def laws_FnArf.f (k : Nat) (l0 : List Int) : Option (Bool) := (laws_big.f l0).bind fun t982 => (if t982 = true then (some true) else ((spec_DrawArfClosure.f k l0).bind fun t983 => ((impl_ArfClosure.f k t983).bind fun bt987 => ((spec_ArfClosure.f k t983).bind fun bt992 => ((spec_DrawIsArf.f k l0).bind fun t997 => ((impl_IsArf.f k t997).bind fun t1001 => ((impl_ArfFailure.f k t997).bind fun bt1002 => ((spec_ArfFailure.f k t997).bind fun bt1006 => ((impl_BlowUp.f k t997).bind fun bt1010 => ((spec_BlowUp.f k t997).bind fun bt1015 => ((impl_MultiplicitySequence.f k t997).bind fun bt1020 => ((spec_MultiplicitySequence.f k t997).bind fun bt1024 => (if (bt987.2 != bt992.2) = true then (laws_FnArf.j0 k bt987.2 t1001 bt1002.1 bt1002.2.1 bt1002.2.2.1 bt1002.2.2.2 bt1020.1 bt1020.2 true t983 bt987.1 t997) else ((spec_EqualSemigroup.f k bt987.1 bt992.1).bind fun t1028 => (if t1028 = true then ((spec_IsArf.f k t997).bind fun t1029 => (if (t1001 != t1029) = true then (laws_FnArf.j0 k bt987.2 t1001 bt1002.1 bt1002.2.1 bt1002.2.2.1 bt1002.2.2.2 bt1020.1 bt1020.2 true t983 bt987.1 t997) else (if bt1002.1 = bt1006.1 then (if bt1002.2.1 = bt1006.2.1 then (if bt1002.2.2.1 = bt1006.2.2.1 then (if (bt1002.2.2.2 != bt1006.2.2.2) = true then (laws_FnArf.j0 k bt987.2 t1001 bt1002.1 bt1002.2.1 bt1002.2.2.1 bt1002.2.2.2 bt1020.1 bt1020.2 true t983 bt987.1 t997) else (if (bt1010.2 != bt1015.2) = true then (laws_FnArf.j0 k bt987.2 t1001 bt1002.1 bt1002.2.1 bt1002.2.2.1 bt1002.2.2.2 bt1020.1 bt1020.2 true t983 bt987.1 t997) else ((spec_EqualSemigroup.f k bt1010.1 bt1015.1).bind fun t1030 => (if t1030 = true then (if (bt1020.2 != bt1024.2) = true then (laws_FnArf.j0 k bt987.2 t1001 bt1002.1 bt1002.2.1 bt1002.2.2.1 bt1002.2.2.2 bt1020.1 bt1020.2 true t983 bt987.1 t997) else ((laws_sameInts.f k bt1020.1 bt1024.1).bind fun t1031 => (laws_FnArf.j0 k bt987.2 t1001 bt1002.1 bt1002.2.1 bt1002.2.2.1 bt1002.2.2.2 bt1020.1 bt1020.2 (!t1031) t983 bt987.1 t997))) else (laws_FnArf.j0 k bt987.2 t1001 bt1002.1 bt1002.2.1 bt1002.2.2.1 bt1002.2.2.2 bt1020.1 bt1020.2 true t983 bt987.1 t997))))) else (laws_FnArf.j0 k bt987.2 t1001 bt1002.1 bt1002.2.1 bt1002.2.2.1 bt1002.2.2.2 bt1020.1 bt1020.2 true t983 bt987.1 t997)) else (laws_FnArf.j0 k bt987.2 t1001 bt1002.1 bt1002.2.1 bt1002.2.2.1 bt1002.2.2.2 bt1020.1 bt1020.2 true t983 bt987.1 t997)) else (laws_FnArf.j0 k bt987.2 t1001 bt1002.1 bt1002.2.1 bt1002.2.2.1 bt1002.2.2.2 bt1020.1 bt1020.2 true t983 bt987.1 t997)))) else (laws_FnArf.j0 k bt987.2 t1001 bt1002.1 bt1002.2.1 bt1002.2.2.1 bt1002.2.2.2 bt1020.1 bt1020.2 true t983 bt987.1 t997))))))))))))))))
theorem laws_FnArf.calls (k : Nat) (A0 : Option Addr) (c0 : Nat) (l0 : List Int) (r : Bool) (w : World) (hr0 : Kd.C (Kd.int .u8) w A0 l0.length l0) (hc0 : l0.length ≤ c0) (h : laws_FnArf.f k l0 = some r) (hr_ : r = true := by rfl) :
 Calls Try.prog 3 #[.slice A0 l0.length c0] w fun e w' => e = .returned (.bool r) ∧ Below w.heap.size w w' := by
 have hr_ := Aside0.mk hr_
 have hu26 := Try.underlying26
 have HR0 := Aside0.mk hr0
 have HC0 := Aside0.mk hc0
 clear hr0 hc0
 have HB := Aside0.mk (Below.refl w.heap.size w)
 have H := h
 clear h
 unfold laws_FnArf.f at H
 obtain ⟨t982, A2, H⟩ := ob_ H
 by_cases c3 : t982 = true
 · subst c3
   rw [if_pos rfl] at H
   obtain rfl := Option.some.inj H
   go_enter Try.func3, Try.ntmps3
   go_wp2_with (first | ((with_reducible refine gate_callee (f := 4) rfl ?_); refine gL_ (some 31) Try.func4 #[.slice A0 l0.length c0] ?_; (with_reducible refine (laws_big.calls _ _ l0 true _ ?side1 ?side2 A2.out).mono ?_); (case side1 => exact ce_ (HR0.out)); (case side2 => exact HC0.out); rintro e w' ⟨rfl, ⟨nd, rfl⟩⟩; refine ⟨_, rfl, ?_⟩))
   go_ret
   exact ⟨rf_, bl_ HB.out⟩
 replace c3 := Bool.eq_false_iff.mpr c3
 subst c3
 rw [if_neg (show ¬ (false = true) by decide)] at H
 obtain ⟨t983, A4, H⟩ := ob_ H
 obtain ⟨⟨t987, t990⟩, A5, H⟩ := ob_ H
 (try dsimp only at H)
 obtain ⟨⟨t992, t995⟩, A6, H⟩ := ob_ H
 (try dsimp only at H)
 obtain ⟨t997, A7, H⟩ := ob_ H
 obtain ⟨t1001, A8, H⟩ := ob_ H
 obtain ⟨⟨t1002, t1003, t1004, t1005⟩, A9, H⟩ := ob_ H
 (try dsimp only at H)
 obtain ⟨⟨t1006, t1007, t1008, t1009⟩, A10, H⟩ := ob_ H
 (try dsimp only at H)
 obtain ⟨⟨t1010, t1013⟩, A11, H⟩ := ob_ H
 (try dsimp only at H)
 obtain ⟨⟨t1015, t1018⟩, A12, H⟩ := ob_ H
 (try dsimp only at H)
 obtain ⟨⟨t1020, t1023⟩, A13, H⟩ := ob_ H
 (try dsimp only at H)
 obtain ⟨⟨t1024, t1027⟩, A14, H⟩ := ob_ H
 (try dsimp only at H)
 have HC15 := Aside0.mk H
 clear H
 go_enter Try.func3, Try.ntmps3
 go_upto_region 14 with (first | ((with_reducible refine gate_callee (f := 4) rfl ?_); refine gL_ (some 31) Try.func4 #[.slice A0 l0.length c0] ?_; (with_reducible refine (laws_big.calls _ _ l0 false _ ?side1 ?side2 A2.out).mono ?_); (case side1 => exact ce_ (HR0.out)); (case side2 => exact HC0.out); rintro e w' ⟨rfl, ⟨nd, rfl⟩⟩; refine ⟨_, rfl, ?_⟩) | ((with_reducible refine gate_callee (f := 5) rfl ?_); refine gL_ (some 33) Try.func5 #[.slice A0 l0.length c0] ?_; (with_reducible refine (spec_DrawArfClosure.calls k _ _ l0 t983 _ ?side1 ?side2 A4.out).mono ?_); (case side1 => exact ce_ (HR0.out)); (case side2 => exact HC0.out); rintro e w16 ⟨v984, rfl, ho0, hb⟩; refine ⟨_, rfl, ?_⟩; have HO985 := Aside0.mk (Kd.Q_lower ho0 (below_size (bl_ HB.out))); replace HB := bo_ HB hb; (try clear hb); (try clear ho0)) | ((with_reducible refine gate_dst (N := 3) rfl ?_); refine bx_ 3 #[.slice none 0 0] 26 ?_; intro gb986 hg w17 hbox hb; replace HO985 := Aside0.mk (Kd.Q_below (qe_ HO985.out) hb); have BK986 := Aside0.mk (hbox); have GW986 := gw_ hg HB; have GE986 := gw_ hg HB; replace HB := bo_ HB hb; clear hb hbox hg; obtain ⟨Ao18, co18, eo18, _⟩ := Kd.Q_slice HO985.out; subst eo18; have hcz19_0 := cz_ BK986; have hfz19_0 := blk_frozen BK986.out 0) | ((with_reducible refine gate_callee (f := 6) rfl ?_); refine gL_ (some 36) Try.func6 #[.agg #[.slice Ao18 t983.length co18]] ?_; (with_reducible refine (impl_ArfClosure.calls k _ _ t983 t987 t990 _ ?side1 ?side2 A5.out).mono ?_); (case side1 => refine (Kd.Q_reads' (e := 3) (base := w.heap.size) (ok := fun k_ => True) (n := t983.length) (c := co18) ?_).2.2; exact (qf1_ HO985 BK986)); (case side2 => exact (Kd.Q_reads' HO985.out).2.1); rintro e w20 ⟨v988, rfl, ho0, hb⟩; refine ⟨_, rfl, ?_⟩; have HO989 := Aside0.mk (Kd.R_lower (Kd.R_new' ho0 (Kd.Q_lt (qf1_ HO985 BK986))) (below_size (bq_ HB))); replace HO985 := Aside0.mk (Kd.Q_elder' (qf1_ HO985 BK986) (Kd.R_base ho0) hb); replace BK986 := Aside0.mk (blk_below (g := gb986) (o := .cells #[.slice Ao18 t983.length co18] 26 (0, 0)) (bz_ BK986) hb); replace HB := bp_ HB hb; (try clear hb); (try clear ho0)) | ((with_reducible refine gate_dst (N := 4) rfl ?_); refine bx_ 4 #[.slice none 0 0] 26 ?_; intro gb991 hg w21 hbox hb; replace HO985 := Aside0.mk (Kd.Q_below (qe_ HO985.out) hb); replace HO989 := Aside0.mk (Kd.R_below (re_ HO989.out) hb); have BK991 := Aside0.mk (hbox); have GW991 := gq_ hg (bq_ HB); have GE991 := gq_ hg (bq_ HB); replace HB := bp_ HB hb; have NB986_991 := nl_ hg BK986; have NB991_986 := ng_ hg BK986; replace BK986 := bk_ BK986 hb; clear hb hbox hg; obtain ⟨Ao22, co22, eo22⟩ := Kd.R_slice HO989.out; subst eo22; have hnb23 := NB991_986.out; have hnc23 := NB986_991.out; have hcz24_0 := cz_ BK991; have hfz24_0 := blk_frozen BK991.out 0; have hcz25_0 := cz_ BK986; have hfz25_0 := blk_frozen BK986.out 0) | ((with_reducible refine gate_callee (f := 7) rfl ?_); refine gL_ (some 41) Try.func7 #[.agg #[.slice Ao18 t983.length co18]] ?_; (with_reducible refine (spec_ArfClosure.calls k _ _ t983 t992 t995 _ ?side1 ?side2 A6.out).mono ?_); (case side1 => refine (Kd.Q_reads' (e := 3) (base := w.heap.size) (ok := fun k_ => (True ∧ some k_ ≠ (.slice Ao22 t987.length co22 : Value).ownBlock)) (n := t983.length) (c := co18) ?_).2.2; exact (qf1_ HO985 BK991)); (case side2 => exact (Kd.Q_reads' HO985.out).2.1); rintro e w26 ⟨v993, rfl, ho0, hb⟩; refine ⟨_, rfl, ?_⟩; have HO994 := Aside0.mk (Kd.R_lower (Kd.R_new' (Kd.R_new' ho0 (Kd.Q_lt (qf1_ HO985 BK991))) (Kd.R_lt (rf1_ HO989 BK991))) (below_size (bq_ HB))); replace HO985 := Aside0.mk (Kd.Q_elder' (qf1_ HO985 BK991) (Kd.R_base ho0) hb); replace HO989 := Aside0.mk (Kd.R_elder' (rf1_ HO989 BK991) (Kd.R_base ho0) hb); replace BK986 := Aside0.mk (blk_below (g := gb986) (o := .cells #[.slice Ao18 t983.length co18] 26 (0, 0)) (ba_ BK986) hb); replace BK991 := Aside0.mk (blk_below (g := gb991) (o := .cells #[.slice Ao22 t987.length co22] 26 (0, 0)) (bz_ BK991) hb); replace HB := bp_ HB hb; (try clear hb); (try clear ho0)) | ((with_reducible refine gate_dst (N := 6) rfl ?_); refine bx_ 6 #[.slice none 0 0] 26 ?_; intro gb996 hg w27 hbox hb; replace HO985 := Aside0.mk (Kd.Q_below (qe_ HO985.out) hb); replace HO989 := Aside0.mk (Kd.R_below (re_ HO989.out) hb); replace HO994 := Aside0.mk (Kd.R_below (re_ HO994.out) hb); have BK996 := Aside0.mk (hbox); have GW996 := gq_ hg (bq_ HB); have GE996 := gq_ hg (bq_ HB); replace HB := bp_ HB hb; have NB986_996 := nl_ hg BK986; have NB996_986 := ng_ hg BK986; replace BK986 := bk_ BK986 hb; have NB991_996 := nl_ hg BK991; have NB996_991 := ng_ hg BK991; replace BK991 := bk_ BK991 hb; clear hb hbox hg; obtain ⟨Ao28, co28, eo28⟩ := Kd.R_slice HO994.out; subst eo28; have hnb29 := NB996_986.out; have hnc29 := NB986_996.out; have hnb30 := NB996_991.out; have hnc30 := NB991_996.out; have hcz31_0 := cz_ BK996; have hfz31_0 := blk_frozen BK996.out 0) | ((with_reducible refine gate_callee (f := 8) rfl ?_); refine gL_ (some 45) Try.func8 #[.slice A0 l0.length c0] ?_; (with_reducible refine (spec_DrawIsArf.calls k _ _ l0 t997 _ ?side1 ?side2 A7.out).mono ?_); (case side1 => exact Kd.C_below HR0.out (bq_ HB)); (case side2 => exact HC0.out); rintro e w32 ⟨v998, rfl, ho0, hb⟩; refine ⟨_, rfl, ?_⟩; have HO999 := Aside0.mk (Kd.Q_lower (Kd.Q_new' (Kd.Q_new' (Kd.Q_new' ho0 (Kd.Q_lt (qf1_ HO985 BK996))) (Kd.R_lt (rf1_ HO989 BK996))) (Kd.R_lt (rf1_ HO994 BK996))) (below_size (bq_ HB))); replace HO985 := Aside0.mk (Kd.Q_elder' (qf1_ HO985 BK996) (Kd.Q_base ho0) hb); replace HO989 := Aside0.mk (Kd.R_elder' (rf1_ HO989 BK996) (Kd.Q_base ho0) hb); replace HO994 := Aside0.mk (Kd.R_elder' (rf1_ HO994 BK996) (Kd.Q_base ho0) hb); replace BK986 := Aside0.mk (blk_below (g := gb986) (o := .cells #[.slice Ao18 t983.length co18] 26 (0, 0)) (ba_ BK986) hb); replace BK991 := Aside0.mk (blk_below (g := gb991) (o := .cells #[.slice Ao22 t987.length co22] 26 (0, 0)) (ba_ BK991) hb); replace BK996 := Aside0.mk (blk_below (g := gb996) (o := .cells #[.slice Ao28 t992.length co28] 26 (0, 0)) (bz_ BK996) hb); replace HB := bp_ HB hb; (try clear hb); (try clear ho0)) | ((with_reducible refine gate_dst (N := 8) rfl ?_); refine bx_ 8 #[.slice none 0 0] 26 ?_; intro gb1000 hg w33 hbox hb; replace HO985 := Aside0.mk (Kd.Q_below (qe_ HO985.out) hb); replace HO989 := Aside0.mk (Kd.R_below (re_ HO989.out) hb); replace HO994 := Aside0.mk (Kd.R_below (re_ HO994.out) hb); replace HO999 := Aside0.mk (Kd.Q_below (qe_ HO999.out) hb); have BK1000 := Aside0.mk (hbox); have GW1000 := gq_ hg (bq_ HB); have GE1000 := gq_ hg (bq_ HB); replace HB := bp_ HB hb; have NB986_1000 := nl_ hg BK986; have NB1000_986 := ng_ hg BK986; replace BK986 := bk_ BK986 hb; have NB991_1000 := nl_ hg BK991; have NB1000_991 := ng_ hg BK991; replace BK991 := bk_ BK991 hb; have NB996_1000 := nl_ hg BK996; have NB1000_996 := ng_ hg BK996; replace BK996 := bk_ BK996 hb; clear hb hbox hg; obtain ⟨Ao34, co34, eo34, _⟩ := Kd.Q_slice HO999.out; subst eo34; have hnb35 := NB1000_986.out; have hnc35 := NB986_1000.out; have hnb36 := NB1000_991.out; have hnc36 := NB991_1000.out; have hnb37 := NB1000_996.out; have hnc37 := NB996_1000.out; have hcz38_0 := cz_ BK1000; have hfz38_0 := blk_frozen BK1000.out 0) | ((with_reducible refine gate_callee (f := 9) rfl ?_); refine gL_ (some 47) Try.func9 #[.agg #[.slice Ao34 t997.length co34]] ?_; (with_reducible refine (impl_IsArf.calls k _ _ t997 t1001 _ ?side1 ?side2 A8.out).mono ?_); (case side1 => refine (Kd.Q_reads' (e := 3) (base := w.heap.size) (ok := fun k_ => (((True ∧ some k_ ≠ (.slice Ao18 t983.length co18 : Value).ownBlock) ∧ some k_ ≠ (.slice Ao22 t987.length co22 : Value).ownBlock) ∧ some k_ ≠ (.slice Ao28 t992.length co28 : Value).ownBlock)) (n := t997.length) (c := co34) ?_).2.2; exact (qf1_ HO999 BK1000)); (case side2 => exact (Kd.Q_reads' HO999.out).2.1); rintro e w39 ⟨rfl, hb⟩; refine ⟨_, rfl, ?_⟩; replace HO985 := Aside0.mk (Kd.Q_below (qf1_ HO985 BK1000) hb); replace HO989 := Aside0.mk (Kd.R_below (rf1_ HO989 BK1000) hb); replace HO994 := Aside0.mk (Kd.R_below (rf1_ HO994 BK1000) hb); replace HO999 := Aside0.mk (Kd.Q_below (qf1_ HO999 BK1000) hb); replace BK986 := Aside0.mk (blk_below (g := gb986) (o := .cells #[.slice Ao18 t983.length co18] 26 (0, 0)) (ba_ BK986) hb); replace BK991 := Aside0.mk (blk_below (g := gb991) (o := .cells #[.slice Ao22 t987.length co22] 26 (0, 0)) (ba_ BK991) hb); replace BK996 := Aside0.mk (blk_below (g := gb996) (o := .cells #[.slice Ao28 t992.length co28] 26 (0, 0)) (ba_ BK996) hb); replace BK1000 := Aside0.mk (blk_below (g := gb1000) (o := .cells #[.slice Ao34 t997.length co34] 26 (0, 0)) (bz_ BK1000) hb); replace HB := bp_ HB hb; (try clear hb); have hcz40_0 := cz_ BK1000; have hfz40_0 := blk_frozen BK1000.out 0) | ((with_reducible refine gate_callee (f := 10) rfl ?_); refine gL_ (some 50) Try.func10 #[.agg #[.slice Ao34 t997.length co34]] ?_; (with_reducible refine (impl_ArfFailure.calls k _ _ t997 t1002 t1003 t1004 t1005 _ ?side1 ?side2 A9.out).mono ?_); (case side1 => exact ce_ ((Kd.Q_reads' HO999.out).2.2)); (case side2 => exact (Kd.Q_reads' HO999.out).2.1); rintro e w41 ⟨rfl, hb⟩; refine ⟨_, rfl, ?_⟩; replace HO985 := Aside0.mk (Kd.Q_below (qe_ HO985.out) hb); replace HO989 := Aside0.mk (Kd.R_below (re_ HO989.out) hb); replace HO994 := Aside0.mk (Kd.R_below (re_ HO994.out) hb); replace HO999 := Aside0.mk (Kd.Q_below (qe_ HO999.out) hb); replace BK986 := bk_ BK986 hb; replace BK991 := bk_ BK991 hb; replace BK996 := bk_ BK996 hb; replace BK1000 := bk_ BK1000 hb; replace HB := bp_ HB hb; (try clear hb); have hcz42_0 := cz_ BK1000; have hfz42_0 := blk_frozen BK1000.out 0) | ((with_reducible refine gate_callee (f := 11) rfl ?_); refine gL_ (some 57) Try.func11 #[.agg #[.slice Ao34 t997.length co34]] ?_; (with_reducible refine (spec_ArfFailure.calls k _ _ t997 t1006 t1007 t1008 t1009 _ ?side1 ?side2 A10.out).mono ?_); (case side1 => exact ce_ ((Kd.Q_reads' HO999.out).2.2)); (case side2 => exact (Kd.Q_reads' HO999.out).2.1); rintro e w43 ⟨rfl, hb⟩; refine ⟨_, rfl, ?_⟩; replace HO985 := Aside0.mk (Kd.Q_below (qe_ HO985.out) hb); replace HO989 := Aside0.mk (Kd.R_below (re_ HO989.out) hb); replace HO994 := Aside0.mk (Kd.R_below (re_ HO994.out) hb); replace HO999 := Aside0.mk (Kd.Q_below (qe_ HO999.out) hb); replace BK986 := bk_ BK986 hb; replace BK991 := bk_ BK991 hb; replace BK996 := bk_ BK996 hb; replace BK1000 := bk_ BK1000 hb; replace HB := bp_ HB hb; (try clear hb); have hcz44_0 := cz_ BK1000; have hfz44_0 := blk_frozen BK1000.out 0) | ((with_reducible refine gate_callee (f := 12) rfl ?_); refine gL_ (some 64) Try.func12 #[.agg #[.slice Ao34 t997.length co34]] ?_; (with_reducible refine (impl_BlowUp.calls k _ _ t997 t1010 t1013 _ ?side1 ?side2 A11.out).mono ?_); (case side1 => exact ce_ ((Kd.Q_reads' HO999.out).2.2)); (case side2 => exact (Kd.Q_reads' HO999.out).2.1); rintro e w45 ⟨v1011, rfl, ho0, hb⟩; refine ⟨_, rfl, ?_⟩; have HO1012 := Aside0.mk (Kd.R_lower (Kd.R_new' (Kd.R_new' (Kd.R_new' (Kd.R_new' ho0 (Kd.Q_lt (qe_ HO985.out))) (Kd.R_lt (re_ HO989.out))) (Kd.R_lt (re_ HO994.out))) (Kd.Q_lt (qe_ HO999.out))) (below_size (bq_ HB))); replace HO985 := Aside0.mk (Kd.Q_elder' (qe_ HO985.out) (Kd.R_base ho0) hb); replace HO989 := Aside0.mk (Kd.R_elder' (re_ HO989.out) (Kd.R_base ho0) hb); replace HO994 := Aside0.mk (Kd.R_elder' (re_ HO994.out) (Kd.R_base ho0) hb); replace HO999 := Aside0.mk (Kd.Q_elder' (qe_ HO999.out) (Kd.R_base ho0) hb); replace BK986 := bk_ BK986 hb; replace BK991 := bk_ BK991 hb; replace BK996 := bk_ BK996 hb; replace BK1000 := bk_ BK1000 hb; replace HB := bp_ HB hb; (try clear hb); (try clear ho0)) | ((with_reducible refine gate_dst (N := 18) rfl ?_); refine bx_ 18 #[.slice none 0 0] 26 ?_; intro gb1014 hg w46 hbox hb; replace HO985 := Aside0.mk (Kd.Q_below (qe_ HO985.out) hb); replace HO989 := Aside0.mk (Kd.R_below (re_ HO989.out) hb); replace HO994 := Aside0.mk (Kd.R_below (re_ HO994.out) hb); replace HO999 := Aside0.mk (Kd.Q_below (qe_ HO999.out) hb); replace HO1012 := Aside0.mk (Kd.R_below (re_ HO1012.out) hb); have BK1014 := Aside0.mk (hbox); have GW1014 := gq_ hg (bq_ HB); have GE1014 := gq_ hg (bq_ HB); replace HB := bp_ HB hb; have NB986_1014 := nl_ hg BK986; have NB1014_986 := ng_ hg BK986; replace BK986 := bk_ BK986 hb; have NB991_1014 := nl_ hg BK991; have NB1014_991 := ng_ hg BK991; replace BK991 := bk_ BK991 hb; have NB996_1014 := nl_ hg BK996; have NB1014_996 := ng_ hg BK996; replace BK996 := bk_ BK996 hb; have NB1000_1014 := nl_ hg BK1000; have NB1014_1000 := ng_ hg BK1000; replace BK1000 := bk_ BK1000 hb; clear hb hbox hg; obtain ⟨Ao47, co47, eo47⟩ := Kd.R_slice HO1012.out; subst eo47; have hnb48 := NB1014_986.out; have hnc48 := NB986_1014.out; have hnb49 := NB1014_991.out; have hnc49 := NB991_1014.out; have hnb50 := NB1014_996.out; have hnc50 := NB996_1014.out; have hnb51 := NB1014_1000.out; have hnc51 := NB1000_1014.out; have hcz52_0 := cz_ BK1014; have hfz52_0 := blk_frozen BK1014.out 0; have hcz53_0 := cz_ BK1000; have hfz53_0 := blk_frozen BK1000.out 0) | ((with_reducible refine gate_callee (f := 13) rfl ?_); refine gL_ (some 69) Try.func13 #[.agg #[.slice Ao34 t997.length co34]] ?_; (with_reducible refine (spec_BlowUp.calls k _ _ t997 t1015 t1018 _ ?side1 ?side2 A12.out).mono ?_); (case side1 => refine (Kd.Q_reads' (e := 3) (base := w.heap.size) (ok := fun k_ => ((((True ∧ some k_ ≠ (.slice Ao18 t983.length co18 : Value).ownBlock) ∧ some k_ ≠ (.slice Ao22 t987.length co22 : Value).ownBlock) ∧ some k_ ≠ (.slice Ao28 t992.length co28 : Value).ownBlock) ∧ some k_ ≠ (.slice Ao47 t1010.length co47 : Value).ownBlock)) (n := t997.length) (c := co34) ?_).2.2; exact (qf1_ HO999 BK1014)); (case side2 => exact (Kd.Q_reads' HO999.out).2.1); rintro e w54 ⟨v1016, rfl, ho0, hb⟩; refine ⟨_, rfl, ?_⟩; have HO1017 := Aside0.mk (Kd.R_lower (Kd.R_new' (Kd.R_new' (Kd.R_new' (Kd.R_new' (Kd.R_new' ho0 (Kd.Q_lt (qf1_ HO985 BK1014))) (Kd.R_lt (rf1_ HO989 BK1014))) (Kd.R_lt (rf1_ HO994 BK1014))) (Kd.Q_lt (qf1_ HO999 BK1014))) (Kd.R_lt (rf1_ HO1012 BK1014))) (below_size (bq_ HB))); replace HO985 := Aside0.mk (Kd.Q_elder' (qf1_ HO985 BK1014) (Kd.R_base ho0) hb); replace HO989 := Aside0.mk (Kd.R_elder' (rf1_ HO989 BK1014) (Kd.R_base ho0) hb); replace HO994 := Aside0.mk (Kd.R_elder' (rf1_ HO994 BK1014) (Kd.R_base ho0) hb); replace HO999 := Aside0.mk (Kd.Q_elder' (qf1_ HO999 BK1014) (Kd.R_base ho0) hb); replace HO1012 := Aside0.mk (Kd.R_elder' (rf1_ HO1012 BK1014) (Kd.R_base ho0) hb); replace BK986 := Aside0.mk (blk_below (g := gb986) (o := .cells #[.slice Ao18 t983.length co18] 26 (0, 0)) (ba_ BK986) hb); replace BK991 := Aside0.mk (blk_below (g := gb991) (o := .cells #[.slice Ao22 t987.length co22] 26 (0, 0)) (ba_ BK991) hb); replace BK996 := Aside0.mk (blk_below (g := gb996) (o := .cells #[.slice Ao28 t992.length co28] 26 (0, 0)) (ba_ BK996) hb); replace BK1000 := Aside0.mk (blk_below (g := gb1000) (o := .cells #[.slice Ao34 t997.length co34] 26 (0, 0)) (ba_ BK1000) hb); replace BK1014 := Aside0.mk (blk_below (g := gb1014) (o := .cells #[.slice Ao47 t1010.length co47] 26 (0, 0)) (bz_ BK1014) hb); replace HB := bp_ HB hb; (try clear hb); (try clear ho0)) | ((with_reducible refine gate_dst (N := 20) rfl ?_); refine bx_ 20 #[.slice none 0 0] 26 ?_; intro gb1019 hg w55 hbox hb; replace HO985 := Aside0.mk (Kd.Q_below (qe_ HO985.out) hb); replace HO989 := Aside0.mk (Kd.R_below (re_ HO989.out) hb); replace HO994 := Aside0.mk (Kd.R_below (re_ HO994.out) hb); replace HO999 := Aside0.mk (Kd.Q_below (qe_ HO999.out) hb); replace HO1012 := Aside0.mk (Kd.R_below (re_ HO1012.out) hb); replace HO1017 := Aside0.mk (Kd.R_below (re_ HO1017.out) hb); have BK1019 := Aside0.mk (hbox); have GW1019 := gq_ hg (bq_ HB); have GE1019 := gq_ hg (bq_ HB); replace HB := bp_ HB hb; have NB986_1019 := nl_ hg BK986; have NB1019_986 := ng_ hg BK986; replace BK986 := bk_ BK986 hb; have NB991_1019 := nl_ hg BK991; have NB1019_991 := ng_ hg BK991; replace BK991 := bk_ BK991 hb; have NB996_1019 := nl_ hg BK996; have NB1019_996 := ng_ hg BK996; replace BK996 := bk_ BK996 hb; have NB1000_1019 := nl_ hg BK1000; have NB1019_1000 := ng_ hg BK1000; replace BK1000 := bk_ BK1000 hb; have NB1014_1019 := nl_ hg BK1014; have NB1019_1014 := ng_ hg BK1014; replace BK1014 := bk_ BK1014 hb; clear hb hbox hg; obtain ⟨Ao56, co56, eo56⟩ := Kd.R_slice HO1017.out; subst eo56; have hnb57 := NB1019_986.out; have hnc57 := NB986_1019.out; have hnb58 := NB1019_991.out; have hnc58 := NB991_1019.out; have hnb59 := NB1019_996.out; have hnc59 := NB996_1019.out; have hnb60 := NB1019_1000.out; have hnc60 := NB1000_1019.out; have hnb61 := NB1019_1014.out; have hnc61 := NB1014_1019.out; have hcz62_0 := cz_ BK1019; have hfz62_0 := blk_frozen BK1019.out 0) | ((with_reducible refine gate_store (t := 26) (p := 20) rfl ?_); refine store_event (t := 26) (p := 20) (v := ?vo_w63) (w1 := (w55.setCell ⟨gb1019, 0, none⟩ (.slice Ao56 t1015.length co56))) ?hg ?ho ?hn ?hr ?_; (case ho => rfl); (case hg => rfl); (case hn => rfl); (case hr => first | (go_simp; done) | (go_simp; rfl)); intro w63 hw; have n0_ : Aside0 (Kd.Q (Kd.int .i64) 3 w63 w.heap.size (fun k_ => some k_ ≠ (.slice Ao22 t987.length co22 : Value).ownBlock ∧ some k_ ≠ (.slice Ao28 t992.length co28 : Value).ownBlock ∧ some k_ ≠ (.slice Ao34 t997.length co34 : Value).ownBlock ∧ some k_ ≠ (.slice Ao47 t1010.length co47 : Value).ownBlock ∧ some k_ ≠ (.slice Ao56 t1015.length co56 : Value).ownBlock) (.slice Ao18 t983.length co18) t983) := ⟨(by rw [hw]; exact (by (with_reducible repeat (first | apply Kd.Q_alloc | apply Kd.Q_drewN | apply Kd.Q_drew)); exact Kd.Q_mono (Kd.Q_far (p := ⟨gb1019, 0, none⟩) (Kd.Q_types HO985.out BK1019.out (by decide)) (fun _ hk => hk.2) (.slice Ao56 t1015.length co56)) (fun _ hk => ⟨hk.1.1.1.1.1.2, ⟨hk.1.1.1.1.2, ⟨hk.1.1.1.2, ⟨hk.1.1.2, hk.1.2⟩⟩⟩⟩)))⟩; have n1_ : Aside0 (Kd.R (Kd.int .i64) 3 w63 w.heap.size (fun k_ => some k_ ≠ (.slice Ao18 t983.length co18 : Value).ownBlock ∧ some k_ ≠ (.slice Ao28 t992.length co28 : Value).ownBlock ∧ some k_ ≠ (.slice Ao34 t997.length co34 : Value).ownBlock ∧ some k_ ≠ (.slice Ao47 t1010.length co47 : Value).ownBlock ∧ some k_ ≠ (.slice Ao56 t1015.length co56 : Value).ownBlock) (.slice Ao22 t987.length co22) t987) := ⟨(by rw [hw]; exact (by (with_reducible repeat (first | apply Kd.R_alloc | apply Kd.R_drewN | apply Kd.R_drew)); exact Kd.R_mono (Kd.R_far (p := ⟨gb1019, 0, none⟩) (Kd.R_types HO989.out BK1019.out (by decide)) (fun _ hk => hk.2) (.slice Ao56 t1015.length co56)) (fun _ hk => ⟨hk.1.1.1.1.1.2, ⟨hk.1.1.1.1.2, ⟨hk.1.1.1.2, ⟨hk.1.1.2, hk.1.2⟩⟩⟩⟩)))⟩; have n2_ : Aside0 (Kd.R (Kd.int .i64) 3 w63 w.heap.size (fun k_ => some k_ ≠ (.slice Ao18 t983.length co18 : Value).ownBlock ∧ some k_ ≠ (.slice Ao22 t987.length co22 : Value).ownBlock ∧ some k_ ≠ (.slice Ao34 t997.length co34 : Value).ownBlock ∧ some k_ ≠ (.slice Ao47 t1010.length co47 : Value).ownBlock ∧ some k_ ≠ (.slice Ao56 t1015.length co56 : Value).ownBlock) (.slice Ao28 t992.length co28) t992) := ⟨(by rw [hw]; exact (by (with_reducible repeat (first | apply Kd.R_alloc | apply Kd.R_drewN | apply Kd.R_drew)); exact Kd.R_mono (Kd.R_far (p := ⟨gb1019, 0, none⟩) (Kd.R_types HO994.out BK1019.out (by decide)) (fun _ hk => hk.2) (.slice Ao56 t1015.length co56)) (fun _ hk => ⟨hk.1.1.1.1.1.2, ⟨hk.1.1.1.1.2, ⟨hk.1.1.1.2, ⟨hk.1.1.2, hk.1.2⟩⟩⟩⟩)))⟩; have n3_ : Aside0 (Kd.Q (Kd.int .i64) 3 w63 w.heap.size (fun k_ => some k_ ≠ (.slice Ao18 t983.length co18 : Value).ownBlock ∧ some k_ ≠ (.slice Ao22 t987.length co22 : Value).ownBlock ∧ some k_ ≠ (.slice Ao28 t992.length co28 : Value).ownBlock ∧ some k_ ≠ (.slice Ao47 t1010.length co47 : Value).ownBlock ∧ some k_ ≠ (.slice Ao56 t1015.length co56 : Value).ownBlock) (.slice Ao34 t997.length co34) t997) := ⟨(by rw [hw]; exact (by (with_reducible repeat (first | apply Kd.Q_alloc | apply Kd.Q_drewN | apply Kd.Q_drew)); exact Kd.Q_mono (Kd.Q_far (p := ⟨gb1019, 0, none⟩) (Kd.Q_types HO999.out BK1019.out (by decide)) (fun _ hk => hk.2) (.slice Ao56 t1015.length co56)) (fun _ hk => ⟨hk.1.1.1.1.1.2, ⟨hk.1.1.1.1.2, ⟨hk.1.1.1.2, ⟨hk.1.1.2, hk.1.2⟩⟩⟩⟩)))⟩; have n4_ : Aside0 (Kd.R (Kd.int .i64) 3 w63 w.heap.size (fun k_ => some k_ ≠ (.slice Ao18 t983.length co18 : Value).ownBlock ∧ some k_ ≠ (.slice Ao22 t987.length co22 : Value).ownBlock ∧ some k_ ≠ (.slice Ao28 t992.length co28 : Value).ownBlock ∧ some k_ ≠ (.slice Ao34 t997.length co34 : Value).ownBlock ∧ some k_ ≠ (.slice Ao56 t1015.length co56 : Value).ownBlock) (.slice Ao47 t1010.length co47) t1010) := ⟨(by rw [hw]; exact (by (with_reducible repeat (first | apply Kd.R_alloc | apply Kd.R_drewN | apply Kd.R_drew)); exact Kd.R_mono (Kd.R_far (p := ⟨gb1019, 0, none⟩) (Kd.R_types HO1012.out BK1019.out (by decide)) (fun _ hk => hk.2) (.slice Ao56 t1015.length co56)) (fun _ hk => ⟨hk.1.1.1.1.1.2, ⟨hk.1.1.1.1.2, ⟨hk.1.1.1.2, ⟨hk.1.1.2, hk.1.2⟩⟩⟩⟩)))⟩; have n5_ : Aside0 (Kd.R (Kd.int .i64) 3 w63 w.heap.size (fun k_ => some k_ ≠ (.slice Ao18 t983.length co18 : Value).ownBlock ∧ some k_ ≠ (.slice Ao22 t987.length co22 : Value).ownBlock ∧ some k_ ≠ (.slice Ao28 t992.length co28 : Value).ownBlock ∧ some k_ ≠ (.slice Ao34 t997.length co34 : Value).ownBlock ∧ some k_ ≠ (.slice Ao47 t1010.length co47 : Value).ownBlock) (.slice Ao56 t1015.length co56) t1015) := ⟨(by rw [hw]; exact (by (with_reducible repeat (first | apply Kd.R_alloc | apply Kd.R_drewN | apply Kd.R_drew)); exact Kd.R_mono (Kd.R_far (p := ⟨gb1019, 0, none⟩) (Kd.R_types HO1017.out BK1019.out (by decide)) (fun _ hk => hk.2) (.slice Ao56 t1015.length co56)) (fun _ hk => ⟨hk.1.1.1.1.1.2, ⟨hk.1.1.1.1.2, ⟨hk.1.1.1.2, ⟨hk.1.1.2, hk.1.2⟩⟩⟩⟩)))⟩; have n6_ : Aside0 (w63.heap[gb986]? = some (.cells #[.slice Ao18 t983.length co18] 26 (0, 0))) := ⟨(by rw [hw]; exact (ba_ BK986))⟩; have n7_ : Aside0 (w63.heap[gb991]? = some (.cells #[.slice Ao22 t987.length co22] 26 (0, 0))) := ⟨(by rw [hw]; exact (ba_ BK991))⟩; have n8_ : Aside0 (w63.heap[gb996]? = some (.cells #[.slice Ao28 t992.length co28] 26 (0, 0))) := ⟨(by rw [hw]; exact (ba_ BK996))⟩; have n9_ : Aside0 (w63.heap[gb1000]? = some (.cells #[.slice Ao34 t997.length co34] 26 (0, 0))) := ⟨(by rw [hw]; exact (ba_ BK1000))⟩; have n10_ : Aside0 (w63.heap[gb1014]? = some (.cells #[.slice Ao47 t1010.length co47] 26 (0, 0))) := ⟨(by rw [hw]; exact (ba_ BK1014))⟩; have n11_ : Aside0 (w63.heap[gb1019]? = some (.cells #[.slice Ao56 t1015.length co56] 26 (0, 0))) := ⟨(by rw [hw]; exact (bz_ BK1019))⟩; have n12_ : Aside0 (Below w.heap.size w w63) := ⟨(by rw [hw]; exact (bq_ HB))⟩; clear hw; clear HO985; clear HO989; clear HO994; clear HO999; clear HO1012; clear HO1017; clear BK986; clear BK991; clear BK996; clear BK1000; clear BK1014; clear BK1019; clear HB; have HO985 := n0_; have HO989 := n1_; have HO994 := n2_; have HO999 := n3_; have HO1012 := n4_; have HO1017 := n5_; have BK986 := n6_; have BK991 := n7_; have BK996 := n8_; have BK1000 := n9_; have BK1014 := n10_; have BK1019 := n11_; have HB := n12_; clear n0_ n1_ n2_ n3_ n4_ n5_ n6_ n7_ n8_ n9_ n10_ n11_ n12_; have hcz64_0 := cz_ BK1000; have hfz64_0 := blk_frozen BK1000.out 0) | ((with_reducible refine gate_callee (f := 14) rfl ?_); refine gL_ (some 74) Try.func14 #[.agg #[.slice Ao34 t997.length co34]] ?_; (with_reducible refine (impl_MultiplicitySequence.calls k (fun k_ => some k_ = (.slice Ao34 t997.length co34 : Value).ownBlock) _ _ t997 t1020 t1023 _ ?side1 A13.out).mono ?_); (case side1 => exact Kd.Q_V (Kd.Q_tight rfl (Kd.Q_types (Kd.Q_types (Kd.Q_types (Kd.Q_types (Kd.Q_types (Kd.Q_types (HO999.out) BK986.out (by decide)) BK991.out (by decide)) BK996.out (by decide)) BK1000.out (by decide)) BK1014.out (by decide)) BK1019.out (by decide)))); rintro e w65 ⟨v1021, rfl, ho0, hb⟩; refine ⟨_, rfl, ?_⟩; have HO1022 := Aside0.mk (Kd.R_lower (Kd.R_new' (Kd.R_new' (Kd.R_new' (Kd.R_new' (Kd.R_new' (Kd.R_new' (Kd.R_mono (ok' := fun k_ => True) ho0 (fun _ hk_ => trivial)) (Kd.Q_lt (qe_ HO985.out))) (Kd.R_lt (re_ HO989.out))) (Kd.R_lt (re_ HO994.out))) (Kd.Q_lt (qe_ HO999.out))) (Kd.R_lt (re_ HO1012.out))) (Kd.R_lt (re_ HO1017.out))) (below_size (bq_ HB))); replace HO985 := Aside0.mk (Kd.Q_elder' (qe_ HO985.out) (Kd.R_base ho0) hb); replace HO989 := Aside0.mk (Kd.R_elder' (re_ HO989.out) (Kd.R_base ho0) hb); replace HO994 := Aside0.mk (Kd.R_elder' (re_ HO994.out) (Kd.R_base ho0) hb); replace HO999 := Aside0.mk (Kd.Q_elder' (qe_ HO999.out) (Kd.R_base ho0) hb); replace HO1012 := Aside0.mk (Kd.R_elder' (re_ HO1012.out) (Kd.R_base ho0) hb); replace HO1017 := Aside0.mk (Kd.R_elder' (re_ HO1017.out) (Kd.R_base ho0) hb); replace BK986 := bk_ BK986 hb; replace BK991 := bk_ BK991 hb; replace BK996 := bk_ BK996 hb; replace BK1000 := bk_ BK1000 hb; replace BK1014 := bk_ BK1014 hb; replace BK1019 := bk_ BK1019 hb; replace HB := bp_ HB hb; (try clear hb); (try clear ho0); have hcz66_0 := cz_ BK1000; have hfz66_0 := blk_frozen BK1000.out 0) | ((with_reducible refine gate_callee (f := 15) rfl ?_); refine gL_ (some 79) Try.func15 #[.agg #[.slice Ao34 t997.length co34]] ?_; (with_reducible refine (spec_MultiplicitySequence.calls k (fun k_ => some k_ = (.slice Ao34 t997.length co34 : Value).ownBlock) _ _ t997 t1024 t1027 _ ?side1 A14.out).mono ?_); (case side1 => exact Kd.Q_V (Kd.Q_tight rfl (Kd.Q_types (Kd.Q_types (Kd.Q_types (Kd.Q_types (Kd.Q_types (Kd.Q_types (HO999.out) BK986.out (by decide)) BK991.out (by decide)) BK996.out (by decide)) BK1000.out (by decide)) BK1014.out (by decide)) BK1019.out (by decide)))); rintro e w67 ⟨v1025, rfl, ho0, hb⟩; refine ⟨_, rfl, ?_⟩; have HO1026 := Aside0.mk (Kd.R_lower (Kd.R_new' (Kd.R_new' (Kd.R_new' (Kd.R_new' (Kd.R_new' (Kd.R_new' (Kd.R_new' (Kd.R_mono (ok' := fun k_ => True) ho0 (fun _ hk_ => trivial)) (Kd.Q_lt (qe_ HO985.out))) (Kd.R_lt (re_ HO989.out))) (Kd.R_lt (re_ HO994.out))) (Kd.Q_lt (qe_ HO999.out))) (Kd.R_lt (re_ HO1012.out))) (Kd.R_lt (re_ HO1017.out))) (Kd.R_lt (re_ HO1022.out))) (below_size (bq_ HB))); replace HO985 := Aside0.mk (Kd.Q_elder' (qe_ HO985.out) (Kd.R_base ho0) hb); replace HO989 := Aside0.mk (Kd.R_elder' (re_ HO989.out) (Kd.R_base ho0) hb); replace HO994 := Aside0.mk (Kd.R_elder' (re_ HO994.out) (Kd.R_base ho0) hb); replace HO999 := Aside0.mk (Kd.Q_elder' (qe_ HO999.out) (Kd.R_base ho0) hb); replace HO1012 := Aside0.mk (Kd.R_elder' (re_ HO1012.out) (Kd.R_base ho0) hb); replace HO1017 := Aside0.mk (Kd.R_elder' (re_ HO1017.out) (Kd.R_base ho0) hb); replace HO1022 := Aside0.mk (Kd.R_elder' (re_ HO1022.out) (Kd.R_base ho0) hb); replace BK986 := bk_ BK986 hb; replace BK991 := bk_ BK991 hb; replace BK996 := bk_ BK996 hb; replace BK1000 := bk_ BK1000 hb; replace BK1014 := bk_ BK1014 hb; replace BK1019 := bk_ BK1019 hb; replace HB := bp_ HB hb; (try clear hb); (try clear ho0)))
 (try simp only [Act.put, z1_, z2_, z3_])
 go_cut [138] (fun v138 wc => ∃ (kq : Nat) (x138_14 : Bool), v138 = .bool x138_14 ∧ Aside0 (laws_FnArf.j0 kq t990 t1001 t1002 t1003 t1004 t1005 t1020 t1023 x138_14 t983 t987 t997 = some r) ∧ Aside0 (kq ≤ k) ∧ Aside0 (Kd.R (Kd.int .i64) 3 wc w.heap.size (fun k_ => some k_ ≠ ((.slice Ao18 t983.length co18) : Value).ownBlock ∧ some k_ ≠ ((.slice Ao22 t987.length co22) : Value).ownBlock ∧ some k_ ≠ ((.slice Ao28 t992.length co28) : Value).ownBlock ∧ some k_ ≠ ((.slice Ao34 t997.length co34) : Value).ownBlock ∧ some k_ ≠ ((.slice Ao47 t1010.length co47) : Value).ownBlock ∧ some k_ ≠ ((.slice Ao56 t1015.length co56) : Value).ownBlock) v1021 t1020) ∧ Aside0 (Kd.Q (Kd.int .i64) 3 wc w.heap.size (fun k_ => some k_ ≠ (v1021 : Value).ownBlock ∧ some k_ ≠ ((.slice Ao22 t987.length co22) : Value).ownBlock ∧ some k_ ≠ ((.slice Ao28 t992.length co28) : Value).ownBlock ∧ some k_ ≠ ((.slice Ao34 t997.length co34) : Value).ownBlock ∧ some k_ ≠ ((.slice Ao47 t1010.length co47) : Value).ownBlock ∧ some k_ ≠ ((.slice Ao56 t1015.length co56) : Value).ownBlock) (.slice Ao18 t983.length co18) t983) ∧ Aside0 (Kd.Q (Kd.int .i64) 3 wc w.heap.size (fun k_ => some k_ ≠ (v1021 : Value).ownBlock ∧ some k_ ≠ ((.slice Ao18 t983.length co18) : Value).ownBlock ∧ some k_ ≠ ((.slice Ao28 t992.length co28) : Value).ownBlock ∧ some k_ ≠ ((.slice Ao34 t997.length co34) : Value).ownBlock ∧ some k_ ≠ ((.slice Ao47 t1010.length co47) : Value).ownBlock ∧ some k_ ≠ ((.slice Ao56 t1015.length co56) : Value).ownBlock) (.slice Ao22 t987.length co22) t987) ∧ Aside0 (Kd.Q (Kd.int .i64) 3 wc w.heap.size (fun k_ => some k_ ≠ (v1021 : Value).ownBlock ∧ some k_ ≠ ((.slice Ao18 t983.length co18) : Value).ownBlock ∧ some k_ ≠ ((.slice Ao22 t987.length co22) : Value).ownBlock ∧ some k_ ≠ ((.slice Ao34 t997.length co34) : Value).ownBlock ∧ some k_ ≠ ((.slice Ao47 t1010.length co47) : Value).ownBlock ∧ some k_ ≠ ((.slice Ao56 t1015.length co56) : Value).ownBlock) (.slice Ao28 t992.length co28) t992) ∧ Aside0 (Kd.Q (Kd.int .i64) 3 wc w.heap.size (fun k_ => some k_ ≠ (v1021 : Value).ownBlock ∧ some k_ ≠ ((.slice Ao18 t983.length co18) : Value).ownBlock ∧ some k_ ≠ ((.slice Ao22 t987.length co22) : Value).ownBlock ∧ some k_ ≠ ((.slice Ao28 t992.length co28) : Value).ownBlock ∧ some k_ ≠ ((.slice Ao47 t1010.length co47) : Value).ownBlock ∧ some k_ ≠ ((.slice Ao56 t1015.length co56) : Value).ownBlock) (.slice Ao34 t997.length co34) t997) ∧ Aside0 (Kd.Q (Kd.int .i64) 3 wc w.heap.size (fun k_ => some k_ ≠ (v1021 : Value).ownBlock ∧ some k_ ≠ ((.slice Ao18 t983.length co18) : Value).ownBlock ∧ some k_ ≠ ((.slice Ao22 t987.length co22) : Value).ownBlock ∧ some k_ ≠ ((.slice Ao28 t992.length co28) : Value).ownBlock ∧ some k_ ≠ ((.slice Ao34 t997.length co34) : Value).ownBlock ∧ some k_ ≠ ((.slice Ao56 t1015.length co56) : Value).ownBlock) (.slice Ao47 t1010.length co47) t1010) ∧ Aside0 (Kd.Q (Kd.int .i64) 3 wc w.heap.size (fun k_ => some k_ ≠ (v1021 : Value).ownBlock ∧ some k_ ≠ ((.slice Ao18 t983.length co18) : Value).ownBlock ∧ some k_ ≠ ((.slice Ao22 t987.length co22) : Value).ownBlock ∧ some k_ ≠ ((.slice Ao28 t992.length co28) : Value).ownBlock ∧ some k_ ≠ ((.slice Ao34 t997.length co34) : Value).ownBlock ∧ some k_ ≠ ((.slice Ao47 t1010.length co47) : Value).ownBlock) (.slice Ao56 t1015.length co56) t1015) ∧ Aside0 (wc.heap[gb986]? = some (.cells #[(.slice Ao18 t983.length co18)] 26 (0, 0))) ∧ Aside0 (wc.heap[gb991]? = some (.cells #[(.slice Ao22 t987.length co22)] 26 (0, 0))) ∧ Aside0 (wc.heap[gb996]? = some (.cells #[(.slice Ao28 t992.length co28)] 26 (0, 0))) ∧ Aside0 (wc.heap[gb1000]? = some (.cells #[(.slice Ao34 t997.length co34)] 26 (0, 0))) ∧ Aside0 (wc.heap[gb1014]? = some (.cells #[(.slice Ao47 t1010.length co47)] 26 (0, 0))) ∧ Aside0 (wc.heap[gb1019]? = some (.cells #[(.slice Ao56 t1015.length co56)] 26 (0, 0))) ∧ Aside0 (Below w.heap.size w wc))
 case first =>
  have H := HC15.out
  clear HC15
  by_cases c68 : (t990 != t995) = true
  · rw [if_pos c68] at H
    exact absurd (H.trans (congrArg some hr_.out)) (by cases k <;> simp [laws_FnArf.j0])
  rw [if_neg c68] at H
  have c68b0 : (t990 != t995) = false := by simpa using c68
  (try (have c68b1 : decide (t990 = t995) = true := by simpa using c68))
  (try (have c68b2 : (t990 == t995) = true := by simpa using c68))
  clear c68
  (first | rw [c68b0] | (simp only [i64_w, i32_w]; rw [c68b0]) | skip)
  obtain ⟨t1028, A69, H⟩ := ob_ H
  by_cases c70 : t1028 = true
  rotate_left
  · replace c70 := Bool.eq_false_iff.mpr c70
    subst c70
    have H1 : (laws_FnArf.j0 k t990 t1001 t1002 t1003 t1004 t1005 t1020 t1023 true t983 t987 t997) = some r := by rw [if_neg (show ¬ (false = true) by decide)] at H; exact H
    exact absurd (H1.trans (congrArg some hr_.out)) (by cases k <;> simp [laws_FnArf.j0])
  subst c70
  rw [if_pos rfl] at H
  obtain ⟨t1029, A71, H⟩ := ob_ H
  by_cases c72 : (t1001 != t1029) = true
  · rw [if_pos c72] at H
    exact absurd (H.trans (congrArg some hr_.out)) (by cases k <;> simp [laws_FnArf.j0])
  rw [if_neg c72] at H
  have c72b0 : (t1001 != t1029) = false := by simpa using c72
  (try (have c72b1 : decide (t1001 = t1029) = true := by simpa using c72))
  (try (have c72b2 : (t1001 == t1029) = true := by simpa using c72))
  clear c72
  by_cases c90 : t1002 = t1006
  rotate_left
  · rw [if_neg c90] at H
    exact absurd (H.trans (congrArg some hr_.out)) (by cases k <;> simp [laws_FnArf.j0])
  rw [if_pos c90] at H
  have c90b0 : (t1002 == t1006) = true := beq_iff_eq.mpr c90
  have c90b1 : (t1002 != t1006) = false := bne_eq_false_iff_eq.mpr c90
  clear c90
  by_cases c91 : t1003 = t1007
  rotate_left
  · rw [if_neg c91] at H
    exact absurd (H.trans (congrArg some hr_.out)) (by cases k <;> simp [laws_FnArf.j0])
  rw [if_pos c91] at H
  have c91b0 : (t1003 == t1007) = true := beq_iff_eq.mpr c91
  have c91b1 : (t1003 != t1007) = false := bne_eq_false_iff_eq.mpr c91
  clear c91
  by_cases c92 : t1004 = t1008
  rotate_left
  · rw [if_neg c92] at H
    exact absurd (H.trans (congrArg some hr_.out)) (by cases k <;> simp [laws_FnArf.j0])
  rw [if_pos c92] at H
  have c92b0 : (t1004 == t1008) = true := beq_iff_eq.mpr c92
  have c92b1 : (t1004 != t1008) = false := bne_eq_false_iff_eq.mpr c92
  clear c92
  by_cases c93 : (t1005 != t1009) = true
  · rw [if_pos c93] at H
    exact absurd (H.trans (congrArg some hr_.out)) (by cases k <;> simp [laws_FnArf.j0])
  rw [if_neg c93] at H
  have c93b0 : (t1005 != t1009) = false := by simpa using c93
  (try (have c93b1 : decide (t1005 = t1009) = true := by simpa using c93))
  (try (have c93b2 : (t1005 == t1009) = true := by simpa using c93))
  clear c93
  by_cases c111 : (t1013 != t1018) = true
  · rw [if_pos c111] at H
    exact absurd (H.trans (congrArg some hr_.out)) (by cases k <;> simp [laws_FnArf.j0])
  rw [if_neg c111] at H
  have c111b0 : (t1013 != t1018) = false := by simpa using c111
  (try (have c111b1 : decide (t1013 = t1018) = true := by simpa using c111))
  (try (have c111b2 : (t1013 == t1018) = true := by simpa using c111))
  clear c111
  obtain ⟨t1030, A129, H⟩ := ob_ H
  by_cases c130 : t1030 = true
  rotate_left
  · replace c130 := Bool.eq_false_iff.mpr c130
    subst c130
    have H1 : (laws_FnArf.j0 k t990 t1001 t1002 t1003 t1004 t1005 t1020 t1023 true t983 t987 t997) = some r := by rw [if_neg (show ¬ (false = true) by decide)] at H; exact H
    exact absurd (H1.trans (congrArg some hr_.out)) (by cases k <;> simp [laws_FnArf.j0])
  subst c130
  rw [if_pos rfl] at H
  by_cases c131 : (t1023 != t1027) = true
  · rw [if_pos c131] at H
    exact absurd (H.trans (congrArg some hr_.out)) (by cases k <;> simp [laws_FnArf.j0])
  rw [if_neg c131] at H
  have c131b0 : (t1023 != t1027) = false := by simpa using c131
  (try (have c131b1 : decide (t1023 = t1027) = true := by simpa using c131))
  (try (have c131b2 : (t1023 == t1027) = true := by simpa using c131))
  clear c131
  obtain ⟨t1031, A155, H⟩ := ob_ H
  have H' := Aside0.mk H
  clear H
  have hnb156 := NB991_986.out
  have hnc156 := NB986_991.out
  have hnb157 := NB991_996.out
  have hnc157 := NB996_991.out
  have hnb158 := NB991_1000.out
  have hnc158 := NB1000_991.out
  have hnb159 := NB991_1014.out
  have hnc159 := NB1014_991.out
  have hnb160 := NB991_1019.out
  have hnc160 := NB1019_991.out
  have hcz161_0 := cz_ BK991
  have hfz161_0 := blk_frozen BK991.out 0
  have hnb162 := NB996_986.out
  have hnc162 := NB986_996.out
  have hnb163 := NB996_1000.out
  have hnc163 := NB1000_996.out
  have hnb164 := NB996_1014.out
  have hnc164 := NB1014_996.out
  have hnb165 := NB996_1019.out
  have hnc165 := NB1019_996.out
  have hcz166_0 := cz_ BK996
  have hfz166_0 := blk_frozen BK996.out 0
  go_wp2_with (first | (go_at_call 16; (with_reducible refine (spec_EqualSemigroup.calls k _ _ t987 _ _ t992 true _ ?side1 ?side2 ?side3 ?side4 A69.out).mono ?_); (case side1 => exact ce_ ((Kd.R_reads' HO989.out).2.2)); (case side2 => exact (Kd.R_reads' HO989.out).2.1); (case side3 => exact ce_ ((Kd.R_reads' HO994.out).2.2)); (case side4 => exact (Kd.R_reads' HO994.out).2.1); rintro e w167 ⟨rfl, hb⟩; replace HO985 := Aside0.mk (Kd.Q_below (qe_ HO985.out) hb); replace HO989 := Aside0.mk (Kd.R_below (re_ HO989.out) hb); replace HO994 := Aside0.mk (Kd.R_below (re_ HO994.out) hb); replace HO999 := Aside0.mk (Kd.Q_below (qe_ HO999.out) hb); replace HO1012 := Aside0.mk (Kd.R_below (re_ HO1012.out) hb); replace HO1017 := Aside0.mk (Kd.R_below (re_ HO1017.out) hb); replace HO1022 := Aside0.mk (Kd.R_below (re_ HO1022.out) hb); replace HO1026 := Aside0.mk (Kd.R_below (re_ HO1026.out) hb); replace BK986 := bk_ BK986 hb; replace BK991 := bk_ BK991 hb; replace BK996 := bk_ BK996 hb; replace BK1000 := bk_ BK1000 hb; replace BK1014 := bk_ BK1014 hb; replace BK1019 := bk_ BK1019 hb; replace HB := bp_ HB hb; (try clear hb); have hnb168 := NB1000_986.out; have hnc168 := NB986_1000.out; have hnb169 := NB1000_1014.out; have hnc169 := NB1014_1000.out; have hnb170 := NB1000_1019.out; have hnc170 := NB1019_1000.out; have hcz171_0 := cz_ BK1000; have hfz171_0 := blk_frozen BK1000.out 0) | (go_at_call 17; (with_reducible refine (spec_IsArf.calls k _ _ t997 t1029 _ ?side1 ?side2 A71.out).mono ?_); (case side1 => exact ce_ ((Kd.Q_reads' HO999.out).2.2)); (case side2 => exact (Kd.Q_reads' HO999.out).2.1); rintro e w172 ⟨rfl, hb⟩; replace HO985 := Aside0.mk (Kd.Q_below (qe_ HO985.out) hb); replace HO989 := Aside0.mk (Kd.R_below (re_ HO989.out) hb); replace HO994 := Aside0.mk (Kd.R_below (re_ HO994.out) hb); replace HO999 := Aside0.mk (Kd.Q_below (qe_ HO999.out) hb); replace HO1012 := Aside0.mk (Kd.R_below (re_ HO1012.out) hb); replace HO1017 := Aside0.mk (Kd.R_below (re_ HO1017.out) hb); replace HO1022 := Aside0.mk (Kd.R_below (re_ HO1022.out) hb); replace HO1026 := Aside0.mk (Kd.R_below (re_ HO1026.out) hb); replace BK986 := bk_ BK986 hb; replace BK991 := bk_ BK991 hb; replace BK996 := bk_ BK996 hb; replace BK1000 := bk_ BK1000 hb; replace BK1014 := bk_ BK1014 hb; replace BK1019 := bk_ BK1019 hb; replace HB := bp_ HB hb; (try clear hb); have hnb173 := NB1014_986.out; have hnc173 := NB986_1014.out; have hnb174 := NB1014_1019.out; have hnc174 := NB1019_1014.out; have hcz175_0 := cz_ BK1014; have hfz175_0 := blk_frozen BK1014.out 0; have hnb176 := NB1019_986.out; have hnc176 := NB986_1019.out; have hcz177_0 := cz_ BK1019; have hfz177_0 := blk_frozen BK1019.out 0) | (go_at_call 16; (with_reducible refine (spec_EqualSemigroup.calls k _ _ t1010 _ _ t1015 true _ ?side1 ?side2 ?side3 ?side4 A129.out).mono ?_); (case side1 => exact ce_ ((Kd.R_reads' HO1012.out).2.2)); (case side2 => exact (Kd.R_reads' HO1012.out).2.1); (case side3 => exact ce_ ((Kd.R_reads' HO1017.out).2.2)); (case side4 => exact (Kd.R_reads' HO1017.out).2.1); rintro e w178 ⟨rfl, hb⟩; replace HO985 := Aside0.mk (Kd.Q_below (qe_ HO985.out) hb); replace HO989 := Aside0.mk (Kd.R_below (re_ HO989.out) hb); replace HO994 := Aside0.mk (Kd.R_below (re_ HO994.out) hb); replace HO999 := Aside0.mk (Kd.Q_below (qe_ HO999.out) hb); replace HO1012 := Aside0.mk (Kd.R_below (re_ HO1012.out) hb); replace HO1017 := Aside0.mk (Kd.R_below (re_ HO1017.out) hb); replace HO1022 := Aside0.mk (Kd.R_below (re_ HO1022.out) hb); replace HO1026 := Aside0.mk (Kd.R_below (re_ HO1026.out) hb); replace BK986 := bk_ BK986 hb; replace BK991 := bk_ BK991 hb; replace BK996 := bk_ BK996 hb; replace BK1000 := bk_ BK1000 hb; replace BK1014 := bk_ BK1014 hb; replace BK1019 := bk_ BK1019 hb; replace HB := bp_ HB hb; (try clear hb); obtain ⟨Ao179, co179, eo179⟩ := Kd.R_slice HO1022.out; subst eo179; obtain ⟨Ao180, co180, eo180⟩ := Kd.R_slice HO1026.out; subst eo180) | (go_at_call 18; (with_reducible refine (laws_sameInts.calls k _ _ t1020 _ _ t1024 t1031 _ ?side1 ?side2 ?side3 ?side4 A155.out).mono ?_); (case side1 => exact ce_ ((Kd.R_reads' HO1022.out).2.2)); (case side2 => exact (Kd.R_reads' HO1022.out).2.1); (case side3 => exact ce_ ((Kd.R_reads' HO1026.out).2.2)); (case side4 => exact (Kd.R_reads' HO1026.out).2.1); rintro e w' ⟨rfl, ⟨nd, rfl⟩⟩))
  go_meet
  case rel => exact ⟨_, (!t1031), rs_, H', ⟨by first | omega | exact Nat.le_refl _⟩, ⟨by (with_reducible repeat (first | apply Kd.R_alloc | apply Kd.R_drewN | apply Kd.R_drew)); exact Kd.R_mono HO1022.out (fun _ hk => ⟨hk.1.1.1.1.1.1.2, ⟨hk.1.1.1.1.1.2, ⟨hk.1.1.1.1.2, ⟨hk.1.1.1.2, ⟨hk.1.1.2, hk.1.2⟩⟩⟩⟩⟩)⟩, ⟨by (with_reducible repeat (first | apply Kd.Q_alloc | apply Kd.Q_drewN | apply Kd.Q_drew)); exact Kd.Q_mono HO985.out (fun _ hk => ⟨hk.1.2, ⟨hk.1.1.1, ⟨hk.1.1.2.1, ⟨hk.1.1.2.2.1, ⟨hk.1.1.2.2.2.1, hk.1.1.2.2.2.2⟩⟩⟩⟩⟩)⟩, ⟨Kd.Q_of_R (by (with_reducible repeat (first | apply Kd.R_alloc | apply Kd.R_drewN | apply Kd.R_drew)); exact Kd.R_mono HO989.out (fun _ hk => ⟨hk.1.2, ⟨hk.1.1.1, ⟨hk.1.1.2.1, ⟨hk.1.1.2.2.1, ⟨hk.1.1.2.2.2.1, hk.1.1.2.2.2.2⟩⟩⟩⟩⟩))⟩, ⟨Kd.Q_of_R (by (with_reducible repeat (first | apply Kd.R_alloc | apply Kd.R_drewN | apply Kd.R_drew)); exact Kd.R_mono HO994.out (fun _ hk => ⟨hk.1.2, ⟨hk.1.1.1, ⟨hk.1.1.2.1, ⟨hk.1.1.2.2.1, ⟨hk.1.1.2.2.2.1, hk.1.1.2.2.2.2⟩⟩⟩⟩⟩))⟩, ⟨by (with_reducible repeat (first | apply Kd.Q_alloc | apply Kd.Q_drewN | apply Kd.Q_drew)); exact Kd.Q_mono HO999.out (fun _ hk => ⟨hk.1.2, ⟨hk.1.1.1, ⟨hk.1.1.2.1, ⟨hk.1.1.2.2.1, ⟨hk.1.1.2.2.2.1, hk.1.1.2.2.2.2⟩⟩⟩⟩⟩)⟩, ⟨Kd.Q_of_R (by (with_reducible repeat (first | apply Kd.R_alloc | apply Kd.R_drewN | apply Kd.R_drew)); exact Kd.R_mono HO1012.out (fun _ hk => ⟨hk.1.2, ⟨hk.1.1.1, ⟨hk.1.1.2.1, ⟨hk.1.1.2.2.1, ⟨hk.1.1.2.2.2.1, hk.1.1.2.2.2.2⟩⟩⟩⟩⟩))⟩, ⟨Kd.Q_of_R (by (with_reducible repeat (first | apply Kd.R_alloc | apply Kd.R_drewN | apply Kd.R_drew)); exact Kd.R_mono HO1017.out (fun _ hk => ⟨hk.1.2, ⟨hk.1.1.1, ⟨hk.1.1.2.1, ⟨hk.1.1.2.2.1, ⟨hk.1.1.2.2.2.1, hk.1.1.2.2.2.2⟩⟩⟩⟩⟩))⟩, ⟨be_ BK986.out⟩, ⟨be_ BK991.out⟩, ⟨be_ BK996.out⟩, ⟨be_ BK1000.out⟩, ⟨be_ BK1014.out⟩, ⟨be_ BK1019.out⟩, ⟨bq_ HB⟩⟩
 case rest =>
  clear HC15
  try clear hcz19_0
  try clear hcz24_0
  try clear hcz25_0
  try clear hcz31_0
  try clear hcz38_0
  try clear hcz40_0
  try clear hcz42_0
  try clear hcz44_0
  try clear hcz52_0
  try clear hcz53_0
  try clear hcz62_0
  try clear hcz64_0
  try clear hcz66_0
  try clear hfz19_0
  try clear hfz24_0
  try clear hfz25_0
  try clear hfz31_0
  try clear hfz38_0
  try clear hfz40_0
  try clear hfz42_0
  try clear hfz44_0
  try clear hfz52_0
  try clear hfz53_0
  try clear hfz62_0
  try clear hfz64_0
  try clear hfz66_0
  obtain ⟨kq, x138_14, rfl, HA, HJ14, HO_22, HO_987000, HO_992000, HO_997000, HO_1001000, HO_1015000, HO_1020000, BK986, BK991, BK996, BK1000, BK1014, BK1019, HB⟩ := hcut
  cases kq with
  | zero => exact absurd HA.out (by simp [laws_FnArf.j0])
  | succ kj14 =>
   have H := HA.out
   clear HA
   simp only [laws_FnArf.j0] at H
   by_cases c267 : x138_14 = true
   · subst c267
     have H1 : (some false) = some r := by rw [if_pos rfl] at H; exact H
     exact absurd (H1.trans (congrArg some hr_.out)) (by simp)
   replace c267 := Bool.eq_false_iff.mpr c267
   subst c267
   rw [if_neg (show ¬ (false = true) by decide)] at H
   have HC268 := Aside0.mk H
   clear H
   go_upto_region 16 with (fail)
   go_cut [151] (fun v151 wc => ∃ (kq : Nat) (x151_267 : Bool), v151 = .bool x151_267 ∧ Aside0 (laws_FnArf.j1 kq t990 t1001 t1020 t1023 x151_267 t983 t987 t997 = some r) ∧ Aside0 (kq ≤ kj14) ∧ Aside0 (Kd.R (Kd.int .i64) 3 wc w.heap.size (fun k_ => some k_ ≠ ((.slice Ao18 t983.length co18) : Value).ownBlock ∧ some k_ ≠ ((.slice Ao22 t987.length co22) : Value).ownBlock ∧ some k_ ≠ ((.slice Ao28 t992.length co28) : Value).ownBlock ∧ some k_ ≠ ((.slice Ao34 t997.length co34) : Value).ownBlock ∧ some k_ ≠ ((.slice Ao47 t1010.length co47) : Value).ownBlock ∧ some k_ ≠ ((.slice Ao56 t1015.length co56) : Value).ownBlock) v1021 t1020) ∧ Aside0 (Kd.Q (Kd.int .i64) 3 wc w.heap.size (fun k_ => some k_ ≠ (v1021 : Value).ownBlock ∧ some k_ ≠ ((.slice Ao22 t987.length co22) : Value).ownBlock ∧ some k_ ≠ ((.slice Ao28 t992.length co28) : Value).ownBlock ∧ some k_ ≠ ((.slice Ao34 t997.length co34) : Value).ownBlock ∧ some k_ ≠ ((.slice Ao47 t1010.length co47) : Value).ownBlock ∧ some k_ ≠ ((.slice Ao56 t1015.length co56) : Value).ownBlock) (.slice Ao18 t983.length co18) t983) ∧ Aside0 (Kd.Q (Kd.int .i64) 3 wc w.heap.size (fun k_ => some k_ ≠ (v1021 : Value).ownBlock ∧ some k_ ≠ ((.slice Ao18 t983.length co18) : Value).ownBlock ∧ some k_ ≠ ((.slice Ao28 t992.length co28) : Value).ownBlock ∧ some k_ ≠ ((.slice Ao34 t997.length co34) : Value).ownBlock ∧ some k_ ≠ ((.slice Ao47 t1010.length co47) : Value).ownBlock ∧ some k_ ≠ ((.slice Ao56 t1015.length co56) : Value).ownBlock) (.slice Ao22 t987.length co22) t987) ∧ Aside0 (Kd.Q (Kd.int .i64) 3 wc w.heap.size (fun k_ => some k_ ≠ (v1021 : Value).ownBlock ∧ some k_ ≠ ((.slice Ao18 t983.length co18) : Value).ownBlock ∧ some k_ ≠ ((.slice Ao22 t987.length co22) : Value).ownBlock ∧ some k_ ≠ ((.slice Ao34 t997.length co34) : Value).ownBlock ∧ some k_ ≠ ((.slice Ao47 t1010.length co47) : Value).ownBlock ∧ some k_ ≠ ((.slice Ao56 t1015.length co56) : Value).ownBlock) (.slice Ao28 t992.length co28) t992) ∧ Aside0 (Kd.Q (Kd.int .i64) 3 wc w.heap.size (fun k_ => some k_ ≠ (v1021 : Value).ownBlock ∧ some k_ ≠ ((.slice Ao18 t983.length co18) : Value).ownBlock ∧ some k_ ≠ ((.slice Ao22 t987.length co22) : Value).ownBlock ∧ some k_ ≠ ((.slice Ao28 t992.length co28) : Value).ownBlock ∧ some k_ ≠ ((.slice Ao47 t1010.length co47) : Value).ownBlock ∧ some k_ ≠ ((.slice Ao56 t1015.length co56) : Value).ownBlock) (.slice Ao34 t997.length co34) t997) ∧ Aside0 (Kd.Q (Kd.int .i64) 3 wc w.heap.size (fun k_ => some k_ ≠ (v1021 : Value).ownBlock ∧ some k_ ≠ ((.slice Ao18 t983.length co18) : Value).ownBlock ∧ some k_ ≠ ((.slice Ao22 t987.length co22) : Value).ownBlock ∧ some k_ ≠ ((.slice Ao28 t992.length co28) : Value).ownBlock ∧ some k_ ≠ ((.slice Ao34 t997.length co34) : Value).ownBlock ∧ some k_ ≠ ((.slice Ao56 t1015.length co56) : Value).ownBlock) (.slice Ao47 t1010.length co47) t1010) ∧ Aside0 (Kd.Q (Kd.int .i64) 3 wc w.heap.size (fun k_ => some k_ ≠ (v1021 : Value).ownBlock ∧ some k_ ≠ ((.slice Ao18 t983.length co18) : Value).ownBlock ∧ some k_ ≠ ((.slice Ao22 t987.length co22) : Value).ownBlock ∧ some k_ ≠ ((.slice Ao28 t992.length co28) : Value).ownBlock ∧ some k_ ≠ ((.slice Ao34 t997.length co34) : Value).ownBlock ∧ some k_ ≠ ((.slice Ao47 t1010.length co47) : Value).ownBlock) (.slice Ao56 t1015.length co56) t1015) ∧ Aside0 (wc.heap[gb986]? = some (.cells #[(.slice Ao18 t983.length co18)] 26 (0, 0))) ∧ Aside0 (wc.heap[gb991]? = some (.cells #[(.slice Ao22 t987.length co22)] 26 (0, 0))) ∧ Aside0 (wc.heap[gb996]? = some (.cells #[(.slice Ao28 t992.length co28)] 26 (0, 0))) ∧ Aside0 (wc.heap[gb1000]? = some (.cells #[(.slice Ao34 t997.length co34)] 26 (0, 0))) ∧ Aside0 (wc.heap[gb1014]? = some (.cells #[(.slice Ao47 t1010.length co47)] 26 (0, 0))) ∧ Aside0 (wc.heap[gb1019]? = some (.cells #[(.slice Ao56 t1015.length co56)] 26 (0, 0))) ∧ Aside0 (Below w.heap.size w wc))
   case first =>
    have H := HC268.out
    clear HC268
    by_cases c269 : t1005 = true
    rotate_left
    · replace c269 := Bool.eq_false_iff.mpr c269
      subst c269
      rw [if_neg (show ¬ (false = true) by decide)] at H
      have H' := Aside0.mk H
      clear H
      go_wp2
      go_meet
      case rel => exact ⟨_, (false), rs_, H', ⟨by have := HJ14.out; first | omega | exact Nat.le_refl _⟩, ⟨re_ HO_22.out⟩, ⟨qe_ HO_987000.out⟩, ⟨qe_ HO_992000.out⟩, ⟨qe_ HO_997000.out⟩, ⟨qe_ HO_1001000.out⟩, ⟨qe_ HO_1015000.out⟩, ⟨qe_ HO_1020000.out⟩, ⟨be_ BK986.out⟩, ⟨be_ BK991.out⟩, ⟨be_ BK996.out⟩, ⟨be_ BK1000.out⟩, ⟨be_ BK1014.out⟩, ⟨be_ BK1019.out⟩, ⟨bq_ HB⟩⟩
    subst c269
    rw [if_pos rfl] at H
    by_cases c270 : t1001 = true
    · subst c270
      have H1 : (laws_FnArf.j1 kj14 t990 true t1020 t1023 true t983 t987 t997) = some r := by rw [if_pos rfl] at H; exact H
      exact absurd (H1.trans (congrArg some hr_.out)) (by cases kj14 <;> simp [laws_FnArf.j1])
    replace c270 := Bool.eq_false_iff.mpr c270
    subst c270
    rw [if_neg (show ¬ (false = true) by decide)] at H
    obtain ⟨t1032, A271, H⟩ := ob_ H
    have H' := Aside0.mk H
    clear H
    have hnb272 := NB1000_986.out
    have hnc272 := NB986_1000.out
    have hnb273 := NB1000_991.out
    have hnc273 := NB991_1000.out
    have hnb274 := NB1000_996.out
    have hnc274 := NB996_1000.out
    have hnb275 := NB1000_1014.out
    have hnc275 := NB1014_1000.out
    have hnb276 := NB1000_1019.out
    have hnc276 := NB1019_1000.out
    have hcz277_0 := cz_ BK1000
    have hfz277_0 := blk_frozen BK1000.out 0
    go_wp2_with (first | (go_at_call 19; (with_reducible refine (spec_Contains.calls kj14 _ _ t997 (wrap64 ((wrap64 (t1002 + t1003)) - t1004)) t1032 _ ?side1 ?side2 A271.out).mono ?_); (case side1 => exact ce_ ((Kd.Q_reads' HO_1001000.out).2.2)); (case side2 => exact (Kd.Q_reads' HO_1001000.out).2.1); rintro e w278 ⟨rfl, hb⟩; replace HO_22 := Aside0.mk (Kd.R_below (re_ HO_22.out) hb); replace HO_987000 := Aside0.mk (Kd.Q_below (qe_ HO_987000.out) hb); replace HO_992000 := Aside0.mk (Kd.Q_below (qe_ HO_992000.out) hb); replace HO_997000 := Aside0.mk (Kd.Q_below (qe_ HO_997000.out) hb); replace HO_1001000 := Aside0.mk (Kd.Q_below (qe_ HO_1001000.out) hb); replace HO_1015000 := Aside0.mk (Kd.Q_below (qe_ HO_1015000.out) hb); replace HO_1020000 := Aside0.mk (Kd.Q_below (qe_ HO_1020000.out) hb); replace BK986 := bk_ BK986 hb; replace BK991 := bk_ BK991 hb; replace BK996 := bk_ BK996 hb; replace BK1000 := bk_ BK1000 hb; replace BK1014 := bk_ BK1014 hb; replace BK1019 := bk_ BK1019 hb; replace HB := bp_ HB hb; (try clear hb)))
    go_meet
    case rel => exact ⟨_, (t1032), rs_, H', ⟨by have := HJ14.out; first | omega | exact Nat.le_refl _⟩, ⟨re_ HO_22.out⟩, ⟨qe_ HO_987000.out⟩, ⟨qe_ HO_992000.out⟩, ⟨qe_ HO_997000.out⟩, ⟨qe_ HO_1001000.out⟩, ⟨qe_ HO_1015000.out⟩, ⟨qe_ HO_1020000.out⟩, ⟨be_ BK986.out⟩, ⟨be_ BK991.out⟩, ⟨be_ BK996.out⟩, ⟨be_ BK1000.out⟩, ⟨be_ BK1014.out⟩, ⟨be_ BK1019.out⟩, ⟨bq_ HB⟩⟩
   case rest =>
    clear HC268
    obtain ⟨kq, x151_267, rfl, HA, HJ267, HO_22, HO_987000, HO_992000, HO_997000, HO_1001000, HO_1015000, HO_1020000, BK986, BK991, BK996, BK1000, BK1014, BK1019, HB⟩ := hcut
    cases kq with
    | zero => exact absurd HA.out (by simp [laws_FnArf.j1])
    | succ kj267 =>
     have H := HA.out
     clear HA
     simp only [laws_FnArf.j1] at H
     by_cases c279 : x151_267 = true
     · subst c279
       have H1 : (some false) = some r := by rw [if_pos rfl] at H; exact H
       exact absurd (H1.trans (congrArg some hr_.out)) (by simp)
     replace c279 := Bool.eq_false_iff.mpr c279
     subst c279
     rw [if_neg (show ¬ (false = true) by decide)] at H
     have HC280 := Aside0.mk H
     clear H
     go_upto_if 152 with (fail)
     go_cut [] (fun wc => ∃ (kq : Nat), Aside0 (laws_FnArf.j2 kq t1001 t1020 t1023 t997 = some r) ∧ Aside0 (kq ≤ kj267) ∧ Aside0 (Kd.R (Kd.int .i64) 3 wc w.heap.size (fun k_ => some k_ ≠ ((.slice Ao18 t983.length co18) : Value).ownBlock ∧ some k_ ≠ ((.slice Ao22 t987.length co22) : Value).ownBlock ∧ some k_ ≠ ((.slice Ao28 t992.length co28) : Value).ownBlock ∧ some k_ ≠ ((.slice Ao34 t997.length co34) : Value).ownBlock ∧ some k_ ≠ ((.slice Ao47 t1010.length co47) : Value).ownBlock ∧ some k_ ≠ ((.slice Ao56 t1015.length co56) : Value).ownBlock) v1021 t1020) ∧ Aside0 (Kd.Q (Kd.int .i64) 3 wc w.heap.size (fun k_ => some k_ ≠ (v1021 : Value).ownBlock ∧ some k_ ≠ ((.slice Ao22 t987.length co22) : Value).ownBlock ∧ some k_ ≠ ((.slice Ao28 t992.length co28) : Value).ownBlock ∧ some k_ ≠ ((.slice Ao34 t997.length co34) : Value).ownBlock ∧ some k_ ≠ ((.slice Ao47 t1010.length co47) : Value).ownBlock ∧ some k_ ≠ ((.slice Ao56 t1015.length co56) : Value).ownBlock) (.slice Ao18 t983.length co18) t983) ∧ Aside0 (Kd.Q (Kd.int .i64) 3 wc w.heap.size (fun k_ => some k_ ≠ (v1021 : Value).ownBlock ∧ some k_ ≠ ((.slice Ao18 t983.length co18) : Value).ownBlock ∧ some k_ ≠ ((.slice Ao28 t992.length co28) : Value).ownBlock ∧ some k_ ≠ ((.slice Ao34 t997.length co34) : Value).ownBlock ∧ some k_ ≠ ((.slice Ao47 t1010.length co47) : Value).ownBlock ∧ some k_ ≠ ((.slice Ao56 t1015.length co56) : Value).ownBlock) (.slice Ao22 t987.length co22) t987) ∧ Aside0 (Kd.Q (Kd.int .i64) 3 wc w.heap.size (fun k_ => some k_ ≠ (v1021 : Value).ownBlock ∧ some k_ ≠ ((.slice Ao18 t983.length co18) : Value).ownBlock ∧ some k_ ≠ ((.slice Ao22 t987.length co22) : Value).ownBlock ∧ some k_ ≠ ((.slice Ao34 t997.length co34) : Value).ownBlock ∧ some k_ ≠ ((.slice Ao47 t1010.length co47) : Value).ownBlock ∧ some k_ ≠ ((.slice Ao56 t1015.length co56) : Value).ownBlock) (.slice Ao28 t992.length co28) t992) ∧ Aside0 (Kd.Q (Kd.int .i64) 3 wc w.heap.size (fun k_ => some k_ ≠ (v1021 : Value).ownBlock ∧ some k_ ≠ ((.slice Ao18 t983.length co18) : Value).ownBlock ∧ some k_ ≠ ((.slice Ao22 t987.length co22) : Value).ownBlock ∧ some k_ ≠ ((.slice Ao28 t992.length co28) : Value).ownBlock ∧ some k_ ≠ ((.slice Ao47 t1010.length co47) : Value).ownBlock ∧ some k_ ≠ ((.slice Ao56 t1015.length co56) : Value).ownBlock) (.slice Ao34 t997.length co34) t997) ∧ Aside0 (Kd.Q (Kd.int .i64) 3 wc w.heap.size (fun k_ => some k_ ≠ (v1021 : Value).ownBlock ∧ some k_ ≠ ((.slice Ao18 t983.length co18) : Value).ownBlock ∧ some k_ ≠ ((.slice Ao22 t987.length co22) : Value).ownBlock ∧ some k_ ≠ ((.slice Ao28 t992.length co28) : Value).ownBlock ∧ some k_ ≠ ((.slice Ao34 t997.length co34) : Value).ownBlock ∧ some k_ ≠ ((.slice Ao56 t1015.length co56) : Value).ownBlock) (.slice Ao47 t1010.length co47) t1010) ∧ Aside0 (Kd.Q (Kd.int .i64) 3 wc w.heap.size (fun k_ => some k_ ≠ (v1021 : Value).ownBlock ∧ some k_ ≠ ((.slice Ao18 t983.length co18) : Value).ownBlock ∧ some k_ ≠ ((.slice Ao22 t987.length co22) : Value).ownBlock ∧ some k_ ≠ ((.slice Ao28 t992.length co28) : Value).ownBlock ∧ some k_ ≠ ((.slice Ao34 t997.length co34) : Value).ownBlock ∧ some k_ ≠ ((.slice Ao47 t1010.length co47) : Value).ownBlock) (.slice Ao56 t1015.length co56) t1015) ∧ Aside0 (wc.heap[gb986]? = some (.cells #[(.slice Ao18 t983.length co18)] 26 (0, 0))) ∧ Aside0 (wc.heap[gb991]? = some (.cells #[(.slice Ao22 t987.length co22)] 26 (0, 0))) ∧ Aside0 (wc.heap[gb996]? = some (.cells #[(.slice Ao28 t992.length co28)] 26 (0, 0))) ∧ Aside0 (wc.heap[gb1000]? = some (.cells #[(.slice Ao34 t997.length co34)] 26 (0, 0))) ∧ Aside0 (wc.heap[gb1014]? = some (.cells #[(.slice Ao47 t1010.length co47)] 26 (0, 0))) ∧ Aside0 (wc.heap[gb1019]? = some (.cells #[(.slice Ao56 t1015.length co56)] 26 (0, 0))) ∧ Aside0 (Below w.heap.size w wc))
     case first =>
      have H := HC280.out
      clear HC280
      by_cases c281 : t990 = true
      rotate_left
      · replace c281 := Bool.eq_false_iff.mpr c281
        subst c281
        rw [if_neg (show ¬ (false = true) by decide)] at H
        have H' := Aside0.mk H
        clear H
        go_wp2
        go_meet
        case rel => exact ⟨_, H', ⟨by have := HJ14.out; have := HJ267.out; first | omega | exact Nat.le_refl _⟩, ⟨re_ HO_22.out⟩, ⟨qe_ HO_987000.out⟩, ⟨qe_ HO_992000.out⟩, ⟨qe_ HO_997000.out⟩, ⟨qe_ HO_1001000.out⟩, ⟨qe_ HO_1015000.out⟩, ⟨qe_ HO_1020000.out⟩, ⟨be_ BK986.out⟩, ⟨be_ BK991.out⟩, ⟨be_ BK996.out⟩, ⟨be_ BK1000.out⟩, ⟨be_ BK1014.out⟩, ⟨be_ BK1019.out⟩, ⟨bq_ HB⟩⟩
      subst c281
      rw [if_pos rfl] at H
      obtain ⟨⟨t1033, t1036⟩, A282, H⟩ := ob_ H
      (try dsimp only at H)
      obtain ⟨t1038, A283, H⟩ := ob_ H
      by_cases c284 : t1038 = true
      rotate_left
      · replace c284 := Bool.eq_false_iff.mpr c284
        subst c284
        have H1 : (some false) = some r := by rw [if_neg (show ¬ (false = true) by decide)] at H; exact H
        exact absurd (H1.trans (congrArg some hr_.out)) (by simp)
      subst c284
      rw [if_pos rfl] at H
      obtain ⟨t1039, A285, H⟩ := ob_ H
      by_cases c286 : t1039 = true
      rotate_left
      · replace c286 := Bool.eq_false_iff.mpr c286
        subst c286
        have H1 : (some false) = some r := by rw [if_neg (show ¬ (false = true) by decide)] at H; exact H
        exact absurd (H1.trans (congrArg some hr_.out)) (by simp)
      subst c286
      rw [if_pos rfl] at H
      by_cases c287 : t1036 = true
      rotate_left
      · replace c287 := Bool.eq_false_iff.mpr c287
        subst c287
        have H1 : (some false) = some r := by rw [if_neg (show ¬ (false = true) by decide)] at H; exact H
        exact absurd (H1.trans (congrArg some hr_.out)) (by simp)
      subst c287
      rw [if_pos rfl] at H
      obtain ⟨t1040, A288, H⟩ := ob_ H
      by_cases c289 : t1040 = true
      rotate_left
      · replace c289 := Bool.eq_false_iff.mpr c289
        subst c289
        have H1 : (some false) = some r := by rw [if_neg (show ¬ (false = true) by decide)] at H; exact H
        exact absurd (H1.trans (congrArg some hr_.out)) (by simp)
      subst c289
      rw [if_pos rfl] at H
      have H' := Aside0.mk H
      clear H
      have hnb290 := NB991_986.out
      have hnc290 := NB986_991.out
      have hnb291 := NB991_996.out
      have hnc291 := NB996_991.out
      have hnb292 := NB991_1000.out
      have hnc292 := NB1000_991.out
      have hnb293 := NB991_1014.out
      have hnc293 := NB1014_991.out
      have hnb294 := NB991_1019.out
      have hnc294 := NB1019_991.out
      have hcz295_0 := cz_ BK991
      have hfz295_0 := blk_frozen BK991.out 0
      go_wp2_with (first | ((with_reducible refine gate_callee (f := 6) rfl ?_); refine gL_ (some 155) Try.func6 #[.agg #[.slice Ao22 t987.length co22]] ?_; (with_reducible refine (impl_ArfClosure.calls kj267 _ _ t987 t1033 true _ ?side1 ?side2 A282.out).mono ?_); (case side1 => exact ce_ ((Kd.Q_reads' HO_992000.out).2.2)); (case side2 => exact (Kd.Q_reads' HO_992000.out).2.1); rintro e w296 ⟨v1034, rfl, ho0, hb⟩; refine ⟨_, rfl, ?_⟩; have HO1035 := Aside0.mk (Kd.R_lower (Kd.R_new' (Kd.R_new' (Kd.R_new' (Kd.R_new' (Kd.R_new' (Kd.R_new' (Kd.R_new' ho0 (Kd.R_lt (re_ HO_22.out))) (Kd.Q_lt (qe_ HO_987000.out))) (Kd.Q_lt (qe_ HO_992000.out))) (Kd.Q_lt (qe_ HO_997000.out))) (Kd.Q_lt (qe_ HO_1001000.out))) (Kd.Q_lt (qe_ HO_1015000.out))) (Kd.Q_lt (qe_ HO_1020000.out))) (below_size (bq_ HB))); replace HO_22 := Aside0.mk (Kd.R_elder' (re_ HO_22.out) (Kd.R_base ho0) hb); replace HO_987000 := Aside0.mk (Kd.Q_elder' (qe_ HO_987000.out) (Kd.R_base ho0) hb); replace HO_992000 := Aside0.mk (Kd.Q_elder' (qe_ HO_992000.out) (Kd.R_base ho0) hb); replace HO_997000 := Aside0.mk (Kd.Q_elder' (qe_ HO_997000.out) (Kd.R_base ho0) hb); replace HO_1001000 := Aside0.mk (Kd.Q_elder' (qe_ HO_1001000.out) (Kd.R_base ho0) hb); replace HO_1015000 := Aside0.mk (Kd.Q_elder' (qe_ HO_1015000.out) (Kd.R_base ho0) hb); replace HO_1020000 := Aside0.mk (Kd.Q_elder' (qe_ HO_1020000.out) (Kd.R_base ho0) hb); replace BK986 := bk_ BK986 hb; replace BK991 := bk_ BK991 hb; replace BK996 := bk_ BK996 hb; replace BK1000 := bk_ BK1000 hb; replace BK1014 := bk_ BK1014 hb; replace BK1019 := bk_ BK1019 hb; replace HB := bp_ HB hb; (try clear hb); (try clear ho0)) | ((with_reducible refine gate_dst (N := 26) rfl ?_); refine bx_ 26 #[.slice none 0 0] 26 ?_; intro gb1037 hg w297 hbox hb; replace HO_22 := Aside0.mk (Kd.R_below (re_ HO_22.out) hb); replace HO_987000 := Aside0.mk (Kd.Q_below (qe_ HO_987000.out) hb); replace HO_992000 := Aside0.mk (Kd.Q_below (qe_ HO_992000.out) hb); replace HO_997000 := Aside0.mk (Kd.Q_below (qe_ HO_997000.out) hb); replace HO_1001000 := Aside0.mk (Kd.Q_below (qe_ HO_1001000.out) hb); replace HO_1015000 := Aside0.mk (Kd.Q_below (qe_ HO_1015000.out) hb); replace HO_1020000 := Aside0.mk (Kd.Q_below (qe_ HO_1020000.out) hb); replace HO1035 := Aside0.mk (Kd.R_below (re_ HO1035.out) hb); have BK1037 := Aside0.mk (hbox); have GW1037 := gq_ hg (bq_ HB); have GE1037 := gq_ hg (bq_ HB); replace HB := bp_ HB hb; have NB986_1037 := nl_ hg BK986; have NB1037_986 := ng_ hg BK986; replace BK986 := bk_ BK986 hb; have NB991_1037 := nl_ hg BK991; have NB1037_991 := ng_ hg BK991; replace BK991 := bk_ BK991 hb; have NB996_1037 := nl_ hg BK996; have NB1037_996 := ng_ hg BK996; replace BK996 := bk_ BK996 hb; have NB1000_1037 := nl_ hg BK1000; have NB1037_1000 := ng_ hg BK1000; replace BK1000 := bk_ BK1000 hb; have NB1014_1037 := nl_ hg BK1014; have NB1037_1014 := ng_ hg BK1014; replace BK1014 := bk_ BK1014 hb; have NB1019_1037 := nl_ hg BK1019; have NB1037_1019 := ng_ hg BK1019; replace BK1019 := bk_ BK1019 hb; clear hb hbox hg; obtain ⟨Ao298, co298, eo298⟩ := Kd.R_slice HO1035.out; subst eo298; have hnb299 := NB1037_986.out; have hnc299 := NB986_1037.out; have hnb300 := NB1037_991.out; have hnc300 := NB991_1037.out; have hnb301 := NB1037_996.out; have hnc301 := NB996_1037.out; have hnb302 := NB1037_1000.out; have hnc302 := NB1000_1037.out; have hnb303 := NB1037_1014.out; have hnc303 := NB1014_1037.out; have hnb304 := NB1037_1019.out; have hnc304 := NB1019_1037.out; have hcz305_0 := cz_ BK1037; have hfz305_0 := blk_frozen BK1037.out 0; have hcz306_0 := cz_ BK991; have hfz306_0 := blk_frozen BK991.out 0) | ((with_reducible refine gate_callee (f := 9) rfl ?_); refine gL_ (some 159) Try.func9 #[.agg #[.slice Ao22 t987.length co22]] ?_; (with_reducible refine (impl_IsArf.calls kj267 _ _ t987 true _ ?side1 ?side2 A283.out).mono ?_); (case side1 => refine (Kd.Q_reads' (e := 3) (base := w.heap.size) (ok := fun k_ => ((some k_ ≠ (v1021 : Value).ownBlock ∧ (some k_ ≠ (.slice Ao18 t983.length co18 : Value).ownBlock ∧ (some k_ ≠ (.slice Ao28 t992.length co28 : Value).ownBlock ∧ (some k_ ≠ (.slice Ao34 t997.length co34 : Value).ownBlock ∧ (some k_ ≠ (.slice Ao47 t1010.length co47 : Value).ownBlock ∧ some k_ ≠ (.slice Ao56 t1015.length co56 : Value).ownBlock))))) ∧ some k_ ≠ (.slice Ao298 t1033.length co298 : Value).ownBlock)) (n := t987.length) (c := co22) ?_).2.2; exact (qf1_ HO_992000 BK1037)); (case side2 => exact (Kd.Q_reads' HO_992000.out).2.1); rintro e w307 ⟨rfl, hb⟩; refine ⟨_, rfl, ?_⟩; replace HO_22 := Aside0.mk (Kd.R_below (rf1_ HO_22 BK1037) hb); replace HO_987000 := Aside0.mk (Kd.Q_below (qf1_ HO_987000 BK1037) hb); replace HO_992000 := Aside0.mk (Kd.Q_below (qf1_ HO_992000 BK1037) hb); replace HO_997000 := Aside0.mk (Kd.Q_below (qf1_ HO_997000 BK1037) hb); replace HO_1001000 := Aside0.mk (Kd.Q_below (qf1_ HO_1001000 BK1037) hb); replace HO_1015000 := Aside0.mk (Kd.Q_below (qf1_ HO_1015000 BK1037) hb); replace HO_1020000 := Aside0.mk (Kd.Q_below (qf1_ HO_1020000 BK1037) hb); replace HO1035 := Aside0.mk (Kd.R_below (rf1_ HO1035 BK1037) hb); replace BK986 := Aside0.mk (blk_below (g := gb986) (o := .cells #[.slice Ao18 t983.length co18] 26 (0, 0)) (ba_ BK986) hb); replace BK991 := Aside0.mk (blk_below (g := gb991) (o := .cells #[.slice Ao22 t987.length co22] 26 (0, 0)) (ba_ BK991) hb); replace BK996 := Aside0.mk (blk_below (g := gb996) (o := .cells #[.slice Ao28 t992.length co28] 26 (0, 0)) (ba_ BK996) hb); replace BK1000 := Aside0.mk (blk_below (g := gb1000) (o := .cells #[.slice Ao34 t997.length co34] 26 (0, 0)) (ba_ BK1000) hb); replace BK1014 := Aside0.mk (blk_below (g := gb1014) (o := .cells #[.slice Ao47 t1010.length co47] 26 (0, 0)) (ba_ BK1014) hb); replace BK1019 := Aside0.mk (blk_below (g := gb1019) (o := .cells #[.slice Ao56 t1015.length co56] 26 (0, 0)) (ba_ BK1019) hb); replace BK1037 := Aside0.mk (blk_below (g := gb1037) (o := .cells #[.slice Ao298 t1033.length co298] 26 (0, 0)) (bz_ BK1037) hb); replace HB := bp_ HB hb; (try clear hb); have hnb308 := NB986_996.out; have hnc308 := NB996_986.out; have hnb309 := NB986_1000.out; have hnc309 := NB1000_986.out; have hnb310 := NB986_1014.out; have hnc310 := NB1014_986.out; have hnb311 := NB986_1019.out; have hnc311 := NB1019_986.out; have hcz312_0 := cz_ BK986; have hfz312_0 := blk_frozen BK986.out 0; have hcz313_0 := cz_ BK991; have hfz313_0 := blk_frozen BK991.out 0) | (go_at_call 20; (with_reducible refine (impl_IsWithin.calls kj267 _ _ t983 _ _ t987 true _ ?side1 ?side2 ?side3 ?side4 A285.out).mono ?_); (case side1 => exact ce_ ((Kd.Q_reads' HO_987000.out).2.2)); (case side2 => exact (Kd.Q_reads' HO_987000.out).2.1); (case side3 => exact ce_ ((Kd.Q_reads' HO_992000.out).2.2)); (case side4 => exact (Kd.Q_reads' HO_992000.out).2.1); rintro e w314 ⟨rfl, hb⟩; replace HO_22 := Aside0.mk (Kd.R_below (re_ HO_22.out) hb); replace HO_987000 := Aside0.mk (Kd.Q_below (qe_ HO_987000.out) hb); replace HO_992000 := Aside0.mk (Kd.Q_below (qe_ HO_992000.out) hb); replace HO_997000 := Aside0.mk (Kd.Q_below (qe_ HO_997000.out) hb); replace HO_1001000 := Aside0.mk (Kd.Q_below (qe_ HO_1001000.out) hb); replace HO_1015000 := Aside0.mk (Kd.Q_below (qe_ HO_1015000.out) hb); replace HO_1020000 := Aside0.mk (Kd.Q_below (qe_ HO_1020000.out) hb); replace HO1035 := Aside0.mk (Kd.R_below (re_ HO1035.out) hb); replace BK986 := bk_ BK986 hb; replace BK991 := bk_ BK991 hb; replace BK996 := bk_ BK996 hb; replace BK1000 := bk_ BK1000 hb; replace BK1014 := bk_ BK1014 hb; replace BK1019 := bk_ BK1019 hb; replace BK1037 := bk_ BK1037 hb; replace HB := bp_ HB hb; (try clear hb); have hcz315_0 := cz_ BK1037; have hfz315_0 := blk_frozen BK1037.out 0; have hcz316_0 := cz_ BK991; have hfz316_0 := blk_frozen BK991.out 0) | (go_at_call 16; (with_reducible refine (spec_EqualSemigroup.calls kj267 _ _ t1033 _ _ t987 true _ ?side1 ?side2 ?side3 ?side4 A288.out).mono ?_); (case side1 => exact ce_ ((Kd.R_reads' HO1035.out).2.2)); (case side2 => exact (Kd.R_reads' HO1035.out).2.1); (case side3 => exact ce_ ((Kd.Q_reads' HO_992000.out).2.2)); (case side4 => exact (Kd.Q_reads' HO_992000.out).2.1); rintro e w317 ⟨rfl, hb⟩; replace HO_22 := Aside0.mk (Kd.R_below (re_ HO_22.out) hb); replace HO_987000 := Aside0.mk (Kd.Q_below (qe_ HO_987000.out) hb); replace HO_992000 := Aside0.mk (Kd.Q_below (qe_ HO_992000.out) hb); replace HO_997000 := Aside0.mk (Kd.Q_below (qe_ HO_997000.out) hb); replace HO_1001000 := Aside0.mk (Kd.Q_below (qe_ HO_1001000.out) hb); replace HO_1015000 := Aside0.mk (Kd.Q_below (qe_ HO_1015000.out) hb); replace HO_1020000 := Aside0.mk (Kd.Q_below (qe_ HO_1020000.out) hb); replace HO1035 := Aside0.mk (Kd.R_below (re_ HO1035.out) hb); replace BK986 := bk_ BK986 hb; replace BK991 := bk_ BK991 hb; replace BK996 := bk_ BK996 hb; replace BK1000 := bk_ BK1000 hb; replace BK1014 := bk_ BK1014 hb; replace BK1019 := bk_ BK1019 hb; replace BK1037 := bk_ BK1037 hb; replace HB := bp_ HB hb; (try clear hb)))
      go_meet
      case rel => exact ⟨_, H', ⟨by have := HJ14.out; have := HJ267.out; first | omega | exact Nat.le_refl _⟩, ⟨by (with_reducible repeat (first | apply Kd.R_alloc | apply Kd.R_drewN | apply Kd.R_drew)); exact Kd.R_mono HO_22.out (fun _ hk => ⟨hk.1.1, ⟨hk.1.2.1, ⟨hk.1.2.2.1, ⟨hk.1.2.2.2.1, ⟨hk.1.2.2.2.2.1, hk.1.2.2.2.2.2⟩⟩⟩⟩⟩)⟩, ⟨by (with_reducible repeat (first | apply Kd.Q_alloc | apply Kd.Q_drewN | apply Kd.Q_drew)); exact Kd.Q_mono HO_987000.out (fun _ hk => ⟨hk.1.1, ⟨hk.1.2.1, ⟨hk.1.2.2.1, ⟨hk.1.2.2.2.1, ⟨hk.1.2.2.2.2.1, hk.1.2.2.2.2.2⟩⟩⟩⟩⟩)⟩, ⟨by (with_reducible repeat (first | apply Kd.Q_alloc | apply Kd.Q_drewN | apply Kd.Q_drew)); exact Kd.Q_mono HO_992000.out (fun _ hk => ⟨hk.1.1, ⟨hk.1.2.1, ⟨hk.1.2.2.1, ⟨hk.1.2.2.2.1, ⟨hk.1.2.2.2.2.1, hk.1.2.2.2.2.2⟩⟩⟩⟩⟩)⟩, ⟨by (with_reducible repeat (first | apply Kd.Q_alloc | apply Kd.Q_drewN | apply Kd.Q_drew)); exact Kd.Q_mono HO_997000.out (fun _ hk => ⟨hk.1.1, ⟨hk.1.2.1, ⟨hk.1.2.2.1, ⟨hk.1.2.2.2.1, ⟨hk.1.2.2.2.2.1, hk.1.2.2.2.2.2⟩⟩⟩⟩⟩)⟩, ⟨by (with_reducible repeat (first | apply Kd.Q_alloc | apply Kd.Q_drewN | apply Kd.Q_drew)); exact Kd.Q_mono HO_1001000.out (fun _ hk => ⟨hk.1.1, ⟨hk.1.2.1, ⟨hk.1.2.2.1, ⟨hk.1.2.2.2.1, ⟨hk.1.2.2.2.2.1, hk.1.2.2.2.2.2⟩⟩⟩⟩⟩)⟩, ⟨by (with_reducible repeat (first | apply Kd.Q_alloc | apply Kd.Q_drewN | apply Kd.Q_drew)); exact Kd.Q_mono HO_1015000.out (fun _ hk => ⟨hk.1.1, ⟨hk.1.2.1, ⟨hk.1.2.2.1, ⟨hk.1.2.2.2.1, ⟨hk.1.2.2.2.2.1, hk.1.2.2.2.2.2⟩⟩⟩⟩⟩)⟩, ⟨by (with_reducible repeat (first | apply Kd.Q_alloc | apply Kd.Q_drewN | apply Kd.Q_drew)); exact Kd.Q_mono HO_1020000.out (fun _ hk => ⟨hk.1.1, ⟨hk.1.2.1, ⟨hk.1.2.2.1, ⟨hk.1.2.2.2.1, ⟨hk.1.2.2.2.2.1, hk.1.2.2.2.2.2⟩⟩⟩⟩⟩)⟩, ⟨be_ BK986.out⟩, ⟨be_ BK991.out⟩, ⟨be_ BK996.out⟩, ⟨be_ BK1000.out⟩, ⟨be_ BK1014.out⟩, ⟨be_ BK1019.out⟩, ⟨bq_ HB⟩⟩
     case rest =>
      clear HC280
      obtain ⟨kq, HA, HJ279, HO_22, HO_987000, HO_992000, HO_997000, HO_1001000, HO_1015000, HO_1020000, BK986, BK991, BK996, BK1000, BK1014, BK1019, HB⟩ := hcut
      cases kq with
      | zero => exact absurd HA.out (by simp [laws_FnArf.j2])
      | succ kj279 =>
       have H := HA.out
       clear HA
       simp only [laws_FnArf.j2] at H
       have H' := Aside0.mk H
       clear H
       go_wp2
       go_loopg [28, 29] kj279 (fun kq v28 v29 w' => ∃ (x28_4 : Int) (x29_4 : Int), v28 = .int .i64 x28_4 ∧ v29 = .int .i64 x29_4 ∧ Aside0 (laws_FnArf.l0 kq t1001 t1020 t1023 x28_4 x29_4 t997 = some r) ∧ Aside0 (kq ≤ kj279) ∧ Aside0 (Kd.R (Kd.int .i64) 3 w' w.heap.size (fun k_ => some k_ ≠ ((.slice Ao18 t983.length co18) : Value).ownBlock ∧ some k_ ≠ ((.slice Ao22 t987.length co22) : Value).ownBlock ∧ some k_ ≠ ((.slice Ao28 t992.length co28) : Value).ownBlock ∧ some k_ ≠ ((.slice Ao34 t997.length co34) : Value).ownBlock ∧ some k_ ≠ ((.slice Ao47 t1010.length co47) : Value).ownBlock ∧ some k_ ≠ ((.slice Ao56 t1015.length co56) : Value).ownBlock) v1021 t1020) ∧ Aside0 (Kd.Q (Kd.int .i64) 3 w' w.heap.size (fun k_ => some k_ ≠ (v1021 : Value).ownBlock ∧ some k_ ≠ ((.slice Ao22 t987.length co22) : Value).ownBlock ∧ some k_ ≠ ((.slice Ao28 t992.length co28) : Value).ownBlock ∧ some k_ ≠ ((.slice Ao34 t997.length co34) : Value).ownBlock ∧ some k_ ≠ ((.slice Ao47 t1010.length co47) : Value).ownBlock ∧ some k_ ≠ ((.slice Ao56 t1015.length co56) : Value).ownBlock) (.slice Ao18 t983.length co18) t983) ∧ Aside0 (Kd.Q (Kd.int .i64) 3 w' w.heap.size (fun k_ => some k_ ≠ (v1021 : Value).ownBlock ∧ some k_ ≠ ((.slice Ao18 t983.length co18) : Value).ownBlock ∧ some k_ ≠ ((.slice Ao28 t992.length co28) : Value).ownBlock ∧ some k_ ≠ ((.slice Ao34 t997.length co34) : Value).ownBlock ∧ some k_ ≠ ((.slice Ao47 t1010.length co47) : Value).ownBlock ∧ some k_ ≠ ((.slice Ao56 t1015.length co56) : Value).ownBlock) (.slice Ao22 t987.length co22) t987) ∧ Aside0 (Kd.Q (Kd.int .i64) 3 w' w.heap.size (fun k_ => some k_ ≠ (v1021 : Value).ownBlock ∧ some k_ ≠ ((.slice Ao18 t983.length co18) : Value).ownBlock ∧ some k_ ≠ ((.slice Ao22 t987.length co22) : Value).ownBlock ∧ some k_ ≠ ((.slice Ao34 t997.length co34) : Value).ownBlock ∧ some k_ ≠ ((.slice Ao47 t1010.length co47) : Value).ownBlock ∧ some k_ ≠ ((.slice Ao56 t1015.length co56) : Value).ownBlock) (.slice Ao28 t992.length co28) t992) ∧ Aside0 (Kd.Q (Kd.int .i64) 3 w' w.heap.size (fun k_ => some k_ ≠ (v1021 : Value).ownBlock ∧ some k_ ≠ ((.slice Ao18 t983.length co18) : Value).ownBlock ∧ some k_ ≠ ((.slice Ao22 t987.length co22) : Value).ownBlock ∧ some k_ ≠ ((.slice Ao28 t992.length co28) : Value).ownBlock ∧ some k_ ≠ ((.slice Ao47 t1010.length co47) : Value).ownBlock ∧ some k_ ≠ ((.slice Ao56 t1015.length co56) : Value).ownBlock) (.slice Ao34 t997.length co34) t997) ∧ Aside0 (Kd.Q (Kd.int .i64) 3 w' w.heap.size (fun k_ => some k_ ≠ (v1021 : Value).ownBlock ∧ some k_ ≠ ((.slice Ao18 t983.length co18) : Value).ownBlock ∧ some k_ ≠ ((.slice Ao22 t987.length co22) : Value).ownBlock ∧ some k_ ≠ ((.slice Ao28 t992.length co28) : Value).ownBlock ∧ some k_ ≠ ((.slice Ao34 t997.length co34) : Value).ownBlock ∧ some k_ ≠ ((.slice Ao56 t1015.length co56) : Value).ownBlock) (.slice Ao47 t1010.length co47) t1010) ∧ Aside0 (Kd.Q (Kd.int .i64) 3 w' w.heap.size (fun k_ => some k_ ≠ (v1021 : Value).ownBlock ∧ some k_ ≠ ((.slice Ao18 t983.length co18) : Value).ownBlock ∧ some k_ ≠ ((.slice Ao22 t987.length co22) : Value).ownBlock ∧ some k_ ≠ ((.slice Ao28 t992.length co28) : Value).ownBlock ∧ some k_ ≠ ((.slice Ao34 t997.length co34) : Value).ownBlock ∧ some k_ ≠ ((.slice Ao47 t1010.length co47) : Value).ownBlock) (.slice Ao56 t1015.length co56) t1015) ∧ Aside0 (w'.heap[gb986]? = some (.cells #[(.slice Ao18 t983.length co18)] 26 (0, 0))) ∧ Aside0 (w'.heap[gb991]? = some (.cells #[(.slice Ao22 t987.length co22)] 26 (0, 0))) ∧ Aside0 (w'.heap[gb996]? = some (.cells #[(.slice Ao28 t992.length co28)] 26 (0, 0))) ∧ Aside0 (w'.heap[gb1000]? = some (.cells #[(.slice Ao34 t997.length co34)] 26 (0, 0))) ∧ Aside0 (w'.heap[gb1014]? = some (.cells #[(.slice Ao47 t1010.length co47)] 26 (0, 0))) ∧ Aside0 (w'.heap[gb1019]? = some (.cells #[(.slice Ao56 t1015.length co56)] 26 (0, 0))) ∧ Aside0 (Below w.heap.size w w'))
       case atStart => exact ⟨(0), (0), rs_, rs_, H', ⟨Nat.le_refl _⟩, ⟨re_ HO_22.out⟩, ⟨qe_ HO_987000.out⟩, ⟨qe_ HO_992000.out⟩, ⟨qe_ HO_997000.out⟩, ⟨qe_ HO_1001000.out⟩, ⟨qe_ HO_1015000.out⟩, ⟨qe_ HO_1020000.out⟩, ⟨be_ BK986.out⟩, ⟨be_ BK991.out⟩, ⟨be_ BK996.out⟩, ⟨be_ BK1000.out⟩, ⟨be_ BK1014.out⟩, ⟨be_ BK1019.out⟩, ⟨bq_ HB⟩⟩
       case round =>
        clear H'
        obtain ⟨x28_4, x29_4, rfl, rfl, HA, HK4, HO_22, HO_987000, HO_992000, HO_997000, HO_1001000, HO_1015000, HO_1020000, BK986, BK991, BK996, BK1000, BK1014, BK1019, HB⟩ := hrel
        cases gk with
        | zero => exact absurd HA.out (by simp [laws_FnArf.l0])
        | succ k4 =>
         have H := HA.out
         clear HA
         simp only [laws_FnArf.l0] at H
         have HC414 := Aside0.mk H
         clear H
         go_upto_region 24 with (fail)
         go_cut [186] (fun v186 wc => ∃ (kq : Nat) (x186_413 : Bool), v186 = .bool x186_413 ∧ Aside0 (laws_FnArf.j4 kq t1001 t1020 t1023 x28_4 x29_4 x186_413 t997 = some r) ∧ Aside0 (kq ≤ k4) ∧ Aside0 (Kd.R (Kd.int .i64) 3 wc w.heap.size (fun k_ => some k_ ≠ ((.slice Ao18 t983.length co18) : Value).ownBlock ∧ some k_ ≠ ((.slice Ao22 t987.length co22) : Value).ownBlock ∧ some k_ ≠ ((.slice Ao28 t992.length co28) : Value).ownBlock ∧ some k_ ≠ ((.slice Ao34 t997.length co34) : Value).ownBlock ∧ some k_ ≠ ((.slice Ao47 t1010.length co47) : Value).ownBlock ∧ some k_ ≠ ((.slice Ao56 t1015.length co56) : Value).ownBlock) v1021 t1020) ∧ Aside0 (Kd.Q (Kd.int .i64) 3 wc w.heap.size (fun k_ => some k_ ≠ (v1021 : Value).ownBlock ∧ some k_ ≠ ((.slice Ao22 t987.length co22) : Value).ownBlock ∧ some k_ ≠ ((.slice Ao28 t992.length co28) : Value).ownBlock ∧ some k_ ≠ ((.slice Ao34 t997.length co34) : Value).ownBlock ∧ some k_ ≠ ((.slice Ao47 t1010.length co47) : Value).ownBlock ∧ some k_ ≠ ((.slice Ao56 t1015.length co56) : Value).ownBlock) (.slice Ao18 t983.length co18) t983) ∧ Aside0 (Kd.Q (Kd.int .i64) 3 wc w.heap.size (fun k_ => some k_ ≠ (v1021 : Value).ownBlock ∧ some k_ ≠ ((.slice Ao18 t983.length co18) : Value).ownBlock ∧ some k_ ≠ ((.slice Ao28 t992.length co28) : Value).ownBlock ∧ some k_ ≠ ((.slice Ao34 t997.length co34) : Value).ownBlock ∧ some k_ ≠ ((.slice Ao47 t1010.length co47) : Value).ownBlock ∧ some k_ ≠ ((.slice Ao56 t1015.length co56) : Value).ownBlock) (.slice Ao22 t987.length co22) t987) ∧ Aside0 (Kd.Q (Kd.int .i64) 3 wc w.heap.size (fun k_ => some k_ ≠ (v1021 : Value).ownBlock ∧ some k_ ≠ ((.slice Ao18 t983.length co18) : Value).ownBlock ∧ some k_ ≠ ((.slice Ao22 t987.length co22) : Value).ownBlock ∧ some k_ ≠ ((.slice Ao34 t997.length co34) : Value).ownBlock ∧ some k_ ≠ ((.slice Ao47 t1010.length co47) : Value).ownBlock ∧ some k_ ≠ ((.slice Ao56 t1015.length co56) : Value).ownBlock) (.slice Ao28 t992.length co28) t992) ∧ Aside0 (Kd.Q (Kd.int .i64) 3 wc w.heap.size (fun k_ => some k_ ≠ (v1021 : Value).ownBlock ∧ some k_ ≠ ((.slice Ao18 t983.length co18) : Value).ownBlock ∧ some k_ ≠ ((.slice Ao22 t987.length co22) : Value).ownBlock ∧ some k_ ≠ ((.slice Ao28 t992.length co28) : Value).ownBlock ∧ some k_ ≠ ((.slice Ao47 t1010.length co47) : Value).ownBlock ∧ some k_ ≠ ((.slice Ao56 t1015.length co56) : Value).ownBlock) (.slice Ao34 t997.length co34) t997) ∧ Aside0 (Kd.Q (Kd.int .i64) 3 wc w.heap.size (fun k_ => some k_ ≠ (v1021 : Value).ownBlock ∧ some k_ ≠ ((.slice Ao18 t983.length co18) : Value).ownBlock ∧ some k_ ≠ ((.slice Ao22 t987.length co22) : Value).ownBlock ∧ some k_ ≠ ((.slice Ao28 t992.length co28) : Value).ownBlock ∧ some k_ ≠ ((.slice Ao34 t997.length co34) : Value).ownBlock ∧ some k_ ≠ ((.slice Ao56 t1015.length co56) : Value).ownBlock) (.slice Ao47 t1010.length co47) t1010) ∧ Aside0 (Kd.Q (Kd.int .i64) 3 wc w.heap.size (fun k_ => some k_ ≠ (v1021 : Value).ownBlock ∧ some k_ ≠ ((.slice Ao18 t983.length co18) : Value).ownBlock ∧ some k_ ≠ ((.slice Ao22 t987.length co22) : Value).ownBlock ∧ some k_ ≠ ((.slice Ao28 t992.length co28) : Value).ownBlock ∧ some k_ ≠ ((.slice Ao34 t997.length co34) : Value).ownBlock ∧ some k_ ≠ ((.slice Ao47 t1010.length co47) : Value).ownBlock) (.slice Ao56 t1015.length co56) t1015) ∧ Aside0 (wc.heap[gb986]? = some (.cells #[(.slice Ao18 t983.length co18)] 26 (0, 0))) ∧ Aside0 (wc.heap[gb991]? = some (.cells #[(.slice Ao22 t987.length co22)] 26 (0, 0))) ∧ Aside0 (wc.heap[gb996]? = some (.cells #[(.slice Ao28 t992.length co28)] 26 (0, 0))) ∧ Aside0 (wc.heap[gb1000]? = some (.cells #[(.slice Ao34 t997.length co34)] 26 (0, 0))) ∧ Aside0 (wc.heap[gb1014]? = some (.cells #[(.slice Ao47 t1010.length co47)] 26 (0, 0))) ∧ Aside0 (wc.heap[gb1019]? = some (.cells #[(.slice Ao56 t1015.length co56)] 26 (0, 0))) ∧ Aside0 (Below w.heap.size w wc))
         case first =>
          have H := HC414.out
          clear HC414
          by_cases c415 : x29_4 < (t1020.length : Int)
          rotate_left
          · rw [if_neg c415] at H
            have c415b0 : decide (x29_4 < (t1020.length : Int)) = false := decide_eq_false c415
            clear c415
            (first | rw [c415b0] | (simp only [i64_w, i32_w]; rw [c415b0]) | skip)
            have H' := Aside0.mk H
            clear H
            obtain ⟨Ao419, co419, eo419⟩ := Kd.R_slice HO_22.out
            subst eo419
            go_wp2
            go_meet
            case rel => exact ⟨_, (false), rs_, H', ⟨by have := HJ14.out; have := HJ267.out; have := HJ279.out; have := HK4.out; first | omega | exact Nat.le_refl _⟩, ⟨re_ HO_22.out⟩, ⟨qe_ HO_987000.out⟩, ⟨qe_ HO_992000.out⟩, ⟨qe_ HO_997000.out⟩, ⟨qe_ HO_1001000.out⟩, ⟨qe_ HO_1015000.out⟩, ⟨qe_ HO_1020000.out⟩, ⟨be_ BK986.out⟩, ⟨be_ BK991.out⟩, ⟨be_ BK996.out⟩, ⟨be_ BK1000.out⟩, ⟨be_ BK1014.out⟩, ⟨be_ BK1019.out⟩, ⟨bq_ HB⟩⟩
          rw [if_pos c415] at H
          have c415b0 : decide (x29_4 < (t1020.length : Int)) = true := decide_eq_true c415
          clear c415
          (first | rw [c415b0] | (simp only [i64_w, i32_w]; rw [c415b0]) | skip)
          by_cases c416 : t1001 = true
          · subst c416
            rw [if_pos rfl] at H
            have H' := Aside0.mk H
            clear H
            obtain ⟨Ao417, co417, eo417⟩ := Kd.R_slice HO_22.out
            subst eo417
            go_wp2
            go_meet
            case rel => exact ⟨_, (t1023), rs_, H', ⟨by have := HJ14.out; have := HJ267.out; have := HJ279.out; have := HK4.out; first | omega | exact Nat.le_refl _⟩, ⟨re_ HO_22.out⟩, ⟨qe_ HO_987000.out⟩, ⟨qe_ HO_992000.out⟩, ⟨qe_ HO_997000.out⟩, ⟨qe_ HO_1001000.out⟩, ⟨qe_ HO_1015000.out⟩, ⟨qe_ HO_1020000.out⟩, ⟨be_ BK986.out⟩, ⟨be_ BK991.out⟩, ⟨be_ BK996.out⟩, ⟨be_ BK1000.out⟩, ⟨be_ BK1014.out⟩, ⟨be_ BK1019.out⟩, ⟨bq_ HB⟩⟩
          replace c416 := Bool.eq_false_iff.mpr c416
          subst c416
          rw [if_neg (show ¬ (false = true) by decide)] at H
          have H' := Aside0.mk H
          clear H
          obtain ⟨Ao418, co418, eo418⟩ := Kd.R_slice HO_22.out
          subst eo418
          go_wp2
          go_meet
          case rel => exact ⟨_, (false), rs_, H', ⟨by have := HJ14.out; have := HJ267.out; have := HJ279.out; have := HK4.out; first | omega | exact Nat.le_refl _⟩, ⟨re_ HO_22.out⟩, ⟨qe_ HO_987000.out⟩, ⟨qe_ HO_992000.out⟩, ⟨qe_ HO_997000.out⟩, ⟨qe_ HO_1001000.out⟩, ⟨qe_ HO_1015000.out⟩, ⟨qe_ HO_1020000.out⟩, ⟨be_ BK986.out⟩, ⟨be_ BK991.out⟩, ⟨be_ BK996.out⟩, ⟨be_ BK1000.out⟩, ⟨be_ BK1014.out⟩, ⟨be_ BK1019.out⟩, ⟨bq_ HB⟩⟩
         case rest =>
          clear HC414
          obtain ⟨kq, x186_413, rfl, HA, HJ413, HO_22, HO_987000, HO_992000, HO_997000, HO_1001000, HO_1015000, HO_1020000, BK986, BK991, BK996, BK1000, BK1014, BK1019, HB⟩ := hcut
          cases kq with
          | zero => exact absurd HA.out (by simp [laws_FnArf.j4])
          | succ kj413 =>
           have H := HA.out
           clear HA
           simp only [laws_FnArf.j4] at H
           by_cases c420 : x186_413 = true
           rotate_left
           · replace c420 := Bool.eq_false_iff.mpr c420
             subst c420
             rw [if_neg (show ¬ (false = true) by decide)] at H
             obtain rfl := Option.some.inj H
             go_wp2
             go_ret
             exact ⟨rf_, bq_ HB⟩
           subst c420
           rw [if_pos rfl] at H
           obtain ⟨c421b0, H⟩ := ipd_ H
           obtain ⟨c422b0, H⟩ := ipd_ H
           obtain ⟨t1042, A423, H⟩ := ob_ H
           by_cases c424 : t1042 = (wrap64 (x28_4 + (rd t1020 x29_4)))
           rotate_left
           · rw [if_neg c424] at H
             exact absurd (H.trans (congrArg some hr_.out)) (by simp)
           rw [if_pos c424] at H
           have c424b0 : (t1042 == (wrap64 (x28_4 + (rd t1020 x29_4)))) = true := beq_iff_eq.mpr c424
           have c424b1 : (t1042 != (wrap64 (x28_4 + (rd t1020 x29_4)))) = false := bne_eq_false_iff_eq.mpr c424
           clear c424
           have H' := Aside0.mk H
           clear H
           obtain ⟨Ao425, co425, eo425⟩ := Kd.R_slice HO_22.out
           subst eo425
           have p1041 : 0 ≤ (x29_4 : Int) := od_
           have q1041 : x29_4 < (t1020.length : Int) := od_
           obtain ⟨ad1041, e1041, hx1041_0⟩ := Kd.at_int (Kd.R_reads' HO_22.out).2.2 x29_4 p1041 q1041
           cases e1041
           replace p1041 := eq_true p1041
           replace q1041 := eq_true q1041
           have hnb426 := NB1000_986.out
           have hnc426 := NB986_1000.out
           have hnb427 := NB1000_991.out
           have hnc427 := NB991_1000.out
           have hnb428 := NB1000_996.out
           have hnc428 := NB996_1000.out
           have hnb429 := NB1000_1014.out
           have hnc429 := NB1014_1000.out
           have hnb430 := NB1000_1019.out
           have hnc430 := NB1019_1000.out
           have hcz431_0 := cz_ BK1000
           have hfz431_0 := blk_frozen BK1000.out 0
           go_wp2_with (first | ((with_reducible refine gate_callee (f := 21) rfl ?_); refine gL_ (some 198) Try.func21 #[.agg #[.slice Ao34 t997.length co34], .int .i64 (wrap64 (x29_4 + 1))] ?_; (with_reducible refine (impl_ElementAt.calls kj413 _ _ t997 (wrap64 (x29_4 + 1)) t1042 _ ?side1 ?side2 A423.out).mono ?_); (case side1 => exact ce_ ((Kd.Q_reads' HO_1001000.out).2.2)); (case side2 => exact (Kd.Q_reads' HO_1001000.out).2.1); rintro e w432 ⟨rfl, hb⟩; refine ⟨_, rfl, ?_⟩; replace HO_22 := Aside0.mk (Kd.R_below (re_ HO_22.out) hb); replace HO_987000 := Aside0.mk (Kd.Q_below (qe_ HO_987000.out) hb); replace HO_992000 := Aside0.mk (Kd.Q_below (qe_ HO_992000.out) hb); replace HO_997000 := Aside0.mk (Kd.Q_below (qe_ HO_997000.out) hb); replace HO_1001000 := Aside0.mk (Kd.Q_below (qe_ HO_1001000.out) hb); replace HO_1015000 := Aside0.mk (Kd.Q_below (qe_ HO_1015000.out) hb); replace HO_1020000 := Aside0.mk (Kd.Q_below (qe_ HO_1020000.out) hb); replace BK986 := bk_ BK986 hb; replace BK991 := bk_ BK991 hb; replace BK996 := bk_ BK996 hb; replace BK1000 := bk_ BK1000 hb; replace BK1014 := bk_ BK1014 hb; replace BK1019 := bk_ BK1019 hb; replace HB := bp_ HB hb; (try clear hb)))
           go_roundg kj413
           case measure => have := HJ14.out; have := HJ267.out; have := HJ279.out; have := HK4.out; have := HJ413.out; omega
           case rel => exact ⟨(wrap64 (x28_4 + (rd t1020 x29_4))), (wrap64 (x29_4 + 1)), rs_, rs_, H', ⟨by have := HJ14.out; have := HJ267.out; have := HJ279.out; have := HK4.out; have := HJ413.out; omega⟩, ⟨re_ HO_22.out⟩, ⟨qe_ HO_987000.out⟩, ⟨qe_ HO_992000.out⟩, ⟨qe_ HO_997000.out⟩, ⟨qe_ HO_1001000.out⟩, ⟨qe_ HO_1015000.out⟩, ⟨qe_ HO_1020000.out⟩, ⟨be_ BK986.out⟩, ⟨be_ BK991.out⟩, ⟨be_ BK996.out⟩, ⟨be_ BK1000.out⟩, ⟨be_ BK1014.out⟩, ⟨be_ BK1019.out⟩, ⟨bq_ HB⟩⟩
def laws_FnArf.Pure : Prop := ∀ (l0 : List Int), l0.length ≤ maxLen → l0.length * 1 ≤ 140737488351232 → (∀ x ∈ l0, (Lit.int .u8 x).wf = true) → ∃ k, laws_FnArf.f k l0 = some true
theorem laws_FnArf.walk (P : laws_FnArf.Pure) (a0 : Option Addr) (len0 cap0 : Nat) (z0 : List Int) (w : World) (w0 : (a0 = none ∧ len0 = 0 ∧ cap0 = 0 ∧ z0 = []) ∨ ∃ x, a0 = some x ∧ len0 ≤ cap0 ∧ cap0 ≤ maxLen ∧ z0.length = cap0 ∧ (∀ i, i < z0.length → w.cell? (x.add i) = some (.int .u8 (z0.getD i 0))) ∧ ∀ n ∈ z0, (Lit.int .u8 n).wf = true) (y0 : len0 * 1 ≤ 140737488351232) :
 Calls Try.prog 3 #[.slice a0 len0 cap0] w fun e w' => e = .returned (.bool true) ∧ Below w.heap.size w w' := by
 obtain ⟨l0, rfl, hr0, hm0, hw0, hc0⟩ := ReadsInt.ofRowC w0
 obtain ⟨k, h⟩ := P l0 hm0 y0 hw0
 refine (laws_FnArf.calls k _ _ l0 true w (Kd.C_of_reads (d := (0 : Int)) (h1 := fun _ => rfl) hr0) hc0 h).mono ?_
 rintro e w' ⟨rfl, hd⟩
 exact ⟨rfl, hd⟩
end Go.Proofs.Ytppkokbhgkeknaa.PA
end
section
namespace Go.Proofs.Ytppkokbhgkeknaa.E
open Go.RowKit Go.Proofs.YtppkokbhgkeknaaW.PrintWords Go.Proofs.YtppkokbhgkeknaaW.PrintLast Go.Proofs.YtppkokbhgkeknaaW.PrintMore
set_option linter.unusedVariables false
set_option linter.unusedSimpArgs false
theorem w64 {x : Int} (h1 : -9223372036854775808 ≤ x) (h2 : x ≤ 9223372036854775807) : wrap64 x = x := by
 unfold wrap64; omega
theorem nd_t {p : Prop} [Decidable p] (h : ¬ p) : (!decide p) = true := by simp [h]
theorem nd_f {p : Prop} [Decidable p] (h : p) : ¬ (!decide p) = true := by simp [h]
theorem d_t {p : Prop} [Decidable p] (h : p) : decide p = true := by simp [h]
theorem d_f {p : Prop} [Decidable p] (h : ¬ p) : ¬ decide p = true := by simp [h]
theorem emod_le_self {n x : Int} (h : 0 ≤ n) (hx : 0 < x) : n % x ≤ n := by
 have h1 := Int.mul_ediv_add_emod n x
 have h2 : 0 ≤ x * (n / x) := Int.mul_nonneg (by omega) (Int.ediv_nonneg h (by omega))
 omega
theorem ev_ifp {α : Type} {c : Prop} [Decidable c] {a b : Nat → Option α} {r : α} (h : c) (k : Ev a r) : Ev (fun n => if c then a n else b n) r :=
 Ev.congr (fun _ => if_pos h) k
theorem ev_ifn {α : Type} {c : Prop} [Decidable c] {a b : Nat → Option α} {r : α} (h : ¬ c) (k : Ev b r) : Ev (fun n => if c then a n else b n) r :=
 Ev.congr (fun _ => if_neg h) k
theorem ev_bind {α β : Type} {g : Nat → Option α} {f : Nat → α → Option β} (a : α) {r : β} (h : Ev g a) (k : Ev (fun n => f n a) r) : Ev (fun n => (g n).bind (f n)) r := Ev.bind h k
theorem ev_one {α : Type} {g : Nat → Option α} {a b : α} (h : Ev g a) (k : Ev g b) : a = b := by
 obtain ⟨K, h⟩ := h
 obtain ⟨L, k⟩ := k
 have h1 := h (max K L) (by omega)
 have h2 := k (max K L) (by omega)
 rw [h1] at h2
 exact Option.some.inj h2
theorem ev_to {α : Type} {g : Nat → Option α} {a b : α} (h : Ev g a) (e : a = b) : Ev g b := e ▸ h
theorem rd_lt {l : List Int} {i : Int} (h0 : 0 ≤ i) (h : i < l.length) : rd l i = l[i.toNat]'(by omega) := by
 unfold rd; rw [List.getD_eq_getElem?_getD, List.getElem?_eq_getElem (by omega)]; rfl
theorem rd_mem {l : List Int} {i : Int} (h0 : 0 ≤ i) (h : i < l.length) : rd l i ∈ l := by
 rw [rd_lt h0 h]; exact List.getElem_mem _
theorem drop_rd {l : List Int} {i : Int} (h0 : 0 ≤ i) (h : i < l.length) : l.drop i.toNat = rd l i :: l.drop (i + 1).toNat := by
 rw [rd_lt h0 h, List.drop_eq_getElem_cons (by omega)]
 congr 2; omega
theorem take_rd {l : List Int} {i : Int} (h0 : 0 ≤ i) (h : i < l.length) : l.take (i + 1).toNat = l.take i.toNat ++ [rd l i] := by
 rw [rd_lt h0 h, show (i + 1).toNat = i.toNat + 1 from by omega, List.take_succ_eq_append_getElem (by omega)]
theorem rd_ext {l m : List Int} (hl : l.length = m.length) (h : ∀ i : Int, 0 ≤ i → i < l.length → rd l i = rd m i) : l = m := by
 refine List.ext_getElem hl fun n h1 h2 => ?_
 have := h n (by omega) (by omega)
 rw [rd_lt (by omega) (by omega), rd_lt (by omega) (by omega)] at this
 simpa using this
theorem rd_set {l : List Int} {i j : Int} (x : Int) (hi : 0 ≤ i) (hi' : i < l.length) (hj : 0 ≤ j) : rd (l.set i.toNat x) j = if j = i then x else rd l j := by
 unfold rd
 rw [List.getD_eq_getElem?_getD, List.getD_eq_getElem?_getD, List.getElem?_set]
 by_cases h : j = i
 · subst h; rw [if_pos rfl, if_pos rfl, if_pos (by omega)]; rfl
 · rw [if_neg h, if_neg (by omega)]
theorem rd_append {l m : List Int} {i : Int} (hi : 0 ≤ i) : rd (l ++ m) i = if i < l.length then rd l i else rd m (i - l.length) := by
 unfold rd
 rw [List.getD_eq_getElem?_getD, List.getD_eq_getElem?_getD, List.getD_eq_getElem?_getD, List.getElem?_append]
 by_cases h : i < l.length
 · rw [if_pos h, if_pos (by omega)]
 · rw [if_neg h, if_neg (by omega), show i.toNat - l.length = (i - l.length).toNat from by omega]
theorem rd_rep {n : Nat} {x : Int} {i : Int} (hi : 0 ≤ i) (h : i < n) : rd (List.replicate n x) i = x := by
 rw [rd_lt hi (by simpa using h)]; simp
theorem mem_rd {l : List Int} {x : Int} (h : x ∈ l) : ∃ i : Int, 0 ≤ i ∧ i < l.length ∧ rd l i = x := by
 obtain ⟨n, hn, rfl⟩ := List.mem_iff_getElem.1 h
 exact ⟨n, by omega, by omega, by rw [rd_lt (by omega) (by omega)]; simp⟩
end Go.Proofs.Ytppkokbhgkeknaa.E
end
section
namespace Go.Proofs.Ytppkokbhgkeknaa.E
open Go.RowKit Go.Proofs.Ytppkokbhgkeknaa.PA Go.Proofs.YtppkokbhgkeknaaW.PrintWords Go.Proofs.YtppkokbhgkeknaaW.PrintLast Go.Proofs.YtppkokbhgkeknaaW.PrintMore
set_option linter.unusedVariables false
set_option linter.unusedSimpArgs false
theorem l1In_eq (n lo hi : Int) : spec_l1In.f n lo hi = some (decide (lo ≤ n ∧ n ≤ hi)) := by
 unfold spec_l1In.f; by_cases h : n ≥ lo
 · rw [if_pos h]; simp [h]
 · rw [if_neg h]; simp [show ¬ lo ≤ n from h]
theorem within_eq (n lo hi : Int) : impl_within.f n lo hi = some (decide (lo ≤ n ∧ n ≤ hi)) := l1In_eq n lo hi
theorem allWithin_l {l : List Int} {lo hi : Int} (hl : l.length ≤ 1099511627776) (d : Nat) : ∀ (i : Int), 0 ≤ i → i + d = l.length → Ev (fun k => impl_allWithin.l0 k lo hi l l.length i) (decide (∀ x ∈ l.drop i.toNat, lo ≤ x ∧ x ≤ hi)) := by
 induction d with
 | zero =>
  intro i h0 h1
  refine Ev.step (fun k => by rw [impl_allWithin.l0]) ?_
  simp (disch := omega) only [if_neg]
  refine ev_to (Ev.now _) ?_
  rw [List.drop_of_length_le (by omega)]; simp
 | succ d ih =>
  intro i h0 h1
  refine Ev.step (fun k => by rw [impl_allWithin.l0]) ?_
  simp (disch := omega) only [if_pos, w64, within_eq, Option.bind_some]
  rw [drop_rd h0 (by omega)]
  by_cases h : lo ≤ rd l i ∧ rd l i ≤ hi
  · refine ev_ifp (by simpa using h) (ev_to (ih (i + 1) (by omega) (by omega)) ?_)
    simp [h]
  · refine ev_ifn (by simpa using h) (ev_to (Ev.now _) ?_)
    simp only [List.mem_cons, forall_eq_or_imp, h, false_and, decide_false]
theorem allWithin_ev {l : List Int} (lo hi : Int) (hl : l.length ≤ 1099511627776) : Ev (fun k => impl_allWithin.f k l lo hi) (decide (∀ x ∈ l, lo ≤ x ∧ x ≤ hi)) :=
 ev_to (allWithin_l hl l.length 0 (by omega) (by omega)) (by simp)
def Asc (l : List Int) : Prop := ∀ i : Int, 0 < i → i < l.length → rd l (i - 1) < rd l i
noncomputable instance (l : List Int) : Decidable (Asc l) := Classical.propDecidable _
theorem asc_l {l : List Int} (hl : l.length ≤ 1099511627776) (d : Nat) : ∀ (i : Int), 0 < i → i + d = max 1 l.length → (∀ j, 0 < j → j < i → rd l (j - 1) < rd l j) → Ev (fun k => impl_IsAscending.l0 k l i) (decide (Asc l)) ∧ Ev (fun k => spec_IsAscending.l0 k l i) (decide (Asc l)) := by
 induction d with
 | zero =>
  intro i h0 h1 h2
  have ha : Asc l := fun j hj hj' => h2 j hj (by omega)
  constructor
  · refine Ev.step (fun k => by rw [impl_IsAscending.l0]) ?_
    simp (disch := omega) only [if_neg]
    exact ev_to (Ev.now _) (by simp [ha])
  · refine Ev.step (fun k => by rw [spec_IsAscending.l0]) ?_
    simp (disch := omega) only [if_neg]
    exact ev_to (Ev.now _) (by simp [ha])
 | succ d ih =>
  intro i h0 h1 h2
  by_cases h : rd l (i - 1) < rd l i
  · obtain ⟨a, b⟩ := ih (i + 1) (by omega) (by omega) (fun j hj hj' => by
     by_cases e : j = i
     · subst e; exact h
     · exact h2 j hj (by omega))
    constructor
    · refine Ev.step (fun k => by rw [impl_IsAscending.l0]) ?_
      simp (disch := omega) only [if_pos, if_neg, w64]
      exact a
    · refine Ev.step (fun k => by rw [spec_IsAscending.l0]) ?_
      simp (disch := omega) only [if_pos, if_neg, w64]
      exact b
  · have hn : ¬ Asc l := fun ha => h (ha i h0 (by omega))
    constructor
    · refine Ev.step (fun k => by rw [impl_IsAscending.l0]) ?_
      simp (disch := omega) only [if_pos, w64]
      exact ev_to (Ev.now _) (by simp [hn])
    · refine Ev.step (fun k => by rw [spec_IsAscending.l0]) ?_
      simp (disch := omega) only [if_pos, w64]
      exact ev_to (Ev.now _) (by simp [hn])
theorem ascI_ev {l : List Int} (hl : l.length ≤ 1099511627776) : Ev (fun k => impl_IsAscending.f k l) (decide (Asc l)) :=
 (asc_l hl (l.length - 1) 1 (by omega) (by omega) (fun j h h' => by omega)).1
theorem ascS_ev {l : List Int} (hl : l.length ≤ 1099511627776) : Ev (fun k => spec_IsAscending.f k l) (decide (Asc l)) :=
 (asc_l hl (l.length - 1) 1 (by omega) (by omega) (fun j h h' => by omega)).2
end Go.Proofs.Ytppkokbhgkeknaa.E
end
section
namespace Go.Proofs.Ytppkokbhgkeknaa.E
open Go.RowKit Go.Proofs.YtppkokbhgkeknaaW.PrintWords Go.Proofs.YtppkokbhgkeknaaW.PrintLast Go.Proofs.YtppkokbhgkeknaaW.PrintMore
set_option linter.unusedVariables false
set_option linter.unusedSimpArgs false
theorem asc_lt {g : List Int} (h : Asc g) (d : Nat) : ∀ i j : Int, 0 ≤ i → j = i + d + 1 → j < g.length → rd g i < rd g j := by
 induction d with
 | zero =>
  intro i j h0 h1 h2
  have := h j (by omega) h2
  rwa [show j - 1 = i from by omega] at this
 | succ d ih =>
  intro i j h0 h1 h2
  have a := ih i (j - 1) h0 (by omega) (by omega)
  have b := h j (by omega) h2
  omega
inductive Way (v : List Int) : Int → Int → Prop
 | zero : Way v 0 0
 | add {x k c : Int} : x ∈ v → Way v k c → Way v (k + x) (c + 1)
theorem Way.mono {v u : List Int} (h : ∀ x ∈ v, x ∈ u) {k c : Int} (w : Way v k c) : Way u k c := by
 induction w with
 | zero => exact .zero
 | add hx _ ih => exact .add (h _ hx) ih
theorem Way.pos {v : List Int} (h : ∀ x ∈ v, 1 ≤ x) {k c : Int} (w : Way v k c) : 0 ≤ c ∧ c ≤ k := by
 induction w with
 | zero => omega
 | add hx _ ih => have := h _ hx; omega
theorem Way.plus {v : List Int} {k c : Int} (w : Way v k c) {k' c' : Int} (w' : Way v k' c') : Way v (k + k') (c + c') := by
 induction w' with
 | zero => simpa using w
 | @add x k1 c1 hx _ ih =>
  rw [← Int.add_assoc, ← Int.add_assoc]
  exact .add hx ih
theorem Way.times {v : List Int} {x : Int} (hx : x ∈ v) (j : Nat) : Way v (j * x) j := by
 induction j with
 | zero => simpa using Way.zero
 | succ j ih =>
  have := Way.add hx ih
  rw [show ((j + 1 : Nat) : Int) * x = j * x + x from by rw [Int.natCast_add, Int.add_mul]; simp]
  exact this
theorem Way.part {v u : List Int} {k c : Int} (w : Way v k c) : Way u k c ∨ ∃ y ∈ v, y ∉ u ∧ Way v (k - y) (c - 1) := by
 induction w with
 | zero => exact .inl .zero
 | @add x k c hx hw ih =>
  by_cases hu : x ∈ u
  · rcases ih with h | ⟨y, hy, hyu, h⟩
    · exact .inl (.add hu h)
    · refine .inr ⟨y, hy, hyu, ?_⟩
      have := Way.add hx h
      rwa [show k - y + x = k + x - y from by omega, show c - 1 + 1 = c + 1 - 1 from by omega] at this
  · exact .inr ⟨x, hx, hu, by rwa [show k + x - x = k from by omega, show c + 1 - 1 = c from by omega]⟩
theorem Way.last {v : List Int} {k c : Int} (w : Way v k c) : (k = 0 ∧ c = 0) ∨ ∃ x ∈ v, Way v (k - x) (c - 1) := by
 cases w with
 | zero => exact .inl ⟨rfl, rfl⟩
 | @add x k c hx hw => exact .inr ⟨x, hx, by rwa [show k + x - x = k from by omega, show c + 1 - 1 = c from by omega]⟩
theorem Way.split {u : List Int} {x : Int} {k c : Int} (w : Way (u ++ [x]) k c) : ∃ j : Nat, Way u (k - j * x) (c - j) := by
 induction w with
 | zero => exact ⟨0, by simpa using Way.zero⟩
 | @add y k c hy _ ih =>
  obtain ⟨j, h⟩ := ih
  rcases List.mem_append.1 hy with hu | hx
  · refine ⟨j, ?_⟩
    have := Way.add hu h
    rwa [show k - j * x + y = k + y - j * x from by omega, show c - (j : Int) + 1 = c + 1 - j from by omega] at this
  · obtain rfl : y = x := by simpa using hx
    refine ⟨j + 1, ?_⟩
    rw [show ((j + 1 : Nat) : Int) * y = j * y + y from by rw [Int.natCast_add, Int.add_mul]; simp, show k + y - (j * y + y) = k - j * y from by omega, show c + 1 - ((j + 1 : Nat) : Int) = c - j from by omega]
    exact h
def Fw (v : List Int) (k m : Int) : Prop := (m = -1 ∧ ∀ c, ¬ Way v k c) ∨ (Way v k m ∧ ∀ c, Way v k c → m ≤ c)
theorem Fw.one {v : List Int} (hv : ∀ x ∈ v, 1 ≤ x) {k m m' : Int} (h : Fw v k m) (h' : Fw v k m') : m = m' := by
 rcases h with ⟨h1, h2⟩ | ⟨h1, h2⟩ <;> rcases h' with ⟨h3, h4⟩ | ⟨h3, h4⟩
 · omega
 · exact absurd h3 (h2 _)
 · exact absurd h1 (h4 _)
 · have := h2 _ h3; have := h4 _ h1; omega
theorem Fw.neg {v : List Int} (hv : ∀ x ∈ v, 1 ≤ x) {k m : Int} (h : Fw v k m) : m < 0 ↔ ∀ c, ¬ Way v k c := by
 rcases h with ⟨h1, h2⟩ | ⟨h1, h2⟩
 · exact ⟨fun _ => h2, fun _ => by omega⟩
 · have := h1.pos hv
   exact ⟨fun h => by omega, fun h => absurd h1 (h _)⟩
theorem Fw.ge {v : List Int} (hv : ∀ x ∈ v, 1 ≤ x) {k m : Int} (h : Fw v k m) : -1 ≤ m := by
 rcases h with ⟨h1, h2⟩ | ⟨h1, h2⟩
 · omega
 · have := h1.pos hv; omega
theorem Fw.le {v : List Int} (hv : ∀ x ∈ v, 1 ≤ x) {k m : Int} (h : Fw v k m) (hk : 0 ≤ k) : m ≤ k := by
 rcases h with ⟨h1, h2⟩ | ⟨h1, h2⟩
 · omega
 · have := h1.pos hv; omega
theorem Fw.way {v : List Int} {k m : Int} (h : Fw v k m) (hm : 0 ≤ m) : Way v k m ∧ ∀ c, Way v k c → m ≤ c := by
 rcases h with ⟨h1, h2⟩ | h
 · omega
 · exact h
theorem Fw.nil {k : Int} (hk : 0 ≤ k) : Fw [] k (if k = 0 then 0 else -1) := by
 by_cases h : k = 0
 · subst h
   exact .inr ⟨.zero, fun c w => (w.pos (by simp)).1⟩
 · rw [if_neg h]
   refine .inl ⟨rfl, fun c w => ?_⟩
   rcases w.last with ⟨h1, _⟩ | ⟨x, hx, _⟩
   · exact h h1
   · simp at hx
theorem Fw.below {u : List Int} {x k m : Int} (hu : ∀ y ∈ u, 1 ≤ y) (hk : k < x) (h : Fw u k m) (h0 : 0 ≤ k) : Fw (u ++ [x]) k m := by
 have hv : ∀ y ∈ u ++ [x], 1 ≤ y := by
  intro y hy
  rcases List.mem_append.1 hy with hy | hy
  · exact hu y hy
  · have : y = x := by simpa using hy
    omega
 have key : ∀ c, Way (u ++ [x]) k c → Way u k c := by
  intro c w
  obtain ⟨j, hj⟩ := w.split
  by_cases h : j = 0
  · subst h; simpa using hj
  · exfalso
    have := hj.pos hu
    have hj1 : x ≤ (j : Int) * x := by
     have := Int.mul_le_mul_of_nonneg_right (show (1 : Int) ≤ j from by omega) (show 0 ≤ x from by omega)
     omega
    omega
 rcases h with ⟨h1, h2⟩ | ⟨h1, h2⟩
 · exact .inl ⟨h1, fun c w => h2 c (key c w)⟩
 · exact .inr ⟨h1.mono (fun y hy => List.mem_append.2 (.inl hy)), fun c w => h2 c (key c w)⟩
theorem Fw.next {u : List Int} {x k m p : Int} (hu : ∀ y ∈ u, 1 ≤ y) (hx : 1 ≤ x) (h : Fw u k m) (hp : Fw (u ++ [x]) (k - x) p) :
 Fw (u ++ [x]) k (if p ≥ 0 then (if m < 0 then p + 1 else if p + 1 < m then p + 1 else m) else m) := by
 have hv : ∀ y ∈ u ++ [x], 1 ≤ y := by
  intro y hy
  rcases List.mem_append.1 hy with hy | hy
  · exact hu y hy
  · have : y = x := by simpa using hy
    omega
 have key : ∀ c, Way (u ++ [x]) k c → Way u k c ∨ Way (u ++ [x]) (k - x) (c - 1) := by
  intro c w
  rcases w.part (u := u) with h | ⟨y, hy, hyu, h⟩
  · exact .inl h
  · rcases List.mem_append.1 hy with hy | hy
    · exact absurd hy hyu
    · obtain rfl : y = x := by simpa using hy
      exact .inr h
 have hup : ∀ c, Way u k c → Way (u ++ [x]) k c := fun c w => w.mono (fun y hy => List.mem_append.2 (.inl hy))
 have hone : ∀ c, Way (u ++ [x]) (k - x) c → Way (u ++ [x]) k (c + 1) := fun c w => by
  have := Way.add (show x ∈ u ++ [x] by simp) w
  rwa [show k - x + x = k from by omega] at this
 have hm := h.neg hu
 have hpn := hp.neg hv
 by_cases c1 : p ≥ 0
 · rw [if_pos c1]
   obtain ⟨p1, p2⟩ := hp.way c1
   by_cases c2 : m < 0
   · rw [if_pos c2]
     refine .inr ⟨hone _ p1, fun c w => ?_⟩
     rcases key c w with h1 | h1
     · exact absurd h1 (hm.1 c2 c)
     · have := p2 _ h1; omega
   · rw [if_neg c2]
     obtain ⟨m1, m2⟩ := h.way (by omega)
     by_cases c3 : p + 1 < m
     · rw [if_pos c3]
       refine .inr ⟨hone _ p1, fun c w => ?_⟩
       rcases key c w with h1 | h1
       · have := m2 _ h1; omega
       · have := p2 _ h1; omega
     · rw [if_neg c3]
       refine .inr ⟨hup _ m1, fun c w => ?_⟩
       rcases key c w with h1 | h1
       · exact m2 _ h1
       · have := p2 _ h1; omega
 · rw [if_neg c1]
   rcases h with ⟨h1, h2⟩ | ⟨h1, h2⟩
   · refine .inl ⟨h1, fun c w => ?_⟩
     rcases key c w with h3 | h3
     · exact h2 _ h3
     · exact hpn.1 (by omega) _ h3
   · refine .inr ⟨hup _ h1, fun c w => ?_⟩
     rcases key c w with h3 | h3
     · exact h2 _ h3
     · exact absurd h3 (hpn.1 (by omega) _)
end Go.Proofs.Ytppkokbhgkeknaa.E
end
