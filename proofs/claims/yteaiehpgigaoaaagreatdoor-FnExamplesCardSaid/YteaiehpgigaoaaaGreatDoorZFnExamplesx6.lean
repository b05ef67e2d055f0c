-- Bundled by shake.py from this session's printed and written texts; Lean checks it.
import Derived.Test.YteaiehpgigaoaaaGreatDoorZFnExamplesx1
import Derived.Test.YteaiehpgigaoaaaGreatDoorZFnExamplesx3
import Derived.Test.YteaiehpgigaoaaaGreatDoorZFnExamplesx4
import Derived.Test.YteaiehpgigaoaaaGreatDoorZFnExamplesx5
section
namespace Go.Proofs.YteaiehpgigaoaaaGreatDoor.PB
open Go.RowKit Go.Proofs.YteaiehpgigaoaaaGreatDoorW.PrintWords Go.Proofs.YteaiehpgigaoaaaGreatDoorW.PrintLast Go.Proofs.YteaiehpgigaoaaaGreatDoorW.PrintMore
attribute [local go_sem] max2_int min2_int max_two min_two max_three min_three max_four min_four
set_option linter.unusedVariables false
set_option linter.unusedSimpArgs false
set_option maxHeartbeats 8000000
set_option maxRecDepth 100000
def spec_DescribeSemigroup.f (k : Nat) (l0_0 : List Int) : Option (ByteArray) := (spec_IsSemigroup.f k l0_0).bind fun t407 => (if t407 = true then ((spec_FrobeniusOf.f k l0_0).bind fun t408 => ((spec_FormatInt.f k t408).bind fun t409 => (if 10 + t409.size ≤ 9223372036854775807 then (if ((⟨#[102, 114, 111, 98, 101, 110, 105, 117, 115, 32]⟩ : ByteArray) ++ t409).size + 7 ≤ 9223372036854775807 then ((spec_GenusOf.f k l0_0).bind fun t410 => ((spec_FormatInt.f k t410).bind fun t411 => (if (((⟨#[102, 114, 111, 98, 101, 110, 105, 117, 115, 32]⟩ : ByteArray) ++ t409) ++ (⟨#[32, 103, 101, 110, 117, 115, 32]⟩ : ByteArray)).size + t411.size ≤ 9223372036854775807 then (if ((((⟨#[102, 114, 111, 98, 101, 110, 105, 117, 115, 32]⟩ : ByteArray) ++ t409) ++ (⟨#[32, 103, 101, 110, 117, 115, 32]⟩ : ByteArray)) ++ t411).size + 6 ≤ 9223372036854775807 then ((spec_TypeOf.f k l0_0).bind fun t412 => ((spec_FormatInt.f k t412).bind fun t413 => (if (((((⟨#[102, 114, 111, 98, 101, 110, 105, 117, 115, 32]⟩ : ByteArray) ++ t409) ++ (⟨#[32, 103, 101, 110, 117, 115, 32]⟩ : ByteArray)) ++ t411) ++ (⟨#[32, 116, 121, 112, 101, 32]⟩ : ByteArray)).size + t413.size ≤ 9223372036854775807 then (if ((((((⟨#[102, 114, 111, 98, 101, 110, 105, 117, 115, 32]⟩ : ByteArray) ++ t409) ++ (⟨#[32, 103, 101, 110, 117, 115, 32]⟩ : ByteArray)) ++ t411) ++ (⟨#[32, 116, 121, 112, 101, 32]⟩ : ByteArray)) ++ t413).size + 1 ≤ 9223372036854775807 then ((spec_l29Kind.f k l0_0).bind fun t414 => (if (((((((⟨#[102, 114, 111, 98, 101, 110, 105, 117, 115, 32]⟩ : ByteArray) ++ t409) ++ (⟨#[32, 103, 101, 110, 117, 115, 32]⟩ : ByteArray)) ++ t411) ++ (⟨#[32, 116, 121, 112, 101, 32]⟩ : ByteArray)) ++ t413) ++ (⟨#[32]⟩ : ByteArray)).size + t414.size ≤ 9223372036854775807 then (if ((((((((⟨#[102, 114, 111, 98, 101, 110, 105, 117, 115, 32]⟩ : ByteArray) ++ t409) ++ (⟨#[32, 103, 101, 110, 117, 115, 32]⟩ : ByteArray)) ++ t411) ++ (⟨#[32, 116, 121, 112, 101, 32]⟩ : ByteArray)) ++ t413) ++ (⟨#[32]⟩ : ByteArray)) ++ t414).size + 6 ≤ 9223372036854775807 then ((spec_GapText.f k l0_0).bind fun t415 => (if (((((((((⟨#[102, 114, 111, 98, 101, 110, 105, 117, 115, 32]⟩ : ByteArray) ++ t409) ++ (⟨#[32, 103, 101, 110, 117, 115, 32]⟩ : ByteArray)) ++ t411) ++ (⟨#[32, 116, 121, 112, 101, 32]⟩ : ByteArray)) ++ t413) ++ (⟨#[32]⟩ : ByteArray)) ++ t414) ++ (⟨#[32, 103, 97, 112, 115, 32]⟩ : ByteArray)).size + t415.size ≤ 9223372036854775807 then (if ((((((((((⟨#[102, 114, 111, 98, 101, 110, 105, 117, 115, 32]⟩ : ByteArray) ++ t409) ++ (⟨#[32, 103, 101, 110, 117, 115, 32]⟩ : ByteArray)) ++ t411) ++ (⟨#[32, 116, 121, 112, 101, 32]⟩ : ByteArray)) ++ t413) ++ (⟨#[32]⟩ : ByteArray)) ++ t414) ++ (⟨#[32, 103, 97, 112, 115, 32]⟩ : ByteArray)) ++ t415).size + 7 ≤ 9223372036854775807 then (if 0 < (l0_0.length : Int) then ((spec_AperySet.f k l0_0 (rd l0_0 0)).bind fun t417 => ((spec_ListText.f k t417).bind fun t420 => (if (((((((((((⟨#[102, 114, 111, 98, 101, 110, 105, 117, 115, 32]⟩ : ByteArray) ++ t409) ++ (⟨#[32, 103, 101, 110, 117, 115, 32]⟩ : ByteArray)) ++ t411) ++ (⟨#[32, 116, 121, 112, 101, 32]⟩ : ByteArray)) ++ t413) ++ (⟨#[32]⟩ : ByteArray)) ++ t414) ++ (⟨#[32, 103, 97, 112, 115, 32]⟩ : ByteArray)) ++ t415) ++ (⟨#[32, 108, 101, 97, 115, 116, 32]⟩ : ByteArray)).size + t420.size ≤ 9223372036854775807 then (if ((((((((((((⟨#[102, 114, 111, 98, 101, 110, 105, 117, 115, 32]⟩ : ByteArray) ++ t409) ++ (⟨#[32, 103, 101, 110, 117, 115, 32]⟩ : ByteArray)) ++ t411) ++ (⟨#[32, 116, 121, 112, 101, 32]⟩ : ByteArray)) ++ t413) ++ (⟨#[32]⟩ : ByteArray)) ++ t414) ++ (⟨#[32, 103, 97, 112, 115, 32]⟩ : ByteArray)) ++ t415) ++ (⟨#[32, 108, 101, 97, 115, 116, 32]⟩ : ByteArray)) ++ t420).size + 6 ≤ 9223372036854775807 then ((spec_WilfNumber.f k l0_0).bind fun t421 => ((spec_FormatInt.f k t421).bind fun t422 => (if (((((((((((((⟨#[102, 114, 111, 98, 101, 110, 105, 117, 115, 32]⟩ : ByteArray) ++ t409) ++ (⟨#[32, 103, 101, 110, 117, 115, 32]⟩ : ByteArray)) ++ t411) ++ (⟨#[32, 116, 121, 112, 101, 32]⟩ : ByteArray)) ++ t413) ++ (⟨#[32]⟩ : ByteArray)) ++ t414) ++ (⟨#[32, 103, 97, 112, 115, 32]⟩ : ByteArray)) ++ t415) ++ (⟨#[32, 108, 101, 97, 115, 116, 32]⟩ : ByteArray)) ++ t420) ++ (⟨#[32, 119, 105, 108, 102, 32]⟩ : ByteArray)).size + t422.size ≤ 9223372036854775807 then (some ((((((((((((((⟨#[102, 114, 111, 98, 101, 110, 105, 117, 115, 32]⟩ : ByteArray) ++ t409) ++ (⟨#[32, 103, 101, 110, 117, 115, 32]⟩ : ByteArray)) ++ t411) ++ (⟨#[32, 116, 121, 112, 101, 32]⟩ : ByteArray)) ++ t413) ++ (⟨#[32]⟩ : ByteArray)) ++ t414) ++ (⟨#[32, 103, 97, 112, 115, 32]⟩ : ByteArray)) ++ t415) ++ (⟨#[32, 108, 101, 97, 115, 116, 32]⟩ : ByteArray)) ++ t420) ++ (⟨#[32, 119, 105, 108, 102, 32]⟩ : ByteArray)) ++ t422)) else (none)))) else (none)) else (none)))) else (none)) else (none)) else (none))) else (none)) else (none))) else (none)) else (none)))) else (none)) else (none)))) else (none)) else (none)))) else (some (⟨#[]⟩ : ByteArray)))
def spec_DescribeSemigroup.T3 : Bool × List (List Nat × List Nat) := (true, [([], []), ([0], [0]), ([1, 1], [1]), ([2], [2]), ([3], [3]), ([], []), ([5, 2], [5]), ([6, 6], [6]), ([4, 7], [4, 7]), ([8], [8]), ([], []), ([10, 7], [10]), ([11, 11], [11]), ([9, 12], [9, 12]), ([13], [13]), ([], []), ([15, 12], [15]), ([14, 16], [14, 16]), ([17], [17]), ([], []), ([19, 16], [19]), ([18, 20], [18, 20]), ([21], [21]), ([], []), ([], []), ([24], [24]), ([25], [25]), ([26], [26]), ([23, 27, 20], [23, 27]), ([28, 28], [28]), ([22, 29], [22, 29]), ([30], [30]), ([], []), ([32, 29], [32]), ([33, 33], [33]), ([31, 34], [31, 34]), ([35, 34, 0, 1, 2, 3, 4, 5, 6, 7, 8, 9, 10, 11, 12, 13, 14, 15, 16, 17, 18, 19, 20, 21, 22, 23, 24, 25, 26, 27, 28, 29, 30, 31, 32, 33, 34, 35], [35])])
def spec_DescribeSemigroup.B3 : List Nat := [0, 1, 3, 7, 15, 0, 39, 103, 255, 511, 0, 1255, 3303, 8191, 16383, 0, 40167, 131071, 262143, 0, 629991, 2097151, 4194303, 0, 0, 16777216, 50331648, 117440512, 261725415, 530160871, 1073741823, 2147483647, 0, 5361999079, 13951933671, 34359738367, 68719476735]
theorem spec_DescribeSemigroup.tab3 : rtab .any (opsOf Tryz.f14 3) = spec_DescribeSemigroup.T3 := by kernel_rfl
theorem spec_DescribeSemigroup.bits3 : waitsOk spec_DescribeSemigroup.T3.2 spec_DescribeSemigroup.B3 = true := by kernel_rfl
theorem spec_DescribeSemigroup.calls (k : Nat) (A0_0 : Option Addr) (c0_0 : Nat) (l0_0 : List Int) (r : ByteArray) (w : World) (hr0_0 : Kd.C (Kd.int .i64) w A0_0 l0_0.length l0_0) (hc0_0 : l0_0.length ≤ c0_0) (h : spec_DescribeSemigroup.f k l0_0 = some r) :
 Calls Tryz.prog 14 #[.agg #[.slice A0_0 l0_0.length c0_0]] w fun e w' => e = .returned (.string r) ∧ Below w.heap.size w w' := by
 have hu29 := Tryz.underlying29
 have HR0_0 := Aside0.mk hr0_0
 have HC0_0 := Aside0.mk hc0_0
 clear hr0_0 hc0_0
 have HB := Aside0.mk (Below.refl w.heap.size w)
 have H := h
 clear h
 unfold spec_DescribeSemigroup.f at H
 obtain ⟨t407, A2, H⟩ := ob_ H
 by_cases c3 : t407 = true
 · subst c3
   rw [if_pos rfl] at H
   obtain ⟨t408, A4, H⟩ := ob_ H
   obtain ⟨t409, A5, H⟩ := ob_ H
   by_cases c6 : 10 + t409.size ≤ 9223372036854775807
   · rw [if_pos c6] at H
     have c6b0 := eq_true c6
     have c6b1 : decide (10 + t409.size ≤ 9223372036854775807) = true := decide_eq_true c6
     try have c6b2 : (9223372036854775807 < 10 + t409.size) = False := eq_false (Nat.not_lt.2 c6)
     by_cases c7 : ((⟨#[102, 114, 111, 98, 101, 110, 105, 117, 115, 32]⟩ : ByteArray) ++ t409).size + 7 ≤ 9223372036854775807
     · rw [if_pos c7] at H
       have c7b0 := eq_true c7
       have c7b1 : decide (((⟨#[102, 114, 111, 98, 101, 110, 105, 117, 115, 32]⟩ : ByteArray) ++ t409).size + 7 ≤ 9223372036854775807) = true := decide_eq_true c7
       try have c7b2 : (9223372036854775807 < ((⟨#[102, 114, 111, 98, 101, 110, 105, 117, 115, 32]⟩ : ByteArray) ++ t409).size + 7) = False := eq_false (Nat.not_lt.2 c7)
       have c7b3_ : (9223372036854775807 < 10 + t409.size + 7) = False := eq_false (by have h_ := c7; have e0_ : (⟨#[102, 114, 111, 98, 101, 110, 105, 117, 115, 32]⟩ : ByteArray).size = 10 := rfl; simp only [ByteArray.size_append] at h_; omega)
       obtain ⟨t410, A8, H⟩ := ob_ H
       obtain ⟨t411, A9, H⟩ := ob_ H
       by_cases c10 : (((⟨#[102, 114, 111, 98, 101, 110, 105, 117, 115, 32]⟩ : ByteArray) ++ t409) ++ (⟨#[32, 103, 101, 110, 117, 115, 32]⟩ : ByteArray)).size + t411.size ≤ 9223372036854775807
       · rw [if_pos c10] at H
         have c10b0 := eq_true c10
         have c10b1 : decide ((((⟨#[102, 114, 111, 98, 101, 110, 105, 117, 115, 32]⟩ : ByteArray) ++ t409) ++ (⟨#[32, 103, 101, 110, 117, 115, 32]⟩ : ByteArray)).size + t411.size ≤ 9223372036854775807) = true := decide_eq_true c10
         try have c10b2 : (9223372036854775807 < (((⟨#[102, 114, 111, 98, 101, 110, 105, 117, 115, 32]⟩ : ByteArray) ++ t409) ++ (⟨#[32, 103, 101, 110, 117, 115, 32]⟩ : ByteArray)).size + t411.size) = False := eq_false (Nat.not_lt.2 c10)
         have c10b3_ : (9223372036854775807 < 10 + t409.size + 7 + t411.size) = False := eq_false (by have h_ := c10; have e0_ : (⟨#[102, 114, 111, 98, 101, 110, 105, 117, 115, 32]⟩ : ByteArray).size = 10 := rfl; have e1_ : (⟨#[32, 103, 101, 110, 117, 115, 32]⟩ : ByteArray).size = 7 := rfl; simp only [ByteArray.size_append] at h_; omega)
         by_cases c11 : ((((⟨#[102, 114, 111, 98, 101, 110, 105, 117, 115, 32]⟩ : ByteArray) ++ t409) ++ (⟨#[32, 103, 101, 110, 117, 115, 32]⟩ : ByteArray)) ++ t411).size + 6 ≤ 9223372036854775807
         · rw [if_pos c11] at H
           have c11b0 := eq_true c11
           have c11b1 : decide (((((⟨#[102, 114, 111, 98, 101, 110, 105, 117, 115, 32]⟩ : ByteArray) ++ t409) ++ (⟨#[32, 103, 101, 110, 117, 115, 32]⟩ : ByteArray)) ++ t411).size + 6 ≤ 9223372036854775807) = true := decide_eq_true c11
           try have c11b2 : (9223372036854775807 < ((((⟨#[102, 114, 111, 98, 101, 110, 105, 117, 115, 32]⟩ : ByteArray) ++ t409) ++ (⟨#[32, 103, 101, 110, 117, 115, 32]⟩ : ByteArray)) ++ t411).size + 6) = False := eq_false (Nat.not_lt.2 c11)
           have c11b3_ : (9223372036854775807 < 10 + t409.size + 7 + t411.size + 6) = False := eq_false (by have h_ := c11; have e0_ : (⟨#[102, 114, 111, 98, 101, 110, 105, 117, 115, 32]⟩ : ByteArray).size = 10 := rfl; have e1_ : (⟨#[32, 103, 101, 110, 117, 115, 32]⟩ : ByteArray).size = 7 := rfl; simp only [ByteArray.size_append] at h_; omega)
           obtain ⟨t412, A12, H⟩ := ob_ H
           obtain ⟨t413, A13, H⟩ := ob_ H
           by_cases c14 : (((((⟨#[102, 114, 111, 98, 101, 110, 105, 117, 115, 32]⟩ : ByteArray) ++ t409) ++ (⟨#[32, 103, 101, 110, 117, 115, 32]⟩ : ByteArray)) ++ t411) ++ (⟨#[32, 116, 121, 112, 101, 32]⟩ : ByteArray)).size + t413.size ≤ 9223372036854775807
           · rw [if_pos c14] at H
             have c14b0 := eq_true c14
             have c14b1 : decide ((((((⟨#[102, 114, 111, 98, 101, 110, 105, 117, 115, 32]⟩ : ByteArray) ++ t409) ++ (⟨#[32, 103, 101, 110, 117, 115, 32]⟩ : ByteArray)) ++ t411) ++ (⟨#[32, 116, 121, 112, 101, 32]⟩ : ByteArray)).size + t413.size ≤ 9223372036854775807) = true := decide_eq_true c14
             try have c14b2 : (9223372036854775807 < (((((⟨#[102, 114, 111, 98, 101, 110, 105, 117, 115, 32]⟩ : ByteArray) ++ t409) ++ (⟨#[32, 103, 101, 110, 117, 115, 32]⟩ : ByteArray)) ++ t411) ++ (⟨#[32, 116, 121, 112, 101, 32]⟩ : ByteArray)).size + t413.size) = False := eq_false (Nat.not_lt.2 c14)
             have c14b3_ : (9223372036854775807 < 10 + t409.size + 7 + t411.size + 6 + t413.size) = False := eq_false (by have h_ := c14; have e0_ : (⟨#[102, 114, 111, 98, 101, 110, 105, 117, 115, 32]⟩ : ByteArray).size = 10 := rfl; have e1_ : (⟨#[32, 103, 101, 110, 117, 115, 32]⟩ : ByteArray).size = 7 := rfl; have e2_ : (⟨#[32, 116, 121, 112, 101, 32]⟩ : ByteArray).size = 6 := rfl; simp only [ByteArray.size_append] at h_; omega)
             by_cases c15 : ((((((⟨#[102, 114, 111, 98, 101, 110, 105, 117, 115, 32]⟩ : ByteArray) ++ t409) ++ (⟨#[32, 103, 101, 110, 117, 115, 32]⟩ : ByteArray)) ++ t411) ++ (⟨#[32, 116, 121, 112, 101, 32]⟩ : ByteArray)) ++ t413).size + 1 ≤ 9223372036854775807
             · rw [if_pos c15] at H
               have c15b0 := eq_true c15
               have c15b1 : decide (((((((⟨#[102, 114, 111, 98, 101, 110, 105, 117, 115, 32]⟩ : ByteArray) ++ t409) ++ (⟨#[32, 103, 101, 110, 117, 115, 32]⟩ : ByteArray)) ++ t411) ++ (⟨#[32, 116, 121, 112, 101, 32]⟩ : ByteArray)) ++ t413).size + 1 ≤ 9223372036854775807) = true := decide_eq_true c15
               try have c15b2 : (9223372036854775807 < ((((((⟨#[102, 114, 111, 98, 101, 110, 105, 117, 115, 32]⟩ : ByteArray) ++ t409) ++ (⟨#[32, 103, 101, 110, 117, 115, 32]⟩ : ByteArray)) ++ t411) ++ (⟨#[32, 116, 121, 112, 101, 32]⟩ : ByteArray)) ++ t413).size + 1) = False := eq_false (Nat.not_lt.2 c15)
               have c15b3_ : (9223372036854775807 < 10 + t409.size + 7 + t411.size + 6 + t413.size + 1) = False := eq_false (by have h_ := c15; have e0_ : (⟨#[102, 114, 111, 98, 101, 110, 105, 117, 115, 32]⟩ : ByteArray).size = 10 := rfl; have e1_ : (⟨#[32, 103, 101, 110, 117, 115, 32]⟩ : ByteArray).size = 7 := rfl; have e2_ : (⟨#[32, 116, 121, 112, 101, 32]⟩ : ByteArray).size = 6 := rfl; simp only [ByteArray.size_append] at h_; omega)
               obtain ⟨t414, A16, H⟩ := ob_ H
               by_cases c17 : (((((((⟨#[102, 114, 111, 98, 101, 110, 105, 117, 115, 32]⟩ : ByteArray) ++ t409) ++ (⟨#[32, 103, 101, 110, 117, 115, 32]⟩ : ByteArray)) ++ t411) ++ (⟨#[32, 116, 121, 112, 101, 32]⟩ : ByteArray)) ++ t413) ++ (⟨#[32]⟩ : ByteArray)).size + t414.size ≤ 9223372036854775807
               · rw [if_pos c17] at H
                 have c17b0 := eq_true c17
                 have c17b1 : decide ((((((((⟨#[102, 114, 111, 98, 101, 110, 105, 117, 115, 32]⟩ : ByteArray) ++ t409) ++ (⟨#[32, 103, 101, 110, 117, 115, 32]⟩ : ByteArray)) ++ t411) ++ (⟨#[32, 116, 121, 112, 101, 32]⟩ : ByteArray)) ++ t413) ++ (⟨#[32]⟩ : ByteArray)).size + t414.size ≤ 9223372036854775807) = true := decide_eq_true c17
                 try have c17b2 : (9223372036854775807 < (((((((⟨#[102, 114, 111, 98, 101, 110, 105, 117, 115, 32]⟩ : ByteArray) ++ t409) ++ (⟨#[32, 103, 101, 110, 117, 115, 32]⟩ : ByteArray)) ++ t411) ++ (⟨#[32, 116, 121, 112, 101, 32]⟩ : ByteArray)) ++ t413) ++ (⟨#[32]⟩ : ByteArray)).size + t414.size) = False := eq_false (Nat.not_lt.2 c17)
                 have c17b3_ : (9223372036854775807 < 10 + t409.size + 7 + t411.size + 6 + t413.size + 1 + t414.size) = False := eq_false (by have h_ := c17; have e0_ : (⟨#[102, 114, 111, 98, 101, 110, 105, 117, 115, 32]⟩ : ByteArray).size = 10 := rfl; have e1_ : (⟨#[32, 103, 101, 110, 117, 115, 32]⟩ : ByteArray).size = 7 := rfl; have e2_ : (⟨#[32, 116, 121, 112, 101, 32]⟩ : ByteArray).size = 6 := rfl; have e3_ : (⟨#[32]⟩ : ByteArray).size = 1 := rfl; simp only [ByteArray.size_append] at h_; omega)
                 by_cases c18 : ((((((((⟨#[102, 114, 111, 98, 101, 110, 105, 117, 115, 32]⟩ : ByteArray) ++ t409) ++ (⟨#[32, 103, 101, 110, 117, 115, 32]⟩ : ByteArray)) ++ t411) ++ (⟨#[32, 116, 121, 112, 101, 32]⟩ : ByteArray)) ++ t413) ++ (⟨#[32]⟩ : ByteArray)) ++ t414).size + 6 ≤ 9223372036854775807
                 · rw [if_pos c18] at H
                   have c18b0 := eq_true c18
                   have c18b1 : decide (((((((((⟨#[102, 114, 111, 98, 101, 110, 105, 117, 115, 32]⟩ : ByteArray) ++ t409) ++ (⟨#[32, 103, 101, 110, 117, 115, 32]⟩ : ByteArray)) ++ t411) ++ (⟨#[32, 116, 121, 112, 101, 32]⟩ : ByteArray)) ++ t413) ++ (⟨#[32]⟩ : ByteArray)) ++ t414).size + 6 ≤ 9223372036854775807) = true := decide_eq_true c18
                   try have c18b2 : (9223372036854775807 < ((((((((⟨#[102, 114, 111, 98, 101, 110, 105, 117, 115, 32]⟩ : ByteArray) ++ t409) ++ (⟨#[32, 103, 101, 110, 117, 115, 32]⟩ : ByteArray)) ++ t411) ++ (⟨#[32, 116, 121, 112, 101, 32]⟩ : ByteArray)) ++ t413) ++ (⟨#[32]⟩ : ByteArray)) ++ t414).size + 6) = False := eq_false (Nat.not_lt.2 c18)
                   have c18b3_ : (9223372036854775807 < 10 + t409.size + 7 + t411.size + 6 + t413.size + 1 + t414.size + 6) = False := eq_false (by have h_ := c18; have e0_ : (⟨#[102, 114, 111, 98, 101, 110, 105, 117, 115, 32]⟩ : ByteArray).size = 10 := rfl; have e1_ : (⟨#[32, 103, 101, 110, 117, 115, 32]⟩ : ByteArray).size = 7 := rfl; have e2_ : (⟨#[32, 116, 121, 112, 101, 32]⟩ : ByteArray).size = 6 := rfl; have e3_ : (⟨#[32]⟩ : ByteArray).size = 1 := rfl; simp only [ByteArray.size_append] at h_; omega)
                   obtain ⟨t415, A19, H⟩ := ob_ H
                   by_cases c20 : (((((((((⟨#[102, 114, 111, 98, 101, 110, 105, 117, 115, 32]⟩ : ByteArray) ++ t409) ++ (⟨#[32, 103, 101, 110, 117, 115, 32]⟩ : ByteArray)) ++ t411) ++ (⟨#[32, 116, 121, 112, 101, 32]⟩ : ByteArray)) ++ t413) ++ (⟨#[32]⟩ : ByteArray)) ++ t414) ++ (⟨#[32, 103, 97, 112, 115, 32]⟩ : ByteArray)).size + t415.size ≤ 9223372036854775807
                   · rw [if_pos c20] at H
                     have c20b0 := eq_true c20
                     have c20b1 : decide ((((((((((⟨#[102, 114, 111, 98, 101, 110, 105, 117, 115, 32]⟩ : ByteArray) ++ t409) ++ (⟨#[32, 103, 101, 110, 117, 115, 32]⟩ : ByteArray)) ++ t411) ++ (⟨#[32, 116, 121, 112, 101, 32]⟩ : ByteArray)) ++ t413) ++ (⟨#[32]⟩ : ByteArray)) ++ t414) ++ (⟨#[32, 103, 97, 112, 115, 32]⟩ : ByteArray)).size + t415.size ≤ 9223372036854775807) = true := decide_eq_true c20
                     try have c20b2 : (9223372036854775807 < (((((((((⟨#[102, 114, 111, 98, 101, 110, 105, 117, 115, 32]⟩ : ByteArray) ++ t409) ++ (⟨#[32, 103, 101, 110, 117, 115, 32]⟩ : ByteArray)) ++ t411) ++ (⟨#[32, 116, 121, 112, 101, 32]⟩ : ByteArray)) ++ t413) ++ (⟨#[32]⟩ : ByteArray)) ++ t414) ++ (⟨#[32, 103, 97, 112, 115, 32]⟩ : ByteArray)).size + t415.size) = False := eq_false (Nat.not_lt.2 c20)
                     have c20b3_ : (9223372036854775807 < 10 + t409.size + 7 + t411.size + 6 + t413.size + 1 + t414.size + 6 + t415.size) = False := eq_false (by have h_ := c20; have e0_ : (⟨#[102, 114, 111, 98, 101, 110, 105, 117, 115, 32]⟩ : ByteArray).size = 10 := rfl; have e1_ : (⟨#[32, 103, 101, 110, 117, 115, 32]⟩ : ByteArray).size = 7 := rfl; have e2_ : (⟨#[32, 116, 121, 112, 101, 32]⟩ : ByteArray).size = 6 := rfl; have e3_ : (⟨#[32]⟩ : ByteArray).size = 1 := rfl; have e4_ : (⟨#[32, 103, 97, 112, 115, 32]⟩ : ByteArray).size = 6 := rfl; simp only [ByteArray.size_append] at h_; omega)
                     by_cases c21 : ((((((((((⟨#[102, 114, 111, 98, 101, 110, 105, 117, 115, 32]⟩ : ByteArray) ++ t409) ++ (⟨#[32, 103, 101, 110, 117, 115, 32]⟩ : ByteArray)) ++ t411) ++ (⟨#[32, 116, 121, 112, 101, 32]⟩ : ByteArray)) ++ t413) ++ (⟨#[32]⟩ : ByteArray)) ++ t414) ++ (⟨#[32, 103, 97, 112, 115, 32]⟩ : ByteArray)) ++ t415).size + 7 ≤ 9223372036854775807
                     · rw [if_pos c21] at H
                       have c21b0 := eq_true c21
                       have c21b1 : decide (((((((((((⟨#[102, 114, 111, 98, 101, 110, 105, 117, 115, 32]⟩ : ByteArray) ++ t409) ++ (⟨#[32, 103, 101, 110, 117, 115, 32]⟩ : ByteArray)) ++ t411) ++ (⟨#[32, 116, 121, 112, 101, 32]⟩ : ByteArray)) ++ t413) ++ (⟨#[32]⟩ : ByteArray)) ++ t414) ++ (⟨#[32, 103, 97, 112, 115, 32]⟩ : ByteArray)) ++ t415).size + 7 ≤ 9223372036854775807) = true := decide_eq_true c21
                       try have c21b2 : (9223372036854775807 < ((((((((((⟨#[102, 114, 111, 98, 101, 110, 105, 117, 115, 32]⟩ : ByteArray) ++ t409) ++ (⟨#[32, 103, 101, 110, 117, 115, 32]⟩ : ByteArray)) ++ t411) ++ (⟨#[32, 116, 121, 112, 101, 32]⟩ : ByteArray)) ++ t413) ++ (⟨#[32]⟩ : ByteArray)) ++ t414) ++ (⟨#[32, 103, 97, 112, 115, 32]⟩ : ByteArray)) ++ t415).size + 7) = False := eq_false (Nat.not_lt.2 c21)
                       have c21b3_ : (9223372036854775807 < 10 + t409.size + 7 + t411.size + 6 + t413.size + 1 + t414.size + 6 + t415.size + 7) = False := eq_false (by have h_ := c21; have e0_ : (⟨#[102, 114, 111, 98, 101, 110, 105, 117, 115, 32]⟩ : ByteArray).size = 10 := rfl; have e1_ : (⟨#[32, 103, 101, 110, 117, 115, 32]⟩ : ByteArray).size = 7 := rfl; have e2_ : (⟨#[32, 116, 121, 112, 101, 32]⟩ : ByteArray).size = 6 := rfl; have e3_ : (⟨#[32]⟩ : ByteArray).size = 1 := rfl; have e4_ : (⟨#[32, 103, 97, 112, 115, 32]⟩ : ByteArray).size = 6 := rfl; simp only [ByteArray.size_append] at h_; omega)
                       by_cases c22 : 0 < (l0_0.length : Int)
                       · rw [if_pos c22] at H
                         have c22b0 : decide (0 < (l0_0.length : Int)) = true := decide_eq_true c22
                         have c22b1 : decide (0 < l0_0.length) = true := decide_eq_true (by omega)
                         clear c22
                         obtain ⟨t417, A23, H⟩ := ob_ H
                         obtain ⟨t420, A24, H⟩ := ob_ H
                         by_cases c25 : (((((((((((⟨#[102, 114, 111, 98, 101, 110, 105, 117, 115, 32]⟩ : ByteArray) ++ t409) ++ (⟨#[32, 103, 101, 110, 117, 115, 32]⟩ : ByteArray)) ++ t411) ++ (⟨#[32, 116, 121, 112, 101, 32]⟩ : ByteArray)) ++ t413) ++ (⟨#[32]⟩ : ByteArray)) ++ t414) ++ (⟨#[32, 103, 97, 112, 115, 32]⟩ : ByteArray)) ++ t415) ++ (⟨#[32, 108, 101, 97, 115, 116, 32]⟩ : ByteArray)).size + t420.size ≤ 9223372036854775807
                         · rw [if_pos c25] at H
                           have c25b0 := eq_true c25
                           have c25b1 : decide ((((((((((((⟨#[102, 114, 111, 98, 101, 110, 105, 117, 115, 32]⟩ : ByteArray) ++ t409) ++ (⟨#[32, 103, 101, 110, 117, 115, 32]⟩ : ByteArray)) ++ t411) ++ (⟨#[32, 116, 121, 112, 101, 32]⟩ : ByteArray)) ++ t413) ++ (⟨#[32]⟩ : ByteArray)) ++ t414) ++ (⟨#[32, 103, 97, 112, 115, 32]⟩ : ByteArray)) ++ t415) ++ (⟨#[32, 108, 101, 97, 115, 116, 32]⟩ : ByteArray)).size + t420.size ≤ 9223372036854775807) = true := decide_eq_true c25
                           try have c25b2 : (9223372036854775807 < (((((((((((⟨#[102, 114, 111, 98, 101, 110, 105, 117, 115, 32]⟩ : ByteArray) ++ t409) ++ (⟨#[32, 103, 101, 110, 117, 115, 32]⟩ : ByteArray)) ++ t411) ++ (⟨#[32, 116, 121, 112, 101, 32]⟩ : ByteArray)) ++ t413) ++ (⟨#[32]⟩ : ByteArray)) ++ t414) ++ (⟨#[32, 103, 97, 112, 115, 32]⟩ : ByteArray)) ++ t415) ++ (⟨#[32, 108, 101, 97, 115, 116, 32]⟩ : ByteArray)).size + t420.size) = False := eq_false (Nat.not_lt.2 c25)
                           have c25b3_ : (9223372036854775807 < 10 + t409.size + 7 + t411.size + 6 + t413.size + 1 + t414.size + 6 + t415.size + 7 + t420.size) = False := eq_false (by have h_ := c25; have e0_ : (⟨#[102, 114, 111, 98, 101, 110, 105, 117, 115, 32]⟩ : ByteArray).size = 10 := rfl; have e1_ : (⟨#[32, 103, 101, 110, 117, 115, 32]⟩ : ByteArray).size = 7 := rfl; have e2_ : (⟨#[32, 116, 121, 112, 101, 32]⟩ : ByteArray).size = 6 := rfl; have e3_ : (⟨#[32]⟩ : ByteArray).size = 1 := rfl; have e4_ : (⟨#[32, 103, 97, 112, 115, 32]⟩ : ByteArray).size = 6 := rfl; have e5_ : (⟨#[32, 108, 101, 97, 115, 116, 32]⟩ : ByteArray).size = 7 := rfl; simp only [ByteArray.size_append] at h_; omega)
                           by_cases c26 : ((((((((((((⟨#[102, 114, 111, 98, 101, 110, 105, 117, 115, 32]⟩ : ByteArray) ++ t409) ++ (⟨#[32, 103, 101, 110, 117, 115, 32]⟩ : ByteArray)) ++ t411) ++ (⟨#[32, 116, 121, 112, 101, 32]⟩ : ByteArray)) ++ t413) ++ (⟨#[32]⟩ : ByteArray)) ++ t414) ++ (⟨#[32, 103, 97, 112, 115, 32]⟩ : ByteArray)) ++ t415) ++ (⟨#[32, 108, 101, 97, 115, 116, 32]⟩ : ByteArray)) ++ t420).size + 6 ≤ 9223372036854775807
                           · rw [if_pos c26] at H
                             have c26b0 := eq_true c26
                             have c26b1 : decide (((((((((((((⟨#[102, 114, 111, 98, 101, 110, 105, 117, 115, 32]⟩ : ByteArray) ++ t409) ++ (⟨#[32, 103, 101, 110, 117, 115, 32]⟩ : ByteArray)) ++ t411) ++ (⟨#[32, 116, 121, 112, 101, 32]⟩ : ByteArray)) ++ t413) ++ (⟨#[32]⟩ : ByteArray)) ++ t414) ++ (⟨#[32, 103, 97, 112, 115, 32]⟩ : ByteArray)) ++ t415) ++ (⟨#[32, 108, 101, 97, 115, 116, 32]⟩ : ByteArray)) ++ t420).size + 6 ≤ 9223372036854775807) = true := decide_eq_true c26
                             try have c26b2 : (9223372036854775807 < ((((((((((((⟨#[102, 114, 111, 98, 101, 110, 105, 117, 115, 32]⟩ : ByteArray) ++ t409) ++ (⟨#[32, 103, 101, 110, 117, 115, 32]⟩ : ByteArray)) ++ t411) ++ (⟨#[32, 116, 121, 112, 101, 32]⟩ : ByteArray)) ++ t413) ++ (⟨#[32]⟩ : ByteArray)) ++ t414) ++ (⟨#[32, 103, 97, 112, 115, 32]⟩ : ByteArray)) ++ t415) ++ (⟨#[32, 108, 101, 97, 115, 116, 32]⟩ : ByteArray)) ++ t420).size + 6) = False := eq_false (Nat.not_lt.2 c26)
                             have c26b3_ : (9223372036854775807 < 10 + t409.size + 7 + t411.size + 6 + t413.size + 1 + t414.size + 6 + t415.size + 7 + t420.size + 6) = False := eq_false (by have h_ := c26; have e0_ : (⟨#[102, 114, 111, 98, 101, 110, 105, 117, 115, 32]⟩ : ByteArray).size = 10 := rfl; have e1_ : (⟨#[32, 103, 101, 110, 117, 115, 32]⟩ : ByteArray).size = 7 := rfl; have e2_ : (⟨#[32, 116, 121, 112, 101, 32]⟩ : ByteArray).size = 6 := rfl; have e3_ : (⟨#[32]⟩ : ByteArray).size = 1 := rfl; have e4_ : (⟨#[32, 103, 97, 112, 115, 32]⟩ : ByteArray).size = 6 := rfl; have e5_ : (⟨#[32, 108, 101, 97, 115, 116, 32]⟩ : ByteArray).size = 7 := rfl; simp only [ByteArray.size_append] at h_; omega)
                             obtain ⟨t421, A27, H⟩ := ob_ H
                             obtain ⟨t422, A28, H⟩ := ob_ H
                             by_cases c29 : (((((((((((((⟨#[102, 114, 111, 98, 101, 110, 105, 117, 115, 32]⟩ : ByteArray) ++ t409) ++ (⟨#[32, 103, 101, 110, 117, 115, 32]⟩ : ByteArray)) ++ t411) ++ (⟨#[32, 116, 121, 112, 101, 32]⟩ : ByteArray)) ++ t413) ++ (⟨#[32]⟩ : ByteArray)) ++ t414) ++ (⟨#[32, 103, 97, 112, 115, 32]⟩ : ByteArray)) ++ t415) ++ (⟨#[32, 108, 101, 97, 115, 116, 32]⟩ : ByteArray)) ++ t420) ++ (⟨#[32, 119, 105, 108, 102, 32]⟩ : ByteArray)).size + t422.size ≤ 9223372036854775807
                             · rw [if_pos c29] at H
                               have c29b0 := eq_true c29
                               have c29b1 : decide ((((((((((((((⟨#[102, 114, 111, 98, 101, 110, 105, 117, 115, 32]⟩ : ByteArray) ++ t409) ++ (⟨#[32, 103, 101, 110, 117, 115, 32]⟩ : ByteArray)) ++ t411) ++ (⟨#[32, 116, 121, 112, 101, 32]⟩ : ByteArray)) ++ t413) ++ (⟨#[32]⟩ : ByteArray)) ++ t414) ++ (⟨#[32, 103, 97, 112, 115, 32]⟩ : ByteArray)) ++ t415) ++ (⟨#[32, 108, 101, 97, 115, 116, 32]⟩ : ByteArray)) ++ t420) ++ (⟨#[32, 119, 105, 108, 102, 32]⟩ : ByteArray)).size + t422.size ≤ 9223372036854775807) = true := decide_eq_true c29
                               try have c29b2 : (9223372036854775807 < (((((((((((((⟨#[102, 114, 111, 98, 101, 110, 105, 117, 115, 32]⟩ : ByteArray) ++ t409) ++ (⟨#[32, 103, 101, 110, 117, 115, 32]⟩ : ByteArray)) ++ t411) ++ (⟨#[32, 116, 121, 112, 101, 32]⟩ : ByteArray)) ++ t413) ++ (⟨#[32]⟩ : ByteArray)) ++ t414) ++ (⟨#[32, 103, 97, 112, 115, 32]⟩ : ByteArray)) ++ t415) ++ (⟨#[32, 108, 101, 97, 115, 116, 32]⟩ : ByteArray)) ++ t420) ++ (⟨#[32, 119, 105, 108, 102, 32]⟩ : ByteArray)).size + t422.size) = False := eq_false (Nat.not_lt.2 c29)
                               have c29b3_ : (9223372036854775807 < 10 + t409.size + 7 + t411.size + 6 + t413.size + 1 + t414.size + 6 + t415.size + 7 + t420.size + 6 + t422.size) = False := eq_false (by have h_ := c29; have e0_ : (⟨#[102, 114, 111, 98, 101, 110, 105, 117, 115, 32]⟩ : ByteArray).size = 10 := rfl; have e1_ : (⟨#[32, 103, 101, 110, 117, 115, 32]⟩ : ByteArray).size = 7 := rfl; have e2_ : (⟨#[32, 116, 121, 112, 101, 32]⟩ : ByteArray).size = 6 := rfl; have e3_ : (⟨#[32]⟩ : ByteArray).size = 1 := rfl; have e4_ : (⟨#[32, 103, 97, 112, 115, 32]⟩ : ByteArray).size = 6 := rfl; have e5_ : (⟨#[32, 108, 101, 97, 115, 116, 32]⟩ : ByteArray).size = 7 := rfl; have e6_ : (⟨#[32, 119, 105, 108, 102, 32]⟩ : ByteArray).size = 6 := rfl; simp only [ByteArray.size_append] at h_; omega)
                               obtain rfl := Option.some.inj H
                               go_enter Tryz.func14, Tryz.ntmps14
                               try go_wp2_with (first | ((with_reducible refine gate_dst (N := 1) rfl ?_); refine bx_ 1 #[.slice A0_0 l0_0.length c0_0] 29 ?_; intro gb406 hg w30 hbox hb; have BK406 := Aside0.mk (hbox); have GW406 := gw_ hg HB; have GE406 := gw_ hg HB; replace HB := bo_ HB hb; clear hb hbox hg; have hcz31_0 := cz_ BK406; have hfz31_0 := blk_frozen BK406.out 0) | ((with_reducible refine gate_callee (f := 34) rfl ?_); refine gL_ (some 4) Tryz.func34 #[.agg #[.slice A0_0 l0_0.length c0_0]] ?_; (with_reducible refine (spec_IsSemigroup.calls k _ _ l0_0 true _ ?side1 ?side2 A2.out).mono ?_); (case side1 => exact ch_ HR0_0 HB); (case side2 => exact HC0_0.out); rintro e w32 ⟨rfl, hb⟩; refine ⟨_, rfl, ?_⟩; replace BK406 := bk_ BK406 hb; replace HB := bp_ HB hb; (try clear hb)))
                               replace BK406 := Aside0.mk (blk_drew BK406.out)
                               replace HB := Aside0.mk (below_drew1 HB.out)
                               have p416 : 0 ≤ (0 : Int) := (by omega)
                               have q416 : 0 < (l0_0.length : Int) := od_
                               obtain ⟨ad416, e416, hx416_0⟩ := Kd.at_int HR0_0.out 0 p416 q416
                               have hw416_0 := hx416_0
                               (try rw [show ((0 : Int)).toNat = 0 from rfl] at hw416_0)
                               (try rw [show 0 * 1 = 0 from rfl] at hw416_0)
                               (try rw [Addr.add_zero'] at hw416_0)
                               cases e416
                               have qi416 : (0 < l0_0.length) = True := eq_true (by omega)
                               (try rw [show ((0 : Int)).toNat = 0 from rfl] at hx416_0)
                               (try rw [Addr.add_zero'] at hx416_0)
                               (try replace hx416_0 := (HB.out.cell (World.block_lt_of_cell? w _ hx416_0)).trans hx416_0)
                               replace p416 := eq_true p416
                               replace q416 := eq_true q416
                               refine start_ (n := 37) (S := fun w' => w'.cell? ⟨gb406, 0, none⟩ = some (.slice (some ad416) l0_0.length c0_0) ∧ w'.cell? ad416 = some (.int .i64 (rd l0_0 0))) (ds := []) (B_ 0 37) (by kernel_rfl) rfl rfl ⟨(blk_cell BK406.out 0).trans rfl, ((HB.out.cell (World.block_lt_of_cell? w _ hw416_0)).trans hw416_0)⟩ (fun hHeld => ?_); refine with_tabW spec_DescribeSemigroup.tab3 spec_DescribeSemigroup.bits3 (fun HT_ HW_ => ?_)
                               generalize w32.drew = w33 at BK406 HB hx416_0 hHeld ⊢
                               refine pu_ HT_ 24 30 (B_ 16777216 37) ?_
                               refine tk2_ HT_ HW_ hHeld 0 6 (B_ 16777217 37) ?_
                               refine tk2_ HT_ HW_ hHeld 5 11 (B_ 16777249 37) ?_
                               refine tk2_ HT_ HW_ hHeld 10 16 (B_ 16778273 37) ?_
                               refine tk2_ HT_ HW_ hHeld 15 21 (B_ 16811041 37) ?_
                               refine tk2_ HT_ HW_ hHeld 19 25 (B_ 17335329 37) ?_
                               refine tk2_ HT_ HW_ hHeld 23 29 (B_ 25723937 37) ?_
                               refine tk2_ HT_ HW_ hHeld 25 31 (B_ 59278369 37) ?_
                               refine pu_ HT_ 26 32 (B_ 126387233 37) ?_
                               refine tk2_ HT_ HW_ hHeld 27 33 (B_ 260604961 37) ?_
                               refine tk2_ HT_ HW_ hHeld 32 38 (B_ 4555572257 37) ?_
                               refine on_ HT_ 1 7 (B_ 4555572259 37) (fun K hK => ?_)
                               refine goes_ Tryz.func36 (by kernel_rfl) rfl #[.agg #[.slice (some ad416) l0_0.length c0_0]] (by rfl) rfl rfl (by (try simp only [List.map_toArray, List.map_cons, List.map_nil]); first | done | rfl | (simp only [List.length_drop, List.length_take]; rfl)) ?_
                               with_reducible refine (spec_FrobeniusOf.calls k _ _ l0_0 t408 _ ?side1 ?side2 A4.out).mono ?_
                               (case side1 => exact ch_ HR0_0 HB)
                               (case side2 => exact HC0_0.out)
                               rintro e w34 ⟨rfl, hb⟩
                               refine ⟨_, rfl, ?_⟩
                               replace BK406 := bk_ BK406 hb
                               replace HB := bp_ HB hb
                               (try clear hb)
                               refine hK.out _ _ ⟨(blk_cell BK406.out 0).trans rfl, ((HB.out.cell (World.block_lt_of_cell? w _ hw416_0)).trans hw416_0)⟩ (fun hHeld => ?_)
                               clear hK K
                               refine norm_ (a' := ?_) ?_ ?_
                               rotate_left
                               · show Act.put _ (some 7) _ = _
                                 simp only [Act.put, z1_, z2_, z3_, i64_w, i32_w]
                                 rfl
                               refine on_ HT_ 2 8 (B_ 4555572263 37) (fun K hK => ?_)
                               refine goes_ Tryz.func35 (by kernel_rfl) rfl #[.int .i64 t408] (by rfl) rfl rfl (by (try simp only [List.map_toArray, List.map_cons, List.map_nil]); first | done | rfl | (simp only [List.length_drop, List.length_take]; rfl)) ?_
                               with_reducible refine (spec_FormatInt.calls k t408 t409 _ A5.out).mono ?_
                               rintro e w35 ⟨rfl, hb⟩
                               refine ⟨_, rfl, ?_⟩
                               replace BK406 := bk_ BK406 hb
                               replace HB := bp_ HB hb
                               (try clear hb)
                               refine hK.out _ _ ⟨(blk_cell BK406.out 0).trans rfl, ((HB.out.cell (World.block_lt_of_cell? w _ hw416_0)).trans hw416_0)⟩ (fun hHeld => ?_)
                               clear hK K
                               refine norm_ (a' := ?_) ?_ ?_
                               rotate_left
                               · show Act.put _ (some 8) _ = _
                                 simp only [Act.put, z1_, z2_, z3_, i64_w, i32_w]
                                 rfl
                               refine pu_ HT_ 3 9 (B_ 4555572271 37) ?_
                               refine pu_ HT_ 4 10 (B_ 4555572287 37) ?_
                               refine on_ HT_ 6 12 (B_ 4555572351 37) (fun K hK => ?_)
                               refine goes_ Tryz.func37 (by kernel_rfl) rfl #[.agg #[.slice (some ad416) l0_0.length c0_0]] (by rfl) rfl rfl (by (try simp only [List.map_toArray, List.map_cons, List.map_nil]); first | done | rfl | (simp only [List.length_drop, List.length_take]; rfl)) ?_
                               with_reducible refine (spec_GenusOf.calls k _ _ l0_0 t410 _ ?side1 ?side2 A8.out).mono ?_
                               (case side1 => exact ch_ HR0_0 HB)
                               (case side2 => exact HC0_0.out)
                               rintro e w36 ⟨rfl, hb⟩
                               refine ⟨_, rfl, ?_⟩
                               replace BK406 := bk_ BK406 hb
                               replace HB := bp_ HB hb
                               (try clear hb)
                               refine hK.out _ _ ⟨(blk_cell BK406.out 0).trans rfl, ((HB.out.cell (World.block_lt_of_cell? w _ hw416_0)).trans hw416_0)⟩ (fun hHeld => ?_)
                               clear hK K
                               refine norm_ (a' := ?_) ?_ ?_
                               rotate_left
                               · show Act.put _ (some 12) _ = _
                                 simp only [Act.put, z1_, z2_, z3_, i64_w, i32_w]
                                 rfl
                               refine on_ HT_ 7 13 (B_ 4555572479 37) (fun K hK => ?_)
                               refine goes_ Tryz.func35 (by kernel_rfl) rfl #[.int .i64 t410] (by rfl) rfl rfl (by (try simp only [List.map_toArray, List.map_cons, List.map_nil]); first | done | rfl | (simp only [List.length_drop, List.length_take]; rfl)) ?_
                               with_reducible refine (spec_FormatInt.calls k t410 t411 _ A9.out).mono ?_
                               rintro e w37 ⟨rfl, hb⟩
                               refine ⟨_, rfl, ?_⟩
                               replace BK406 := bk_ BK406 hb
                               replace HB := bp_ HB hb
                               (try clear hb)
                               refine hK.out _ _ ⟨(blk_cell BK406.out 0).trans rfl, ((HB.out.cell (World.block_lt_of_cell? w _ hw416_0)).trans hw416_0)⟩ (fun hHeld => ?_)
                               clear hK K
                               refine norm_ (a' := ?_) ?_ ?_
                               rotate_left
                               · show Act.put _ (some 13) _ = _
                                 simp only [Act.put, z1_, z2_, z3_, i64_w, i32_w]
                                 rfl
                               refine pu_ HT_ 8 14 (B_ 4555572735 37) ?_
                               refine pu_ HT_ 9 15 (B_ 4555573247 37) ?_
                               refine on_ HT_ 11 17 (B_ 4555575295 37) (fun K hK => ?_)
                               refine goes_ Tryz.func38 (by kernel_rfl) rfl #[.agg #[.slice (some ad416) l0_0.length c0_0]] (by rfl) rfl rfl (by (try simp only [List.map_toArray, List.map_cons, List.map_nil]); first | done | rfl | (simp only [List.length_drop, List.length_take]; rfl)) ?_
                               with_reducible refine (spec_TypeOf.calls k _ _ l0_0 t412 _ ?side1 ?side2 A12.out).mono ?_
                               (case side1 => exact ch_ HR0_0 HB)
                               (case side2 => exact HC0_0.out)
                               rintro e w38 ⟨rfl, hb⟩
                               refine ⟨_, rfl, ?_⟩
                               replace BK406 := bk_ BK406 hb
                               replace HB := bp_ HB hb
                               (try clear hb)
                               refine hK.out _ _ ⟨(blk_cell BK406.out 0).trans rfl, ((HB.out.cell (World.block_lt_of_cell? w _ hw416_0)).trans hw416_0)⟩ (fun hHeld => ?_)
                               clear hK K
                               refine norm_ (a' := ?_) ?_ ?_
                               rotate_left
                               · show Act.put _ (some 17) _ = _
                                 simp only [Act.put, z1_, z2_, z3_, i64_w, i32_w]
                                 rfl
                               refine on_ HT_ 12 18 (B_ 4555579391 37) (fun K hK => ?_)
                               refine goes_ Tryz.func35 (by kernel_rfl) rfl #[.int .i64 t412] (by rfl) rfl rfl (by (try simp only [List.map_toArray, List.map_cons, List.map_nil]); first | done | rfl | (simp only [List.length_drop, List.length_take]; rfl)) ?_
                               with_reducible refine (spec_FormatInt.calls k t412 t413 _ A13.out).mono ?_
                               rintro e w39 ⟨rfl, hb⟩
                               refine ⟨_, rfl, ?_⟩
                               replace BK406 := bk_ BK406 hb
                               replace HB := bp_ HB hb
                               (try clear hb)
                               refine hK.out _ _ ⟨(blk_cell BK406.out 0).trans rfl, ((HB.out.cell (World.block_lt_of_cell? w _ hw416_0)).trans hw416_0)⟩ (fun hHeld => ?_)
                               clear hK K
                               refine norm_ (a' := ?_) ?_ ?_
                               rotate_left
                               · show Act.put _ (some 18) _ = _
                                 simp only [Act.put, z1_, z2_, z3_, i64_w, i32_w]
                                 rfl
                               refine pu_ HT_ 13 19 (B_ 4555587583 37) ?_
                               refine pu_ HT_ 14 20 (B_ 4555603967 37) ?_
                               refine on_ HT_ 16 22 (B_ 4555669503 37) (fun K hK => ?_)
                               refine goes_ Tryz.func39 (by kernel_rfl) rfl #[.agg #[.slice (some ad416) l0_0.length c0_0]] (by rfl) rfl rfl (by (try simp only [List.map_toArray, List.map_cons, List.map_nil]); first | done | rfl | (simp only [List.length_drop, List.length_take]; rfl)) ?_
                               with_reducible refine (spec_l29Kind.calls k _ _ l0_0 t414 _ ?side1 ?side2 A16.out).mono ?_
                               (case side1 => exact ch_ HR0_0 HB)
                               (case side2 => exact HC0_0.out)
                               rintro e w40 ⟨rfl, hb⟩
                               refine ⟨_, rfl, ?_⟩
                               replace BK406 := bk_ BK406 hb
                               replace HB := bp_ HB hb
                               (try clear hb)
                               refine hK.out _ _ ⟨(blk_cell BK406.out 0).trans rfl, ((HB.out.cell (World.block_lt_of_cell? w _ hw416_0)).trans hw416_0)⟩ (fun hHeld => ?_)
                               clear hK K
                               refine norm_ (a' := ?_) ?_ ?_
                               rotate_left
                               · show Act.put _ (some 22) _ = _
                                 simp only [Act.put, z1_, z2_, z3_, i64_w, i32_w]
                                 rfl
                               refine pu_ HT_ 17 23 (B_ 4555800575 37) ?_
                               refine pu_ HT_ 18 24 (B_ 4556062719 37) ?_
                               refine on_ HT_ 20 26 (B_ 4557111295 37) (fun K hK => ?_)
                               refine goes_ Tryz.func40 (by kernel_rfl) rfl #[.agg #[.slice (some ad416) l0_0.length c0_0]] (by rfl) rfl rfl (by (try simp only [List.map_toArray, List.map_cons, List.map_nil]); first | done | rfl | (simp only [List.length_drop, List.length_take]; rfl)) ?_
                               with_reducible refine (spec_GapText.calls k _ _ l0_0 t415 _ ?side1 ?side2 A19.out).mono ?_
                               (case side1 => exact ch_ HR0_0 HB)
                               (case side2 => exact HC0_0.out)
                               rintro e w41 ⟨rfl, hb⟩
                               refine ⟨_, rfl, ?_⟩
                               replace BK406 := bk_ BK406 hb
                               replace HB := bp_ HB hb
                               (try clear hb)
                               refine hK.out _ _ ⟨(blk_cell BK406.out 0).trans rfl, ((HB.out.cell (World.block_lt_of_cell? w _ hw416_0)).trans hw416_0)⟩ (fun hHeld => ?_)
                               clear hK K
                               refine norm_ (a' := ?_) ?_ ?_
                               rotate_left
                               · show Act.put _ (some 26) _ = _
                                 simp only [Act.put, z1_, z2_, z3_, i64_w, i32_w]
                                 rfl
                               refine pu_ HT_ 21 27 (B_ 4559208447 37) ?_
                               refine pu_ HT_ 22 28 (B_ 4563402751 37) ?_
                               refine on_ HT_ 28 34 (B_ 4831838207 37) (fun K hK => ?_)
                               refine goes_ Tryz.func42 (by kernel_rfl) rfl #[.agg #[.slice (some ad416) l0_0.length c0_0], .int .i64 (rd l0_0 0)] (by rfl) rfl rfl (by (try simp only [List.map_toArray, List.map_cons, List.map_nil]); first | done | rfl | (simp only [List.length_drop, List.length_take]; rfl)) ?_
                               with_reducible refine (spec_AperySet.calls k _ _ l0_0 (rd l0_0 0) t417 _ ?side1 ?side2 A23.out).mono ?_
                               (case side1 => exact ch_ HR0_0 HB)
                               (case side2 => exact HC0_0.out)
                               rintro e w42 ⟨v418, rfl, ho0, hb⟩
                               refine ⟨_, rfl, ?_⟩
                               have HO419 := Aside0.mk (Kd.R_lower ho0 (below_size (bq_ HB)))
                               replace BK406 := bk_ BK406 hb
                               replace HB := bp_ HB hb
                               (try clear hb)
                               (try clear ho0)
                               obtain ⟨Ao43, co43, eo43⟩ := Kd.R_slice HO419.out
                               (first | subst eo43 | (injection eo43 with f1_ f2_ f3_; have f4_ := f1_.symm; have f5_ := f3_.symm; clear f1_ f2_ f3_; subst f4_; subst f5_))
                               refine hK.out _ _ ⟨(blk_cell BK406.out 0).trans rfl, ((HB.out.cell (World.block_lt_of_cell? w _ hw416_0)).trans hw416_0)⟩ (fun hHeld => ?_)
                               clear hK K
                               refine norm_ (a' := ?_) ?_ ?_
                               rotate_left
                               · show Act.put _ (some 34) _ = _
                                 simp only [Act.put, z1_, z2_, z3_, i64_w, i32_w]
                                 rfl
                               refine on_ HT_ 29 35 (B_ 5368709119 37) (fun K hK => ?_)
                               refine goes_ Tryz.func41 (by kernel_rfl) rfl #[.slice Ao43 t417.length co43] (by rfl) rfl rfl (by (try simp only [List.map_toArray, List.map_cons, List.map_nil]); first | done | rfl | (simp only [List.length_drop, List.length_take]; rfl)) ?_
                               with_reducible refine (spec_ListText.calls k _ _ t417 t420 _ ?side1 ?side2 A24.out).mono ?_
                               (case side1 => exact ce_ ((Kd.R_reads' HO419.out).2.2))
                               (case side2 => exact (Kd.R_reads' HO419.out).2.1)
                               rintro e w44 ⟨rfl, hb⟩
                               refine ⟨_, rfl, ?_⟩
                               replace HO419 := Aside0.mk (Kd.R_below (re_ HO419.out) hb)
                               replace BK406 := bk_ BK406 hb
                               replace HB := bp_ HB hb
                               (try clear hb)
                               refine hK.out _ _ ⟨(blk_cell BK406.out 0).trans rfl, ((HB.out.cell (World.block_lt_of_cell? w _ hw416_0)).trans hw416_0)⟩ (fun hHeld => ?_)
                               clear hK K
                               refine norm_ (a' := ?_) ?_ ?_
                               rotate_left
                               · show Act.put _ (some 35) _ = _
                                 simp only [Act.put, z1_, z2_, z3_, i64_w, i32_w]
                                 rfl
                               refine pu_ HT_ 30 36 (B_ 6442450943 37) ?_
                               refine pu_ HT_ 31 37 (B_ 8589934591 37) ?_
                               refine on_ HT_ 33 39 (B_ 17179869183 37) (fun K hK => ?_)
                               refine goes_ Tryz.func43 (by kernel_rfl) rfl #[.agg #[.slice (some ad416) l0_0.length c0_0]] (by rfl) rfl rfl (by (try simp only [List.map_toArray, List.map_cons, List.map_nil]); first | done | rfl | (simp only [List.length_drop, List.length_take]; rfl)) ?_
                               with_reducible refine (spec_WilfNumber.calls k _ _ l0_0 t421 _ ?side1 ?side2 A27.out).mono ?_
                               (case side1 => exact ch_ HR0_0 HB)
                               (case side2 => exact HC0_0.out)
                               rintro e w45 ⟨rfl, hb⟩
                               refine ⟨_, rfl, ?_⟩
                               replace HO419 := Aside0.mk (Kd.R_below (re_ HO419.out) hb)
                               replace BK406 := bk_ BK406 hb
                               replace HB := bp_ HB hb
                               (try clear hb)
                               refine hK.out _ _ ⟨(blk_cell BK406.out 0).trans rfl, ((HB.out.cell (World.block_lt_of_cell? w _ hw416_0)).trans hw416_0)⟩ (fun hHeld => ?_)
                               clear hK K
                               refine norm_ (a' := ?_) ?_ ?_
                               rotate_left
                               · show Act.put _ (some 39) _ = _
                                 simp only [Act.put, z1_, z2_, z3_, i64_w, i32_w]
                                 rfl
                               refine on_ HT_ 34 40 (B_ 34359738367 37) (fun K hK => ?_)
                               refine goes_ Tryz.func35 (by kernel_rfl) rfl #[.int .i64 t421] (by rfl) rfl rfl (by (try simp only [List.map_toArray, List.map_cons, List.map_nil]); first | done | rfl | (simp only [List.length_drop, List.length_take]; rfl)) ?_
                               with_reducible refine (spec_FormatInt.calls k t421 t422 _ A28.out).mono ?_
                               rintro e w46 ⟨rfl, hb⟩
                               refine ⟨_, rfl, ?_⟩
                               replace HO419 := Aside0.mk (Kd.R_below (re_ HO419.out) hb)
                               replace BK406 := bk_ BK406 hb
                               replace HB := bp_ HB hb
                               (try clear hb)
                               refine hK.out _ _ ⟨(blk_cell BK406.out 0).trans rfl, ((HB.out.cell (World.block_lt_of_cell? w _ hw416_0)).trans hw416_0)⟩ (fun hHeld => ?_)
                               clear hK K
                               refine norm_ (a' := ?_) ?_ ?_
                               rotate_left
                               · show Act.put _ (some 40) _ = _
                                 simp only [Act.put, z1_, z2_, z3_, i64_w, i32_w]
                                 rfl
                               refine pu_ HT_ 35 41 (B_ 68719476735 37) ?_
                               refine pu_ HT_ 36 2 (B_ 137438953471 37) ?_
                               refine done_ (done_of HT_.out (by kernel_rfl)) ?_
                               try go_wp2
                               go_ret
                               exact ⟨rf_, bq_ HB⟩
                             · rw [if_neg c29] at H
                               cases H
                           · rw [if_neg c26] at H
                             cases H
                         · rw [if_neg c25] at H
                           cases H
                       · rw [if_neg c22] at H
                         cases H
                     · rw [if_neg c21] at H
                       cases H
                   · rw [if_neg c20] at H
                     cases H
                 · rw [if_neg c18] at H
                   cases H
               · rw [if_neg c17] at H
                 cases H
             · rw [if_neg c15] at H
               cases H
           · rw [if_neg c14] at H
             cases H
         · rw [if_neg c11] at H
           cases H
       · rw [if_neg c10] at H
         cases H
     · rw [if_neg c7] at H
       cases H
   · rw [if_neg c6] at H
     cases H
 · replace c3 := Bool.eq_false_iff.mpr c3
   subst c3
   rw [if_neg (show ¬ (false = true) by decide)] at H
   obtain rfl := Option.some.inj H
   go_enter Tryz.func14, Tryz.ntmps14
   go_wp2_with (first | ((with_reducible refine gate_dst (N := 1) rfl ?_); refine bx_ 1 #[.slice A0_0 l0_0.length c0_0] 29 ?_; intro gb406 hg w47 hbox hb; have BK406 := Aside0.mk (hbox); have GW406 := gw_ hg HB; have GE406 := gw_ hg HB; replace HB := bo_ HB hb; clear hb hbox hg; have hcz48_0 := cz_ BK406; have hfz48_0 := blk_frozen BK406.out 0) | ((with_reducible refine gate_callee (f := 34) rfl ?_); refine gL_ (some 4) Tryz.func34 #[.agg #[.slice A0_0 l0_0.length c0_0]] ?_; (with_reducible refine (spec_IsSemigroup.calls k _ _ l0_0 false _ ?side1 ?side2 A2.out).mono ?_); (case side1 => exact ch_ HR0_0 HB); (case side2 => exact HC0_0.out); rintro e w49 ⟨rfl, hb⟩; refine ⟨_, rfl, ?_⟩; replace BK406 := bk_ BK406 hb; replace HB := bp_ HB hb; (try clear hb)))
   go_ret
   exact ⟨rf_, bq_ HB⟩
def spec_DescribeExample.f (k : Nat) (a0 : Int) : Option (ByteArray) := (spec_ExampleText.f a0).bind fun t423 => ((spec_ParseSemigroup.f k t423).bind fun bt424 => ((spec_DescribeSemigroup.f k bt424.1).bind fun t429 => (some t429)))
theorem spec_DescribeExample.calls (k : Nat) (a0 : Int) (r : ByteArray) (w : World) (h : spec_DescribeExample.f k a0 = some r) :
 Calls Tryz.prog 5 #[.int .i64 a0] w fun e w' => e = .returned (.string r) ∧ Below w.heap.size w w' := by
 have hu29 := Tryz.underlying29
 have HB := Aside0.mk (Below.refl w.heap.size w)
 have H := h
 clear h
 unfold spec_DescribeExample.f at H
 obtain ⟨t423, A2, H⟩ := ob_ H
 obtain ⟨⟨t424, t427⟩, A3, H⟩ := ob_ H
 (try dsimp only at H)
 obtain ⟨t429, A4, H⟩ := ob_ H
 obtain rfl := Option.some.inj H
 go_enter Tryz.func5, Tryz.ntmps5
 go_wp2_with (first | ((with_reducible refine gate_callee (f := 12) rfl ?_); refine gL_ (some 7) Tryz.func12 #[.int .i64 a0] ?_; (with_reducible refine (spec_ExampleText.calls a0 t423 _ A2.out).mono ?_); rintro e w' ⟨rfl, ⟨nd, rfl⟩⟩; refine ⟨_, rfl, ?_⟩) | ((with_reducible refine gate_callee (f := 10) rfl ?_); refine gL_ (some 8) Tryz.func10 #[.string t423] ?_; (with_reducible refine (spec_ParseSemigroup.calls k t423 t424 t427 _ A3.out).mono ?_); rintro e w5 ⟨v425, rfl, ho0, hb⟩; refine ⟨_, rfl, ?_⟩; have HO426 := Aside0.mk (Kd.R_lower ho0 (below_size (bl_ HB.out))); replace HB := bo_ HB hb; (try clear hb); (try clear ho0)) | ((with_reducible refine gate_dst (N := 3) rfl ?_); refine bx_ 3 #[.slice none 0 0] 29 ?_; intro gb428 hg w6 hbox hb; replace HO426 := Aside0.mk (Kd.R_below (re_ HO426.out) hb); have BK428 := Aside0.mk (hbox); have GW428 := gw_ hg HB; have GE428 := gw_ hg HB; replace HB := bo_ HB hb; clear hb hbox hg; obtain ⟨Ao7, co7, eo7⟩ := Kd.R_slice HO426.out; subst eo7; have hcz8_0 := cz_ BK428; have hfz8_0 := blk_frozen BK428.out 0) | ((with_reducible refine gate_callee (f := 14) rfl ?_); refine gL_ (some 12) Tryz.func14 #[.agg #[.slice Ao7 t424.length co7]] ?_; (with_reducible refine (spec_DescribeSemigroup.calls k _ _ t424 t429 _ ?side1 ?side2 A4.out).mono ?_); (case side1 => refine (Kd.R_reads' (e := 3) (base := w.heap.size) (ok := fun k_ => True) (n := t424.length) (c := co7) ?_).2.2; exact (by (with_reducible repeat (first | apply Kd.R_alloc | apply Kd.R_drewN | apply Kd.R_drew)); exact (Kd.R_mono (Kd.R_far (p := ⟨gb428, 0, none⟩) (Kd.R_types HO426.out BK428.out (by decide)) (fun _ hk => hk.2) (.slice Ao7 t424.length co7)) (fun _ h_ => h_.1)))); (case side2 => exact (Kd.R_reads' HO426.out).2.1); rintro e w9 ⟨rfl, hb⟩; refine ⟨_, rfl, ?_⟩; replace HO426 := Aside0.mk (Kd.R_below (by (with_reducible repeat (first | apply Kd.R_alloc | apply Kd.R_drewN | apply Kd.R_drew)); exact (Kd.R_mono (Kd.R_far (p := ⟨gb428, 0, none⟩) (Kd.R_types HO426.out BK428.out (by decide)) (fun _ hk => hk.2) (.slice Ao7 t424.length co7)) (fun _ h_ => h_.1))) hb); replace BK428 := Aside0.mk (blk_below (g := gb428) (o := .cells #[.slice Ao7 t424.length co7] 29 (0, 0)) (by (with_reducible repeat (first | refine blk_drewN ?_ _ | refine blk_drew ?_ | refine blk_alloc ?_ _)); refine blk_put (cs := #[.slice none 0 0]) ?_ 0 _ rfl; (with_reducible repeat (first | refine blk_drewN ?_ _ | refine blk_drew ?_ | refine blk_alloc ?_ _)); exact BK428.out) hb); replace HB := bp_ HB hb; (try clear hb)))
 go_ret
 exact ⟨rf_, bq_ HB⟩
def impl_within.f (a0 : Int) (a1 : Int) (a2 : Int) : Option (Bool) := if a0 ≥ a1 then (some (decide (a0 ≤ a2))) else (some false)
theorem impl_within.calls (a0 : Int) (a1 : Int) (a2 : Int) (r : Bool) (w : World) (h : impl_within.f a0 a1 a2 = some r) :
 Calls Tryz.prog 21 #[.int .i64 a0, .int .i64 a1, .int .i64 a2] w fun e w' => e = .returned (.bool r) ∧ Drawn0 w w' := by
 have H := h
 clear h
 unfold impl_within.f at H
 by_cases c4 : a0 ≥ a1
 · rw [if_pos c4] at H
   have c4b0 : decide (a1 ≤ a0) = true := decide_eq_true c4
   clear c4
   obtain rfl := Option.some.inj H
   go_enter Tryz.func21, Tryz.ntmps21
   go_wp2
   go_ret
   exact ⟨by first | rfl | (simp; done) | (simp [*]; done), by repeat (first | exact Drawn0.refl _ | apply Drawn0.step)⟩
 · rw [if_neg c4] at H
   have c4b0 : decide (a1 ≤ a0) = false := decide_eq_false c4
   clear c4
   obtain rfl := Option.some.inj H
   go_enter Tryz.func21, Tryz.ntmps21
   go_wp2
   go_ret
   exact ⟨by first | rfl | (simp; done) | (simp [*]; done), by repeat (first | exact Drawn0.refl _ | apply Drawn0.step)⟩
def impl_ExampleText.f (a0 : Int) : Option (ByteArray) := (some (([(⟨#[60, 51, 44, 53, 62]⟩ : ByteArray), (⟨#[60, 52, 44, 54, 44, 57, 62]⟩ : ByteArray), (⟨#[60, 54, 44, 57, 44, 50, 48, 62]⟩ : ByteArray), (⟨#[60, 51, 44, 52, 44, 53, 62]⟩ : ByteArray), (⟨#[60, 49, 62]⟩ : ByteArray), (⟨#[60, 53, 44, 55, 44, 57, 44, 49, 49, 62]⟩ : ByteArray)] : List ByteArray) : List ByteArray)).bind fun y430 => ((impl_within.f a0 1 (y430.length : Int)).bind fun t433 => (if t433 = true then (if 0 ≤ (wrap64 (a0 - 1)) then (if (wrap64 (a0 - 1)) < (y430.length : Int) then (some (rdOf ByteArray.empty y430 (wrap64 (a0 - 1)))) else (none)) else (none)) else (some (⟨#[]⟩ : ByteArray))))
theorem impl_ExampleText.calls (a0 : Int) (r : ByteArray) (w : World) (h : impl_ExampleText.f a0 = some r) :
 Calls Tryz.prog 11 #[.int .i64 a0] w fun e w' => e = .returned (.string r) ∧ Below w.heap.size w w' := by
 have HB := Aside0.mk (Below.refl w.heap.size w)
 have H := h
 clear h
 unfold impl_ExampleText.f at H
 obtain ⟨y430, hy430⟩ : ∃ y_ : List ByteArray, y_ = (([(⟨#[60, 51, 44, 53, 62]⟩ : ByteArray), (⟨#[60, 52, 44, 54, 44, 57, 62]⟩ : ByteArray), (⟨#[60, 54, 44, 57, 44, 50, 48, 62]⟩ : ByteArray), (⟨#[60, 51, 44, 52, 44, 53, 62]⟩ : ByteArray), (⟨#[60, 49, 62]⟩ : ByteArray), (⟨#[60, 53, 44, 55, 44, 57, 44, 49, 49, 62]⟩ : ByteArray)] : List ByteArray)) := ⟨_, rfl⟩
 replace H : ((impl_within.f a0 1 (y430.length : Int)).bind fun t433 => (if t433 = true then (if 0 ≤ (wrap64 (a0 - 1)) then (if (wrap64 (a0 - 1)) < (y430.length : Int) then (some (rdOf ByteArray.empty y430 (wrap64 (a0 - 1)))) else (none)) else (none)) else (some (⟨#[]⟩ : ByteArray)))) = some r := by subst hy430; exact H
 have Ny430 := Aside0.mk hy430
 clear hy430
 obtain ⟨t433, A2, H⟩ := ob_ H
 by_cases c3 : t433 = true
 · subst c3
   rw [if_pos rfl] at H
   obtain ⟨ji4, hji4⟩ : ∃ j_ : Int, (wrap64 (a0 - 1)) = j_ := ⟨_, rfl⟩
   replace H : (if 0 ≤ (ji4) then (if (ji4) < (y430.length : Int) then (some (rdOf ByteArray.empty y430 (ji4))) else (none)) else (none)) = some r := by first | (rw [hji4] at H; exact H) | (simp only [hji4] at H ⊢; exact H)
   (try rw [hji4] at A2)
   have hji4w : (IntKind.i64.wrap (a0 - 1)) = ji4 := (i64_w _).trans hji4
   by_cases c5 : 0 ≤ (ji4)
   · rw [if_pos c5] at H
     have c5b0 : decide (0 ≤ (ji4)) = true := decide_eq_true c5
     clear c5
     by_cases c6 : (ji4) < (y430.length : Int)
     · rw [if_pos c6] at H
       have c6b0 : decide ((ji4) < (y430.length : Int)) = true := decide_eq_true c6
       clear c6
       obtain rfl := Option.some.inj H
       go_enter Tryz.func11, Tryz.ntmps11
       go_wp2_with (first | ((with_reducible refine gate_dst (N := 4) rfl ?_); refine Kd.R_lit Kd.string _ 9 ?hg (N := 4) ?hd (xs := ([(⟨#[60, 51, 44, 53, 62]⟩ : ByteArray), (⟨#[60, 52, 44, 54, 44, 57, 62]⟩ : ByteArray), (⟨#[60, 54, 44, 57, 44, 50, 48, 62]⟩ : ByteArray), (⟨#[60, 51, 44, 52, 44, 53, 62]⟩ : ByteArray), (⟨#[60, 49, 62]⟩ : ByteArray), (⟨#[60, 53, 44, 55, 44, 57, 44, 49, 49, 62]⟩ : ByteArray)] : List ByteArray)) (inner := [.string (⟨#[60, 51, 44, 53, 62]⟩ : ByteArray), .string (⟨#[60, 52, 44, 54, 44, 57, 62]⟩ : ByteArray), .string (⟨#[60, 54, 44, 57, 44, 50, 48, 62]⟩ : ByteArray), .string (⟨#[60, 51, 44, 52, 44, 53, 62]⟩ : ByteArray), .string (⟨#[60, 49, 62]⟩ : ByteArray), .string (⟨#[60, 53, 44, 55, 44, 57, 44, 49, 49, 62]⟩ : ByteArray)]) (ok := fun _ => True) (okp := fun _ => True) ?hr ?hp (fun _ hk => hk) trivial (Below.refl _ _) (Nat.le_refl _) (by simp) ?_; (case hd => rfl); (case hg => rfl); (case hr => first | (go_simp; done) | (go_simp; rfl)); (case hp => exact (Reps.one (show Kd.M Kd.string _ _ _ (⟨#[60, 51, 44, 53, 62]⟩ : ByteArray) [.string (⟨#[60, 51, 44, 53, 62]⟩ : ByteArray)] from rfl) (Reps.one (show Kd.M Kd.string _ _ _ (⟨#[60, 52, 44, 54, 44, 57, 62]⟩ : ByteArray) [.string (⟨#[60, 52, 44, 54, 44, 57, 62]⟩ : ByteArray)] from rfl) (Reps.one (show Kd.M Kd.string _ _ _ (⟨#[60, 54, 44, 57, 44, 50, 48, 62]⟩ : ByteArray) [.string (⟨#[60, 54, 44, 57, 44, 50, 48, 62]⟩ : ByteArray)] from rfl) (Reps.one (show Kd.M Kd.string _ _ _ (⟨#[60, 51, 44, 52, 44, 53, 62]⟩ : ByteArray) [.string (⟨#[60, 51, 44, 52, 44, 53, 62]⟩ : ByteArray)] from rfl) (Reps.one (show Kd.M Kd.string _ _ _ (⟨#[60, 49, 62]⟩ : ByteArray) [.string (⟨#[60, 49, 62]⟩ : ByteArray)] from rfl) (Reps.one (show Kd.M Kd.string _ _ _ (⟨#[60, 53, 44, 55, 44, 57, 44, 49, 49, 62]⟩ : ByteArray) [.string (⟨#[60, 53, 44, 55, 44, 57, 44, 49, 49, 62]⟩ : ByteArray)] from rfl) (Reps.none _ _)))))))); intro v431 w7 ho8 hb hg_ hnew_; clear hg_ hnew_; (first | rw [← Ny430.out] at ho8 | (simp only [Int.reduceToNat] at ho8; rw [← Ny430.out] at ho8)); have HO432 := Aside0.mk (Kd.R_lower ho8 (below_size (bl_ HB.out))); replace HB := bo_ HB hb; clear hb ho8; obtain ⟨Ao9, co9, eo9⟩ := Kd.R_slice HO432.out; subst eo9) | ((with_reducible refine gate_callee (f := 21) rfl ?_); refine gL_ (some 8) Tryz.func21 #[.int .i64 a0, .int .i64 1, .int .i64 (y430.length : Int)] ?_; (with_reducible refine (impl_within.calls a0 1 (y430.length : Int) true _ A2.out).mono ?_); rintro e w' ⟨rfl, ⟨nd, rfl⟩⟩; refine ⟨_, rfl, ?_⟩; have p434 : 0 ≤ ((ji4) : Int) := od_; have q434 : (ji4) < (y430.length : Int) := od_; obtain ⟨ad434, e434, hx434_0⟩ := Kd.at_string (Kd.R_reads' HO432.out).2.2 (ji4) p434 q434; cases e434; replace p434 := eq_true p434; replace q434 := eq_true q434))
       go_ret
       exact ⟨by first | rfl | (simp [errW_none, errW_some] <;> rfl) | (simp only [← hji4]; first | rfl | (simp [errW_none, errW_some] <;> rfl)) | (simp [*, errW_none, errW_some] <;> rfl), bl_ HB.out⟩
     · rw [if_neg c6] at H
       cases H
   · rw [if_neg c5] at H
     cases H
 · replace c3 := Bool.eq_false_iff.mpr c3
   subst c3
   rw [if_neg (show ¬ (false = true) by decide)] at H
   obtain rfl := Option.some.inj H
   go_enter Tryz.func11, Tryz.ntmps11
   go_wp2_with (first | ((with_reducible refine gate_dst (N := 4) rfl ?_); refine Kd.R_lit Kd.string _ 9 ?hg (N := 4) ?hd (xs := ([(⟨#[60, 51, 44, 53, 62]⟩ : ByteArray), (⟨#[60, 52, 44, 54, 44, 57, 62]⟩ : ByteArray), (⟨#[60, 54, 44, 57, 44, 50, 48, 62]⟩ : ByteArray), (⟨#[60, 51, 44, 52, 44, 53, 62]⟩ : ByteArray), (⟨#[60, 49, 62]⟩ : ByteArray), (⟨#[60, 53, 44, 55, 44, 57, 44, 49, 49, 62]⟩ : ByteArray)] : List ByteArray)) (inner := [.string (⟨#[60, 51, 44, 53, 62]⟩ : ByteArray), .string (⟨#[60, 52, 44, 54, 44, 57, 62]⟩ : ByteArray), .string (⟨#[60, 54, 44, 57, 44, 50, 48, 62]⟩ : ByteArray), .string (⟨#[60, 51, 44, 52, 44, 53, 62]⟩ : ByteArray), .string (⟨#[60, 49, 62]⟩ : ByteArray), .string (⟨#[60, 53, 44, 55, 44, 57, 44, 49, 49, 62]⟩ : ByteArray)]) (ok := fun _ => True) (okp := fun _ => True) ?hr ?hp (fun _ hk => hk) trivial (Below.refl _ _) (Nat.le_refl _) (by simp) ?_; (case hd => rfl); (case hg => rfl); (case hr => first | (go_simp; done) | (go_simp; rfl)); (case hp => exact (Reps.one (show Kd.M Kd.string _ _ _ (⟨#[60, 51, 44, 53, 62]⟩ : ByteArray) [.string (⟨#[60, 51, 44, 53, 62]⟩ : ByteArray)] from rfl) (Reps.one (show Kd.M Kd.string _ _ _ (⟨#[60, 52, 44, 54, 44, 57, 62]⟩ : ByteArray) [.string (⟨#[60, 52, 44, 54, 44, 57, 62]⟩ : ByteArray)] from rfl) (Reps.one (show Kd.M Kd.string _ _ _ (⟨#[60, 54, 44, 57, 44, 50, 48, 62]⟩ : ByteArray) [.string (⟨#[60, 54, 44, 57, 44, 50, 48, 62]⟩ : ByteArray)] from rfl) (Reps.one (show Kd.M Kd.string _ _ _ (⟨#[60, 51, 44, 52, 44, 53, 62]⟩ : ByteArray) [.string (⟨#[60, 51, 44, 52, 44, 53, 62]⟩ : ByteArray)] from rfl) (Reps.one (show Kd.M Kd.string _ _ _ (⟨#[60, 49, 62]⟩ : ByteArray) [.string (⟨#[60, 49, 62]⟩ : ByteArray)] from rfl) (Reps.one (show Kd.M Kd.string _ _ _ (⟨#[60, 53, 44, 55, 44, 57, 44, 49, 49, 62]⟩ : ByteArray) [.string (⟨#[60, 53, 44, 55, 44, 57, 44, 49, 49, 62]⟩ : ByteArray)] from rfl) (Reps.none _ _)))))))); intro v431 w10 ho11 hb hg_ hnew_; clear hg_ hnew_; (first | rw [← Ny430.out] at ho11 | (simp only [Int.reduceToNat] at ho11; rw [← Ny430.out] at ho11)); have HO432 := Aside0.mk (Kd.R_lower ho11 (below_size (bl_ HB.out))); replace HB := bo_ HB hb; clear hb ho11; obtain ⟨Ao12, co12, eo12⟩ := Kd.R_slice HO432.out; subst eo12) | ((with_reducible refine gate_callee (f := 21) rfl ?_); refine gL_ (some 8) Tryz.func21 #[.int .i64 a0, .int .i64 1, .int .i64 (y430.length : Int)] ?_; (with_reducible refine (impl_within.calls a0 1 (y430.length : Int) false _ A2.out).mono ?_); rintro e w' ⟨rfl, ⟨nd, rfl⟩⟩; refine ⟨_, rfl, ?_⟩))
   go_ret
   exact ⟨rf_, bl_ HB.out⟩
def impl_allWithin.l0 : Nat → Int → Int → List Int → Int → Int → Option (Bool)
 | 0, _, _, _, _, _ => none
 | k + 1, x1, x2, x9, x10, x11 => if x11 < x10 then (if 0 ≤ x11 then (if x11 < (x9.length : Int) then ((impl_within.f (rd x9 x11) x1 x2).bind fun t436 => (if t436 = true then (impl_allWithin.l0 k x1 x2 x9 x10 (wrap64 (x11 + 1))) else (some false))) else (none)) else (none)) else (some true)
def impl_allWithin.f (k : Nat) (l0 : List Int) (a1 : Int) (a2 : Int) : Option (Bool) := impl_allWithin.l0 k a1 a2 l0 (l0.length : Int) 0
theorem impl_allWithin.mono_l : ∀ k, (∀ y0 y1 y2 y3 y4, LeO (impl_allWithin.l0 k y0 y1 y2 y3 y4) (impl_allWithin.l0 (k + 1) y0 y1 y2 y3 y4))
 | 0 => fun _ _ _ _ _ r h => by simp [impl_allWithin.l0] at h
 | k + 1 => by
  have ih0 := impl_allWithin.mono_l k
  · intro y0 y1 y2 y3 y4
    unfold impl_allWithin.l0
    repeat' first
    | (with_reducible exact ih0 _ _ _ _ _)
    | (with_reducible exact LeO.refl _)
    | (with_reducible exact LeO.none _)
    | (with_reducible refine LeO.ite ?_ ?_)
    | (with_reducible refine LeO.bind ?_ (fun _ => ?_))
    | exact ih0 _ _ _ _ _
    | exact LeO.none _
    | refine LeO.ite ?_ ?_
    | refine LeO.bind ?_ (fun _ => ?_)
theorem impl_allWithin.mono : ∀ a0 a1 a2 k, LeO (impl_allWithin.f k a0 a1 a2) (impl_allWithin.f (k + 1) a0 a1 a2) := by
 intro a0 a1 a2 k
 have ih0 := impl_allWithin.mono_l k
 unfold impl_allWithin.f
 repeat' first
  | (with_reducible exact ih0 _ _ _ _ _)
  | (with_reducible exact LeO.refl _)
  | (with_reducible exact LeO.none _)
  | (with_reducible refine LeO.ite ?_ ?_)
  | (with_reducible refine LeO.bind ?_ (fun _ => ?_))
  | exact ih0 _ _ _ _ _
  | exact LeO.none _
  | refine LeO.ite ?_ ?_
  | refine LeO.bind ?_ (fun _ => ?_)
theorem impl_allWithin.calls (k : Nat) (A0 : Option Addr) (c0 : Nat) (l0 : List Int) (a1 : Int) (a2 : Int) (r : Bool) (w : World) (hr0 : Kd.C (Kd.int .i64) w A0 l0.length l0) (hc0 : l0.length ≤ c0) (h : impl_allWithin.f k l0 a1 a2 = some r) :
 Calls Tryz.prog 52 #[.slice A0 l0.length c0, .int .i64 a1, .int .i64 a2] w fun e w' => e = .returned (.bool r) ∧ Drawn0 w w' := by
 have HR0 := Aside0.mk hr0
 have HC0 := Aside0.mk hc0
 clear hr0 hc0
 have H := h
 clear h
 unfold impl_allWithin.f at H
 have H' := Aside0.mk H
 clear H
 go_enter Tryz.func52, Tryz.ntmps52
 go_wp2
 go_loopg [11] k (fun kq v11 w' => ∃ (x11_1 : Int), v11 = .int .i64 x11_1 ∧ Aside0 (impl_allWithin.l0 kq a1 a2 l0 (l0.length : Int) x11_1 = some r) ∧ Aside0 (kq ≤ k) ∧ Drawn0 w w')
 case atStart => exact ⟨(0), rs_, H', ⟨Nat.le_refl _⟩, by repeat (first | exact Drawn0.refl _ | apply Drawn0.step)⟩
 case round =>
  clear H'
  try clear p2
  obtain ⟨x11_1, rfl, HA, HK1, ⟨m1, rfl⟩⟩ := hrel
  cases gk with
  | zero => exact absurd HA.out (by simp [impl_allWithin.l0])
  | succ k1 =>
   have H := HA.out
   clear HA
   simp only [impl_allWithin.l0] at H
   by_cases c4 : x11_1 < (l0.length : Int)
   · rw [if_pos c4] at H
     have c4b0 : decide (x11_1 < (l0.length : Int)) = true := decide_eq_true c4
     clear c4
     by_cases c5 : 0 ≤ x11_1
     · rw [if_pos c5] at H
       have c5b0 : decide (0 ≤ x11_1) = true := decide_eq_true c5
       clear c5
       by_cases c6 : x11_1 < (l0.length : Int)
       · rw [if_pos c6] at H
         have c6b0 : decide (x11_1 < (l0.length : Int)) = true := decide_eq_true c6
         clear c6
         obtain ⟨t436, A7, H⟩ := ob_ H
         by_cases c8 : t436 = true
         · subst c8
           rw [if_pos rfl] at H
           have H' := Aside0.mk H
           clear H
           have p435 : 0 ≤ (x11_1 : Int) := od_
           have q435 : x11_1 < (l0.length : Int) := od_
           obtain ⟨ad435, e435, hx435_0⟩ := Kd.at_int HR0.out x11_1 p435 q435
           cases e435
           replace p435 := eq_true p435
           replace q435 := eq_true q435
           go_wp2_with (first | ((with_reducible refine gate_callee (f := 21) rfl ?_); refine gL_ (some 18) Tryz.func21 #[.int .i64 (rd l0 x11_1), .int .i64 a1, .int .i64 a2] ?_; (with_reducible refine (impl_within.calls (rd l0 x11_1) a1 a2 true _ A7.out).mono ?_); rintro e w' ⟨rfl, ⟨nd, rfl⟩⟩; refine ⟨_, rfl, ?_⟩))
           go_roundg k1
           case measure => have := HK1.out; omega
           case rel => exact ⟨(wrap64 (x11_1 + 1)), rs_, H', ⟨by have := HK1.out; omega⟩, by repeat (first | exact Drawn0.refl _ | apply Drawn0.step)⟩
         · replace c8 := Bool.eq_false_iff.mpr c8
           subst c8
           rw [if_neg (show ¬ (false = true) by decide)] at H
           obtain rfl := Option.some.inj H
           have p435 : 0 ≤ (x11_1 : Int) := od_
           have q435 : x11_1 < (l0.length : Int) := od_
           obtain ⟨ad435, e435, hx435_0⟩ := Kd.at_int HR0.out x11_1 p435 q435
           cases e435
           replace p435 := eq_true p435
           replace q435 := eq_true q435
           go_wp2_with (first | ((with_reducible refine gate_callee (f := 21) rfl ?_); refine gL_ (some 18) Tryz.func21 #[.int .i64 (rd l0 x11_1), .int .i64 a1, .int .i64 a2] ?_; (with_reducible refine (impl_within.calls (rd l0 x11_1) a1 a2 false _ A7.out).mono ?_); rintro e w' ⟨rfl, ⟨nd, rfl⟩⟩; refine ⟨_, rfl, ?_⟩))
           go_ret
           exact ⟨by first | rfl | (simp; done) | (simp [*]; done), by repeat (first | exact Drawn0.refl _ | apply Drawn0.step)⟩
       · rw [if_neg c6] at H
         cases H
     · rw [if_neg c5] at H
       cases H
   · rw [if_neg c4] at H
     have c4b0 : decide (x11_1 < (l0.length : Int)) = false := decide_eq_false c4
     clear c4
     obtain rfl := Option.some.inj H
     go_wp2
     go_ret
     exact ⟨by first | rfl | (simp; done) | (simp [*]; done), by repeat (first | exact Drawn0.refl _ | apply Drawn0.step)⟩
def impl_IsAscending.l0 : Nat → List Int → Int → Option (Bool)
 | 0, _, _ => none
 | k + 1, x0, x3 => if x3 < (x0.length : Int) then (if 0 ≤ x3 then (if 0 ≤ (wrap64 (x3 - 1)) then (if (wrap64 (x3 - 1)) < (x0.length : Int) then (if (rd x0 x3) ≤ (rd x0 (wrap64 (x3 - 1))) then (some false) else (impl_IsAscending.l0 k x0 (wrap64 (x3 + 1)))) else (none)) else (none)) else (none)) else (some true)
def impl_IsAscending.f (k : Nat) (l0 : List Int) : Option (Bool) := impl_IsAscending.l0 k l0 1
theorem impl_IsAscending.mono_l : ∀ k, (∀ y0 y1, LeO (impl_IsAscending.l0 k y0 y1) (impl_IsAscending.l0 (k + 1) y0 y1))
 | 0 => fun _ _ r h => by simp [impl_IsAscending.l0] at h
 | k + 1 => by
  have ih0 := impl_IsAscending.mono_l k
  · intro y0 y1
    unfold impl_IsAscending.l0
    repeat' first
    | (with_reducible exact ih0 _ _)
    | (with_reducible exact LeO.refl _)
    | (with_reducible exact LeO.none _)
    | (with_reducible refine LeO.ite ?_ ?_)
    | (with_reducible refine LeO.bind ?_ (fun _ => ?_))
    | exact ih0 _ _
    | exact LeO.none _
    | refine LeO.ite ?_ ?_
    | refine LeO.bind ?_ (fun _ => ?_)
theorem impl_IsAscending.mono : ∀ a0 k, LeO (impl_IsAscending.f k a0) (impl_IsAscending.f (k + 1) a0) := by
 intro a0 k
 have ih0 := impl_IsAscending.mono_l k
 unfold impl_IsAscending.f
 repeat' first
  | (with_reducible exact ih0 _ _)
  | (with_reducible exact LeO.refl _)
  | (with_reducible exact LeO.none _)
  | (with_reducible refine LeO.ite ?_ ?_)
  | (with_reducible refine LeO.bind ?_ (fun _ => ?_))
  | exact ih0 _ _
  | exact LeO.none _
  | refine LeO.ite ?_ ?_
  | refine LeO.bind ?_ (fun _ => ?_)
theorem impl_IsAscending.calls (k : Nat) (A0 : Option Addr) (c0 : Nat) (l0 : List Int) (r : Bool) (w : World) (hr0 : Kd.C (Kd.int .i64) w A0 l0.length l0) (hc0 : l0.length ≤ c0) (h : impl_IsAscending.f k l0 = some r) :
 Calls Tryz.prog 53 #[.slice A0 l0.length c0] w fun e w' => e = .returned (.bool r) ∧ Drawn0 w w' := by
 have HR0 := Aside0.mk hr0
 have HC0 := Aside0.mk hc0
 clear hr0 hc0
 have H := h
 clear h
 unfold impl_IsAscending.f at H
 have H' := Aside0.mk H
 clear H
 go_enter Tryz.func53, Tryz.ntmps53
 go_wp2
 repeat (go_quiet (fail); try go_wp2)
 go_loopg [3] k (fun kq v3 w' => ∃ (x3_1 : Int), v3 = .int .i64 x3_1 ∧ Aside0 (impl_IsAscending.l0 kq l0 x3_1 = some r) ∧ Aside0 (kq ≤ k) ∧ Drawn0 w w')
 case atStart => exact ⟨(1), rs_, H', ⟨Nat.le_refl _⟩, by repeat (first | exact Drawn0.refl _ | apply Drawn0.step)⟩
 case round =>
  clear H'
  obtain ⟨x3_1, rfl, HA, HK1, ⟨m1, rfl⟩⟩ := hrel
  cases gk with
  | zero => exact absurd HA.out (by simp [impl_IsAscending.l0])
  | succ k1 =>
   have H := HA.out
   clear HA
   simp only [impl_IsAscending.l0] at H
   by_cases c2 : x3_1 < (l0.length : Int)
   · rw [if_pos c2] at H
     have c2b0 : decide (x3_1 < (l0.length : Int)) = true := decide_eq_true c2
     clear c2
     by_cases c3 : 0 ≤ x3_1
     · rw [if_pos c3] at H
       have c3b0 : decide (0 ≤ x3_1) = true := decide_eq_true c3
       clear c3
       obtain ⟨ji4, hji4⟩ : ∃ j_ : Int, (wrap64 (x3_1 - 1)) = j_ := ⟨_, rfl⟩
       replace H : (if 0 ≤ (ji4) then (if (ji4) < (l0.length : Int) then (if (rd l0 x3_1) ≤ (rd l0 (ji4)) then (some false) else (impl_IsAscending.l0 k1 l0 (wrap64 (x3_1 + 1)))) else (none)) else (none)) = some r := by first | (rw [hji4] at H; exact H) | (simp only [hji4] at H ⊢; exact H)
       have hji4w : (IntKind.i64.wrap (x3_1 - 1)) = ji4 := (i64_w _).trans hji4
       by_cases c5 : 0 ≤ (ji4)
       · rw [if_pos c5] at H
         have c5b0 : decide (0 ≤ (ji4)) = true := decide_eq_true c5
         clear c5
         by_cases c6 : (ji4) < (l0.length : Int)
         · rw [if_pos c6] at H
           have c6b0 : decide ((ji4) < (l0.length : Int)) = true := decide_eq_true c6
           clear c6
           by_cases c7 : (rd l0 x3_1) ≤ (rd l0 (ji4))
           · rw [if_pos c7] at H
             have c7b0 : decide ((rd l0 x3_1) ≤ (rd l0 (ji4))) = true := decide_eq_true c7
             clear c7
             obtain rfl := Option.some.inj H
             have p437 : 0 ≤ (x3_1 : Int) := od_
             have q437 : x3_1 < (l0.length : Int) := od_
             obtain ⟨ad437, e437, hx437_0⟩ := Kd.at_int HR0.out x3_1 p437 q437
             cases e437
             replace p437 := eq_true p437
             replace q437 := eq_true q437
             have p438 : 0 ≤ ((ji4) : Int) := od_
             have q438 : (ji4) < (l0.length : Int) := od_
             obtain ⟨ad438, e438, hx438_0⟩ := Kd.at_int HR0.out (ji4) p438 q438
             obtain rfl : ad437 = ad438 := (by injection e438)
             replace p438 := eq_true p438
             replace q438 := eq_true q438
             go_wp2
             repeat (go_quiet (fail); try go_wp2)
             go_ret
             exact ⟨by first | rfl | (simp; done) | (simp only [← hji4] <;> (first | rfl | simp)) | (simp [*]; done), by repeat (first | exact Drawn0.refl _ | apply Drawn0.step)⟩
           · rw [if_neg c7] at H
             have c7b0 : decide ((rd l0 x3_1) ≤ (rd l0 (ji4))) = false := decide_eq_false c7
             clear c7
             have H' := Aside0.mk H
             clear H
             have p437 : 0 ≤ (x3_1 : Int) := od_
             have q437 : x3_1 < (l0.length : Int) := od_
             obtain ⟨ad437, e437, hx437_0⟩ := Kd.at_int HR0.out x3_1 p437 q437
             cases e437
             replace p437 := eq_true p437
             replace q437 := eq_true q437
             have p438 : 0 ≤ ((ji4) : Int) := od_
             have q438 : (ji4) < (l0.length : Int) := od_
             obtain ⟨ad438, e438, hx438_0⟩ := Kd.at_int HR0.out (ji4) p438 q438
             obtain rfl : ad437 = ad438 := (by injection e438)
             replace p438 := eq_true p438
             replace q438 := eq_true q438
             go_wp2
             repeat (go_quiet (fail); try go_wp2)
             go_roundg k1
             case measure => have := HK1.out; omega
             case rel => exact ⟨(wrap64 (x3_1 + 1)), rs_, H', ⟨by have := HK1.out; omega⟩, by repeat (first | exact Drawn0.refl _ | apply Drawn0.step)⟩
         · rw [if_neg c6] at H
           cases H
       · rw [if_neg c5] at H
         cases H
     · rw [if_neg c3] at H
       cases H
   · rw [if_neg c2] at H
     have c2b0 : decide (x3_1 < (l0.length : Int)) = false := decide_eq_false c2
     clear c2
     obtain rfl := Option.some.inj H
     go_wp2
     repeat (go_quiet (fail); try go_wp2)
     go_ret
     exact ⟨by first | rfl | (simp; done) | (simp [*]; done), by repeat (first | exact Drawn0.refl _ | apply Drawn0.step)⟩
def impl_GcdOf.l0 : Nat → Int → Int → Option (Int)
 | 0, _, _ => none
 | k + 1, x0, x1 => if x0 = 0 then (some x1) else (impl_GcdOf.l0 k (Int.tmod x1 x0) x0)
def impl_GcdOf.f (k : Nat) (a0 : Int) (a1 : Int) : Option (Int) := (impl_allWithin.f k (([a0, a1] : List Int)) (-1000000) 1000000).bind fun t442 => (if t442 = true then (impl_GcdOf.l0 k (mx a0 (wrap64 (-a0))) (mx a1 (wrap64 (-a1)))) else (some 0))
theorem impl_GcdOf.mono_l : ∀ k, (∀ y0 y1, LeO (impl_GcdOf.l0 k y0 y1) (impl_GcdOf.l0 (k + 1) y0 y1))
 | 0 => fun _ _ r h => by simp [impl_GcdOf.l0] at h
 | k + 1 => by
  have ih0 := impl_GcdOf.mono_l k
  · intro y0 y1
    unfold impl_GcdOf.l0
    repeat' first
    | (with_reducible exact ih0 _ _)
    | (with_reducible exact impl_allWithin.mono _ _ _ _)
    | (with_reducible exact LeO.refl _)
    | (with_reducible exact LeO.none _)
    | (with_reducible refine LeO.ite ?_ ?_)
    | (with_reducible refine LeO.bind ?_ (fun _ => ?_))
    | exact ih0 _ _
    | exact LeO.none _
    | refine LeO.ite ?_ ?_
    | refine LeO.bind ?_ (fun _ => ?_)
theorem impl_GcdOf.mono : ∀ a0 a1 k, LeO (impl_GcdOf.f k a0 a1) (impl_GcdOf.f (k + 1) a0 a1) := by
 intro a0 a1 k
 have ih0 := impl_GcdOf.mono_l k
 unfold impl_GcdOf.f
 repeat' first
  | (with_reducible exact ih0 _ _)
  | (with_reducible exact impl_allWithin.mono _ _ _ _)
  | (with_reducible exact LeO.refl _)
  | (with_reducible exact LeO.none _)
  | (with_reducible refine LeO.ite ?_ ?_)
  | (with_reducible refine LeO.bind ?_ (fun _ => ?_))
  | exact ih0 _ _
  | exact LeO.none _
  | refine LeO.ite ?_ ?_
  | refine LeO.bind ?_ (fun _ => ?_)
theorem impl_GcdOf.calls (k : Nat) (a0 : Int) (a1 : Int) (r : Int) (w : World) (h : impl_GcdOf.f k a0 a1 = some r) :
 Calls Tryz.prog 92 #[.int .i64 a0, .int .i64 a1] w fun e w' => e = .returned (.int .i64 r) ∧ Below w.heap.size w w' := by
 have HB := Aside0.mk (Below.refl w.heap.size w)
 have H := h
 clear h
 unfold impl_GcdOf.f at H
 obtain ⟨y439, hy439⟩ : ∃ y_ : List Int, y_ = (([a0, a1] : List Int)) := ⟨_, rfl⟩
 replace H : ((impl_allWithin.f k y439 (-1000000) 1000000).bind fun t442 => (if t442 = true then (impl_GcdOf.l0 k (mx a0 (wrap64 (-a0))) (mx a1 (wrap64 (-a1)))) else (some 0))) = some r := by subst hy439; exact H
 have Ny439 := Aside0.mk hy439
 clear hy439
 obtain ⟨t442, A3, H⟩ := ob_ H
 by_cases c4 : t442 = true
 · subst c4
   rw [if_pos rfl] at H
   obtain ⟨ji5, hji5⟩ : ∃ j_ : Int, (mx a0 (wrap64 (-a0))) = j_ := ⟨_, rfl⟩
   replace H : (impl_GcdOf.l0 k ji5 (mx a1 (wrap64 (-a1)))) = some r := by first | (rw [hji5] at H; exact H) | (simp only [hji5] at H ⊢; exact H)
   (try rw [hji5] at A3)
   have hji5_ : (if a0 < (wrap64 (-a0)) then (wrap64 (-a0)) else a0) = ji5 := hji5
   obtain ⟨ji6, hji6⟩ : ∃ j_ : Int, (mx a1 (wrap64 (-a1))) = j_ := ⟨_, rfl⟩
   replace H : (impl_GcdOf.l0 k ji5 ji6) = some r := by first | (rw [hji6] at H; exact H) | (simp only [hji6] at H ⊢; exact H)
   (try rw [hji6] at A3)
   have hji6_ : (if a1 < (wrap64 (-a1)) then (wrap64 (-a1)) else a1) = ji6 := hji6
   have H' := Aside0.mk H
   clear H
   go_enter Tryz.func92, Tryz.ntmps92
   go_wp2_with (first | ((with_reducible refine gate_dst (N := 7) rfl ?_); refine Kd.R_lit (Kd.int .i64) _ 3 ?hg (N := 7) ?hd (xs := ([a0, a1] : List Int)) (inner := [.int .i64 a0, .int .i64 a1]) (ok := fun _ => True) (okp := fun _ => True) ?hr ?hp (fun _ hk => hk) trivial (Below.refl _ _) (Nat.le_refl _) (by simp) ?_; (case hd => rfl); (case hg => rfl); (case hr => first | (go_simp; done) | (go_simp; rfl)); (case hp => exact (Reps.one (show Kd.M (Kd.int .i64) _ _ _ a0 [.int .i64 a0] from rfl) (Reps.one (show Kd.M (Kd.int .i64) _ _ _ a1 [.int .i64 a1] from rfl) (Reps.none _ _)))); intro v440 w7 ho8 hb hg_ hnew_; clear hg_ hnew_; (first | rw [← Ny439.out] at ho8 | (simp only [Int.reduceToNat] at ho8; rw [← Ny439.out] at ho8)); have HO441 := Aside0.mk (Kd.R_lower ho8 (below_size (bl_ HB.out))); replace HB := bo_ HB hb; clear hb ho8; obtain ⟨Ao9, co9, eo9⟩ := Kd.R_slice HO441.out; subst eo9) | ((with_reducible refine gate_callee (f := 52) rfl ?_); refine gL_ (some 8) Tryz.func52 #[.slice Ao9 y439.length co9, .int .i64 (-1000000), .int .i64 1000000] ?_; (with_reducible refine (impl_allWithin.calls k _ _ y439 (-1000000) 1000000 true _ ?side1 ?side2 A3.out).mono ?_); (case side1 => exact ce_ ((Kd.R_reads' HO441.out).2.2)); (case side2 => exact (Kd.R_reads' HO441.out).2.1); rintro e w' ⟨rfl, ⟨nd, rfl⟩⟩; refine ⟨_, rfl, ?_⟩))
   go_loopg [0, 1] k (fun kq v0 v1 w' => ∃ (x0_1 : Int) (x1_1 : Int), v0 = .int .i64 x0_1 ∧ v1 = .int .i64 x1_1 ∧ Aside0 (impl_GcdOf.l0 kq x0_1 x1_1 = some r) ∧ Aside0 (kq ≤ k) ∧ Aside0 (Below w.heap.size w w'))
   case atStart => exact ⟨(ji5), (ji6), (by first | rfl | (simp; done) | (simp only [← hji5] <;> (first | rfl | simp)) | (simp [*]; done)), (by first | rfl | (simp; done) | (simp only [← hji6] <;> (first | rfl | simp)) | (simp [*]; done)), H', ⟨Nat.le_refl _⟩, ⟨bl_ HB.out⟩⟩
   case round =>
    clear H'
    try clear p2
    try clear c4
    try clear c5
    try clear p6
    try clear c9
    obtain ⟨x0_1, x1_1, rfl, rfl, HA, HK1, HB⟩ := hrel
    cases gk with
    | zero => exact absurd HA.out (by simp [impl_GcdOf.l0])
    | succ k1 =>
     have H := HA.out
     clear HA
     simp only [impl_GcdOf.l0] at H
     by_cases c10 : x0_1 = 0
     · rw [if_pos c10] at H
       have c10b0 : (x0_1 == 0) = true := beq_iff_eq.mpr c10
       have c10b1 : (x0_1 != 0) = false := bne_eq_false_iff_eq.mpr c10
       clear c10
       obtain rfl := Option.some.inj H
       go_wp2
       go_ret
       exact ⟨by first | rfl | (simp [errW_none, errW_some] <;> rfl) | (simp only [← hji5, ← hji6]; first | rfl | (simp [errW_none, errW_some] <;> rfl)) | (simp [*, errW_none, errW_some] <;> rfl), bl_ HB.out⟩
     · rw [if_neg c10] at H
       have c10b0 : (x0_1 == 0) = false := beq_eq_false_iff_ne.mpr c10
       have c10b1 : (x0_1 != 0) = true := bne_iff_ne.mpr c10
       have H' := Aside0.mk H
       clear H
       go_wp2
       go_roundg k1
       case measure => have := HK1.out; omega
       case rel => exact ⟨(Int.tmod x1_1 x0_1), (x0_1), rs_, rs_, H', ⟨by have := HK1.out; omega⟩, ⟨bl_ HB.out⟩⟩
 · replace c4 := Bool.eq_false_iff.mpr c4
   subst c4
   rw [if_neg (show ¬ (false = true) by decide)] at H
   obtain rfl := Option.some.inj H
   go_enter Tryz.func92, Tryz.ntmps92
   go_wp2_with (first | ((with_reducible refine gate_dst (N := 7) rfl ?_); refine Kd.R_lit (Kd.int .i64) _ 3 ?hg (N := 7) ?hd (xs := ([a0, a1] : List Int)) (inner := [.int .i64 a0, .int .i64 a1]) (ok := fun _ => True) (okp := fun _ => True) ?hr ?hp (fun _ hk => hk) trivial (Below.refl _ _) (Nat.le_refl _) (by simp) ?_; (case hd => rfl); (case hg => rfl); (case hr => first | (go_simp; done) | (go_simp; rfl)); (case hp => exact (Reps.one (show Kd.M (Kd.int .i64) _ _ _ a0 [.int .i64 a0] from rfl) (Reps.one (show Kd.M (Kd.int .i64) _ _ _ a1 [.int .i64 a1] from rfl) (Reps.none _ _)))); intro v440 w11 ho12 hb hg_ hnew_; clear hg_ hnew_; (first | rw [← Ny439.out] at ho12 | (simp only [Int.reduceToNat] at ho12; rw [← Ny439.out] at ho12)); have HO441 := Aside0.mk (Kd.R_lower ho12 (below_size (bl_ HB.out))); replace HB := bo_ HB hb; clear hb ho12; obtain ⟨Ao13, co13, eo13⟩ := Kd.R_slice HO441.out; subst eo13) | ((with_reducible refine gate_callee (f := 52) rfl ?_); refine gL_ (some 8) Tryz.func52 #[.slice Ao13 y439.length co13, .int .i64 (-1000000), .int .i64 1000000] ?_; (with_reducible refine (impl_allWithin.calls k _ _ y439 (-1000000) 1000000 false _ ?side1 ?side2 A3.out).mono ?_); (case side1 => exact ce_ ((Kd.R_reads' HO441.out).2.2)); (case side2 => exact (Kd.R_reads' HO441.out).2.1); rintro e w' ⟨rfl, ⟨nd, rfl⟩⟩; refine ⟨_, rfl, ?_⟩))
   go_ret
   exact ⟨rf_, bl_ HB.out⟩
def impl_GcdOfList.l0 : Nat → Int → List Int → Int → Int → Option (Int)
 | 0, _, _, _, _ => none
 | k + 1, x3, x6, x7, x8 => if x8 < x7 then (if 0 ≤ x8 then (if x8 < (x6.length : Int) then ((impl_GcdOf.f k x3 (rd x6 x8)).bind fun t444 => (impl_GcdOfList.l0 k t444 x6 x7 (wrap64 (x8 + 1)))) else (none)) else (none)) else (some x3)
def impl_GcdOfList.f (k : Nat) (l0 : List Int) : Option (Int) := impl_GcdOfList.l0 k 0 l0 (l0.length : Int) 0
theorem impl_GcdOfList.mono_l : ∀ k, (∀ y0 y1 y2 y3, LeO (impl_GcdOfList.l0 k y0 y1 y2 y3) (impl_GcdOfList.l0 (k + 1) y0 y1 y2 y3))
 | 0 => fun _ _ _ _ r h => by simp [impl_GcdOfList.l0] at h
 | k + 1 => by
  have ih0 := impl_GcdOfList.mono_l k
  · intro y0 y1 y2 y3
    unfold impl_GcdOfList.l0
    repeat' first
    | (with_reducible exact ih0 _ _ _ _)
    | (with_reducible exact impl_GcdOf.mono _ _ _)
    | (with_reducible exact LeO.refl _)
    | (with_reducible exact LeO.none _)
    | (with_reducible refine LeO.ite ?_ ?_)
    | (with_reducible refine LeO.bind ?_ (fun _ => ?_))
    | exact ih0 _ _ _ _
    | exact LeO.none _
    | refine LeO.ite ?_ ?_
    | refine LeO.bind ?_ (fun _ => ?_)
theorem impl_GcdOfList.mono : ∀ a0 k, LeO (impl_GcdOfList.f k a0) (impl_GcdOfList.f (k + 1) a0) := by
 intro a0 k
 have ih0 := impl_GcdOfList.mono_l k
 unfold impl_GcdOfList.f
 repeat' first
  | (with_reducible exact ih0 _ _ _ _)
  | (with_reducible exact impl_GcdOf.mono _ _ _)
  | (with_reducible exact LeO.refl _)
  | (with_reducible exact LeO.none _)
  | (with_reducible refine LeO.ite ?_ ?_)
  | (with_reducible refine LeO.bind ?_ (fun _ => ?_))
  | exact ih0 _ _ _ _
  | exact LeO.none _
  | refine LeO.ite ?_ ?_
  | refine LeO.bind ?_ (fun _ => ?_)
theorem impl_GcdOfList.calls (k : Nat) (A0 : Option Addr) (c0 : Nat) (l0 : List Int) (r : Int) (w : World) (hr0 : Kd.C (Kd.int .i64) w A0 l0.length l0) (hc0 : l0.length ≤ c0) (h : impl_GcdOfList.f k l0 = some r) :
 Calls Tryz.prog 54 #[.slice A0 l0.length c0] w fun e w' => e = .returned (.int .i64 r) ∧ Below w.heap.size w w' := by
 have HR0 := Aside0.mk hr0
 have HC0 := Aside0.mk hc0
 clear hr0 hc0
 have HB := Aside0.mk (Below.refl w.heap.size w)
 have H := h
 clear h
 unfold impl_GcdOfList.f at H
 have H' := Aside0.mk H
 clear H
 go_enter Tryz.func54, Tryz.ntmps54
 go_wp2
 go_loopg [3, 8] k (fun kq v3 v8 w' => ∃ (x3_1 : Int) (x8_1 : Int), v3 = .int .i64 x3_1 ∧ v8 = .int .i64 x8_1 ∧ Aside0 (impl_GcdOfList.l0 kq x3_1 l0 (l0.length : Int) x8_1 = some r) ∧ Aside0 (kq ≤ k) ∧ Aside0 (Below w.heap.size w w'))
 case atStart => exact ⟨(0), (0), rs_, rs_, H', ⟨Nat.le_refl _⟩, ⟨bl_ HB.out⟩⟩
 case round =>
  clear H'
  obtain ⟨x3_1, x8_1, rfl, rfl, HA, HK1, HB⟩ := hrel
  cases gk with
  | zero => exact absurd HA.out (by simp [impl_GcdOfList.l0])
  | succ k1 =>
   have H := HA.out
   clear HA
   simp only [impl_GcdOfList.l0] at H
   by_cases c2 : x8_1 < (l0.length : Int)
   · rw [if_pos c2] at H
     have c2b0 : decide (x8_1 < (l0.length : Int)) = true := decide_eq_true c2
     clear c2
     by_cases c3 : 0 ≤ x8_1
     · rw [if_pos c3] at H
       have c3b0 : decide (0 ≤ x8_1) = true := decide_eq_true c3
       clear c3
       by_cases c4 : x8_1 < (l0.length : Int)
       · rw [if_pos c4] at H
         have c4b0 : decide (x8_1 < (l0.length : Int)) = true := decide_eq_true c4
         clear c4
         obtain ⟨t444, A5, H⟩ := ob_ H
         have H' := Aside0.mk H
         clear H
         have p443 : 0 ≤ (x8_1 : Int) := od_
         have q443 : x8_1 < (l0.length : Int) := od_
         obtain ⟨ad443, e443, hx443_0⟩ := Kd.at_int HR0.out x8_1 p443 q443
         cases e443
         (try replace hx443_0 := (HB.out.cell (World.block_lt_of_cell? w _ hx443_0)).trans hx443_0)
         replace p443 := eq_true p443
         replace q443 := eq_true q443
         go_wp2_with (first | ((with_reducible refine gate_callee (f := 92) rfl ?_); refine gL_ (some 14) Tryz.func92 #[.int .i64 x3_1, .int .i64 (rd l0 x8_1)] ?_; (with_reducible refine (impl_GcdOf.calls k1 x3_1 (rd l0 x8_1) t444 _ A5.out).mono ?_); rintro e w6 ⟨rfl, hb⟩; refine ⟨_, rfl, ?_⟩; replace HB := bo_ HB hb; (try clear hb)))
         go_roundg k1
         case measure => have := HK1.out; omega
         case rel => exact ⟨(t444), (wrap64 (x8_1 + 1)), rs_, rs_, H', ⟨by have := HK1.out; omega⟩, ⟨bl_ HB.out⟩⟩
       · rw [if_neg c4] at H
         cases H
     · rw [if_neg c3] at H
       cases H
   · rw [if_neg c2] at H
     have c2b0 : decide (x8_1 < (l0.length : Int)) = false := decide_eq_false c2
     clear c2
     obtain rfl := Option.some.inj H
     go_wp2
     go_ret
     exact ⟨rf_, bl_ HB.out⟩
end Go.Proofs.YteaiehpgigaoaaaGreatDoor.PB
end
