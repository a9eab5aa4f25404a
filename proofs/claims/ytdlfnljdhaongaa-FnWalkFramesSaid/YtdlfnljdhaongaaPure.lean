/-
  Contracts of the functions that only compute with numbers: chapter 1 (entries, addresses). No conditions.
-/
import Derived.Test.YtdlfnljdhaongaaRows
import Derived.WalkKit
import Derived.WalkSpells
import Derived.WalkLawsBesides
import Derived.Handy
import Derived.Lib.Hide
import Derived.BigQuiet
import Derived.Deep.QuietTactic
namespace Go.Proofs.Ytdlfnljdhaongaa
open Go.RowKit

def inR (n lo hi : Int) : Bool := decide (lo ≤ n) && decide (n ≤ hi)
theorem inR_iff {n lo hi : Int} : inR n lo hi = true ↔ lo ≤ n ∧ n ≤ hi := by simp [inR]
theorem inR_no {n lo hi : Int} : inR n lo hi = false ↔ ¬ (lo ≤ n ∧ n ≤ hi) := by
  rw [← inR_iff]; simp

def epV (f : Int) (b : Bool) : Int := if inR f 0 11 then (if b then 4 * f + 3 else 4 * f + 1) else 0
def egO (n : Int) : Bool := decide (0 ≤ n) && decide (n % 2 = 1) && decide (n < 48)
def egF (n : Int) : Int := if egO n then n / 4 else 0
def egW (n : Int) : Bool := egO n && decide (n % 4 = 3)
def ekV (n : Int) : Int := if n = 0 then 0 else if egO n then 1 else 2
def acO (a : Int) : Bool := inR a 0 63
def acA (a : Int) : Int := if acO a then a / 16 else 0
def acB (a : Int) : Int := if acO a then a / 4 % 4 else 0
def acC (a : Int) : Int := if acO a then a % 4 else 0
def aoO (p t : Int) : Bool := inR p 0 15 && inR t 0 3
def aoV (p t : Int) : Int := if aoO p t then 4 * p + t else 0

theorem egO_iff {n : Int} : egO n = true ↔ 0 ≤ n ∧ n % 2 = 1 ∧ n < 48 := by simp [egO, and_assoc]
theorem egO_no {n : Int} : egO n = false ↔ ¬ (0 ≤ n ∧ n % 2 = 1 ∧ n < 48) := by rw [← egO_iff]; simp

set_option maxHeartbeats 400000 in
theorem within_c (n lo hi : Int) (w : World) :
    Calls Try.prog 35 #[.int .i64 n, .int .i64 lo, .int .i64 hi] w fun e w' => e = .returned (.bool (inR n lo hi)) ∧ w = w' := by
  by_cases h1 : lo ≤ n
  · by_cases h2 : n ≤ hi
    all_goals
      go_enter Try.func35, Try.ntmps35
      go_wp2
      go_ret
      exact ⟨by simp [inR, h1, h2], rfl⟩
  · have h3 : decide (lo ≤ n) = false := by simpa using h1
    go_enter Try.func35, Try.ntmps35
    go_wp2
    go_ret
    exact ⟨by simp [inR, h3], rfl⟩
set_option maxHeartbeats 400000 in
theorem l6In_c (n lo hi : Int) (w : World) :
    Calls Try.prog 41 #[.int .i64 n, .int .i64 lo, .int .i64 hi] w fun e w' => e = .returned (.bool (inR n lo hi)) ∧ w = w' := by
  by_cases h1 : lo ≤ n
  · by_cases h2 : n ≤ hi
    all_goals
      go_enter Try.func41, Try.ntmps41
      go_wp2
      go_ret
      exact ⟨by simp [inR, h1, h2], rfl⟩
  · have h3 : decide (lo ≤ n) = false := by simpa using h1
    go_enter Try.func41, Try.ntmps41
    go_wp2
    go_ret
    exact ⟨by simp [inR, h3], rfl⟩
theorem isFrame_c (n : Int) (w : World) : Calls Try.prog 21 #[.int .i64 n] w fun e w' => e = .returned (.bool (inR n 0 11)) ∧ w = w' := by
  go_enter Try.func21, Try.ntmps21
  go_wp2_with (go_at_call 35; refine (within_c _ _ _ _).mono ?_; rintro e w' ⟨rfl, rfl⟩)
  go_ret
  exact ⟨rfl, rfl⟩
theorem isAddress_c (n : Int) (w : World) : Calls Try.prog 27 #[.int .i64 n] w fun e w' => e = .returned (.bool (inR n 0 63)) ∧ w = w' := by
  go_enter Try.func27, Try.ntmps27
  go_wp2_with (go_at_call 35; refine (within_c _ _ _ _).mono ?_; rintro e w' ⟨rfl, rfl⟩)
  go_ret
  exact ⟨rfl, rfl⟩
theorem l1Frame_c (n : Int) (w : World) : Calls Try.prog 38 #[.int .i64 n] w fun e w' => e = .returned (.bool (inR n 0 11)) ∧ w = w' := by
  go_enter Try.func38, Try.ntmps38
  go_wp2_with (go_at_call 41; refine (l6In_c _ _ _ _).mono ?_; rintro e w' ⟨rfl, rfl⟩)
  go_ret
  exact ⟨rfl, rfl⟩
theorem pGet (n : Int) : (n < 0 ∧ egO n = false) ∨ (0 ≤ n ∧ n % 2 = 0 ∧ egO n = false) ∨ (0 ≤ n ∧ n % 2 = 1 ∧ 48 ≤ n ∧ egO n = false) ∨ (0 ≤ n ∧ n % 2 = 1 ∧ n < 48 ∧ egO n = true ∧ n % 4 = 3) ∨ (0 ≤ n ∧ n % 2 = 1 ∧ n < 48 ∧ egO n = true ∧ n % 4 = 1) := by
  rcases h : egO n
  · rw [egO_no] at h; simp; omega
  · rw [egO_iff] at h; simp; omega
set_option maxHeartbeats 400000 in
theorem implEntryGet_c (n : Int) (w : World) (hi : n ≤ 9223372036854775807) :
    Calls Try.prog 10 #[.int .i64 n] w fun e w' => e = .returned (.tuple #[.int .i64 (egF n), .bool (egW n), .bool (egO n)]) ∧ w = w' := by
  rcases pGet n with ⟨h1, ho⟩ | ⟨h1, h2, ho⟩ | ⟨h1, h2, h3, ho⟩ | ⟨h1, h2, h3, ho, h4⟩ | ⟨h1, h2, h3, ho, h4⟩
  · go_enter Try.func10, Try.ntmps10
    go_wp2_with (go_at_call 21; refine (isFrame_c _ _).mono ?_; rintro e w' ⟨rfl, rfl⟩)
    go_ret3
    exact ⟨by simp [egF, egW, ho], rfl⟩
  · have hb : (n % 2 == 0) = true := by simp; omega
    have H := Lib.hid h2
    clear h2
    go_enter Try.func10, Try.ntmps10
    go_wp2_with (go_at_call 21; refine (isFrame_c _ _).mono ?_; rintro e w' ⟨rfl, rfl⟩)
    go_ret3
    exact ⟨by simp [egF, egW, ho], rfl⟩
  · have hb : (n % 2 == 0) = false := by simp; omega
    have hf : inR (n / 4) 0 11 = false := by rw [inR_no]; omega
    clear h2
    go_enter Try.func10, Try.ntmps10
    go_wp2_with (go_at_call 21; refine (isFrame_c _ _).mono ?_; rintro e w' ⟨rfl, rfl⟩)
    go_ret3
    exact ⟨by simp [egF, egW, ho], rfl⟩
  · have hb : (n % 2 == 0) = false := by simp; omega
    have hf : inR (n / 4) 0 11 = true := by rw [inR_iff]; omega
    have hc : (n % 4 == 3) = true := by simp; omega
    have H4 := Lib.hid h4
    have Ho := Lib.hid ho
    clear h2 h4 ho
    go_enter Try.func10, Try.ntmps10
    go_wp2_with (go_at_call 21; refine (isFrame_c _ _).mono ?_; rintro e w' ⟨rfl, rfl⟩)
    go_ret3
    exact ⟨by simp [egF, egW, Ho.out, H4.out], rfl⟩
  · have hb : (n % 2 == 0) = false := by simp; omega
    have hf : inR (n / 4) 0 11 = true := by rw [inR_iff]; omega
    have hc : (n % 4 == 3) = false := by simp; omega
    have H4 := Lib.hid h4
    have Ho := Lib.hid ho
    clear h2 h4 ho
    go_enter Try.func10, Try.ntmps10
    go_wp2_with (go_at_call 21; refine (isFrame_c _ _).mono ?_; rintro e w' ⟨rfl, rfl⟩)
    go_ret3
    exact ⟨by simp [egF, egW, Ho.out, H4.out], rfl⟩
theorem pKindS (n : Int) : n = 0 ∨ (n < 0 ∧ egO n = false) ∨ (0 < n ∧ n % 2 = 0 ∧ egO n = false) ∨ (0 < n ∧ n % 2 = 1 ∧ 48 ≤ n ∧ egO n = false) ∨ (0 < n ∧ n % 2 = 1 ∧ n < 48 ∧ egO n = true) := by
  rcases h : egO n
  · rw [egO_no] at h; simp; omega
  · rw [egO_iff] at h; simp; omega
set_option maxHeartbeats 400000 in
theorem specEntryKind_c (n : Int) (w : World) (hi : n ≤ 9223372036854775807) :
    Calls Try.prog 63 #[.int .i64 n] w fun e w' => e = .returned (.int .i64 (ekV n)) ∧ w = w' := by
  rcases pKindS n with rfl | ⟨h1, ho⟩ | ⟨h1, h2, ho⟩ | ⟨h1, h2, h3, ho⟩ | ⟨h1, h2, h3, ho⟩
  · go_enter Try.func63, Try.ntmps63
    go_wp2
    go_ret
    exact ⟨by simp [ekV], rfl⟩
  · have hb : (n == 0) = false := by simp; omega
    have hd : decide (0 < n) = false := by simp; omega
    have E : ekV n = 2 := by simp [ekV, ho]; omega
    have HE := Lib.hid E
    clear E ho
    go_enter Try.func63, Try.ntmps63
    go_wp2
    go_ret
    exact ⟨by rw [HE.out]; rfl, rfl⟩
  · have hb : (n == 0) = false := by simp; omega
    have hd : decide (0 < n) = true := by simp; omega
    have hm : (n % 2 == 1) = false := by simp; omega
    have E : ekV n = 2 := by simp [ekV, ho]; omega
    have HE := Lib.hid E
    clear E ho h2
    go_enter Try.func63, Try.ntmps63
    go_wp2
    go_ret
    exact ⟨by rw [HE.out]; rfl, rfl⟩
  · have hb : (n == 0) = false := by simp; omega
    have hd : decide (0 < n) = true := by simp; omega
    have hm : (n % 2 == 1) = true := by simp; omega
    have hl : decide (n < 48) = false := by simp; omega
    have E : ekV n = 2 := by simp [ekV, ho]; omega
    have HE := Lib.hid E
    clear E ho h2
    go_enter Try.func63, Try.ntmps63
    go_wp2
    go_ret
    exact ⟨by rw [HE.out]; rfl, rfl⟩
  · have hb : (n == 0) = false := by simp; omega
    have hd : decide (0 < n) = true := by simp; omega
    have hm : (n % 2 == 1) = true := by simp; omega
    have hl : decide (n < 48) = true := by simp; omega
    have E : ekV n = 1 := by simp [ekV, ho]; omega
    have HE := Lib.hid E
    clear E ho h2
    go_enter Try.func63, Try.ntmps63
    go_wp2
    go_ret
    exact ⟨by rw [HE.out]; rfl, rfl⟩
theorem ekV_yes {n : Int} (h : egO n = true) : (ekV n != 1) = false := by
  have h' := egO_iff.1 h
  simp [ekV, h]; omega
theorem ekV_no {n : Int} (h : egO n = false) : (ekV n != 1) = true := by
  simp [ekV, h]; split <;> simp
set_option maxHeartbeats 400000 in
theorem specEntryGet_c (n : Int) (w : World) (hi : n ≤ 9223372036854775807) :
    Calls Try.prog 50 #[.int .i64 n] w fun e w' => e = .returned (.tuple #[.int .i64 (egF n), .bool (egW n), .bool (egO n)]) ∧ w = w' := by
  rcases h : egO n
  · have hk := ekV_no h
    have hF : egF n = 0 := by simp [egF, h]
    have hW : egW n = false := by simp [egW, h]
    have HF := Lib.hid hF
    have HW := Lib.hid hW
    clear hF hW h
    go_enter Try.func50, Try.ntmps50
    go_wp2_with (go_at_call 63; refine (specEntryKind_c _ _ hi).mono ?_; rintro e w' ⟨rfl, rfl⟩)
    go_ret3
    exact ⟨by rw [HF.out, HW.out]; rfl, rfl⟩
  · have hk := ekV_yes h
    have h' := egO_iff.1 h
    have hF : egF n = n / 4 := by simp [egF, h]
    have hW : egW n = (n % 4 == 3) := by simp [egW, h, Bool.beq_eq_decide_eq]
    have h0 := h'.1
    have HF := Lib.hid hF
    have HW := Lib.hid hW
    clear hF hW h h'
    go_enter Try.func50, Try.ntmps50
    go_wp2_with (go_at_call 63; refine (specEntryKind_c _ _ hi).mono ?_; rintro e w' ⟨rfl, rfl⟩)
    go_ret3
    exact ⟨by rw [HF.out, HW.out]; rfl, rfl⟩
set_option maxHeartbeats 400000 in
theorem implAddressCut_c (n : Int) (w : World) :
    Calls Try.prog 42 #[.int .i64 n] w fun e w' => e = .returned (.tuple #[.int .i64 (acA n), .int .i64 (acB n), .int .i64 (acC n), .bool (inR n 0 63)]) ∧ w = w' := by
  rcases h : inR n 0 63
  · go_enter Try.func42, Try.ntmps42
    go_wp2_with (go_at_call 27; refine (isAddress_c _ _).mono ?_; rintro e w' ⟨rfl, rfl⟩)
    refine bodyPost_ret (v := .tuple #[.int .i64 0, .int .i64 0, .int .i64 0, .bool false]) (by simp [results, Try.results42, go_sem]) rfl ?_
    exact ⟨by simp [acA, acB, acC, acO, h], rfl⟩
  · have h0 := (inR_iff.1 h).1
    have h1 := (inR_iff.1 h).2
    go_enter Try.func42, Try.ntmps42
    go_wp2_with (go_at_call 27; refine (isAddress_c _ _).mono ?_; rintro e w' ⟨rfl, rfl⟩)
    refine bodyPost_ret (v := .tuple #[.int .i64 (n / 16), .int .i64 (n / 4 % 4), .int .i64 (n % 4), .bool true]) (by simp [results, Try.results42, go_sem]) rfl ?_
    exact ⟨by simp [acA, acB, acC, acO, h], rfl⟩
theorem isWord_c (n : Int) (w : World) : Calls Try.prog 46 #[.int .i64 n] w fun e w' => e = .returned (.bool (inR n 0 9999)) ∧ w = w' := by
  go_enter Try.func46, Try.ntmps46
  go_wp2_with (go_at_call 35; refine (within_c _ _ _ _).mono ?_; rintro e w' ⟨rfl, rfl⟩)
  go_ret
  exact ⟨rfl, rfl⟩
end Go.Proofs.Ytdlfnljdhaongaa
