/-
  Contracts of the functions that only compute with numbers: chapter 1 (entries, addresses). No conditions.
-/
import Derived.Test.YtjmlfjpocjmnpaaRows
import Derived.WalkKit
import Derived.WalkSpells
import Derived.WalkLawsBesides
import Derived.Handy
import Derived.Lib.Hide
import Derived.BigQuiet
import Derived.Deep.QuietTactic
namespace Go.Proofs.Ytjmlfjpocjmnpaa
open Go.RowKit

def inR (n lo hi : Int) : Bool := decide (lo ≤ n) && decide (n ≤ hi)
theorem inR_iff {n lo hi : Int} : inR n lo hi = true ↔ lo ≤ n ∧ n ≤ hi := by simp [inR]
theorem inR_no {n lo hi : Int} : inR n lo hi = false ↔ ¬ (lo ≤ n ∧ n ≤ hi) := by
  rw [← inR_iff]; simp

def epV (f : Int) (b : Bool) : Int := if inR f 0 11 then (if b then 4 * f + 3 else 4 * f + 1) else 0
def egO (n : Int) : Bool := decide (0 ≤ n) && decide (n % 2 = 1) && decide (n < 48)
def egF (n : Int) : Int := if egO n then n / 4 else 0
def egW (n : Int) : Bool := egO n && decide (n % 4 = 3)
def ekV (n : Int) : Int := if n = 0 then 0 else if egO n then 1 else 2
def acO (a : Int) : Bool := inR a 0 63
def acA (a : Int) : Int := if acO a then a / 16 else 0
def acB (a : Int) : Int := if acO a then a / 4 % 4 else 0
def acC (a : Int) : Int := if acO a then a % 4 else 0
def aoO (p t : Int) : Bool := inR p 0 15 && inR t 0 3
def aoV (p t : Int) : Int := if aoO p t then 4 * p + t else 0

theorem egO_iff {n : Int} : egO n = true ↔ 0 ≤ n ∧ n % 2 = 1 ∧ n < 48 := by simp [egO, and_assoc]
theorem egO_no {n : Int} : egO n = false ↔ ¬ (0 ≤ n ∧ n % 2 = 1 ∧ n < 48) := by rw [← egO_iff]; simp

set_option maxHeartbeats 400000 in
theorem within_c (n lo hi : Int) (w : World) :
    Calls Try.prog 48 #[.int .i64 n, .int .i64 lo, .int .i64 hi] w fun e w' => e = .returned (.bool (inR n lo hi)) ∧ w = w' := by
  by_cases h1 : lo ≤ n
  · by_cases h2 : n ≤ hi
    all_goals
      go_enter Try.func48, Try.ntmps48
      go_wp2
      go_ret
      exact ⟨by simp [inR, h1, h2], rfl⟩
  · have h3 : decide (lo ≤ n) = false := by simpa using h1
    go_enter Try.func48, Try.ntmps48
    go_wp2
    go_ret
    exact ⟨by simp [inR, h3], rfl⟩
set_option maxHeartbeats 400000 in
theorem l6In_c (n lo hi : Int) (w : World) :
    Calls Try.prog 37 #[.int .i64 n, .int .i64 lo, .int .i64 hi] w fun e w' => e = .returned (.bool (inR n lo hi)) ∧ w = w' := by
  by_cases h1 : lo ≤ n
  · by_cases h2 : n ≤ hi
    all_goals
      go_enter Try.func37, Try.ntmps37
      go_wp2
      go_ret
      exact ⟨by simp [inR, h1, h2], rfl⟩
  · have h3 : decide (lo ≤ n) = false := by simpa using h1
    go_enter Try.func37, Try.ntmps37
    go_wp2
    go_ret
    exact ⟨by simp [inR, h3], rfl⟩
theorem isFrame_c (n : Int) (w : World) : Calls Try.prog 34 #[.int .i64 n] w fun e w' => e = .returned (.bool (inR n 0 11)) ∧ w = w' := by
  go_enter Try.func34, Try.ntmps34
  go_wp2_with (go_at_call 48; refine (within_c _ _ _ _).mono ?_; rintro e w' ⟨rfl, rfl⟩)
  go_ret
  exact ⟨rfl, rfl⟩
theorem isPlace_c (n : Int) (w : World) : Calls Try.prog 35 #[.int .i64 n] w fun e w' => e = .returned (.bool (inR n 0 3)) ∧ w = w' := by
  go_enter Try.func35, Try.ntmps35
  go_wp2_with (go_at_call 48; refine (within_c _ _ _ _).mono ?_; rintro e w' ⟨rfl, rfl⟩)
  go_ret
  exact ⟨rfl, rfl⟩
theorem l1Frame_c (n : Int) (w : World) : Calls Try.prog 40 #[.int .i64 n] w fun e w' => e = .returned (.bool (inR n 0 11)) ∧ w = w' := by
  go_enter Try.func40, Try.ntmps40
  go_wp2_with (go_at_call 37; refine (l6In_c _ _ _ _).mono ?_; rintro e w' ⟨rfl, rfl⟩)
  go_ret
  exact ⟨rfl, rfl⟩
theorem isWord_c (n : Int) (w : World) : Calls Try.prog 42 #[.int .i64 n] w fun e w' => e = .returned (.bool (inR n 0 9999)) ∧ w = w' := by
  go_enter Try.func42, Try.ntmps42
  go_wp2_with (go_at_call 48; refine (within_c _ _ _ _).mono ?_; rintro e w' ⟨rfl, rfl⟩)
  go_ret
  exact ⟨rfl, rfl⟩
end Go.Proofs.Ytjmlfjpocjmnpaa
