/-
  Contracts of the functions that only compute with numbers: chapter 1 (entries, addresses). No conditions.
-/
import Derived.Test.YteklmebacmbdiaaDoorRows
import Derived.WalkKit
import Derived.WalkSpells
import Derived.WalkLawsBesides
import Derived.Handy
import Derived.Lib.Hide
import Derived.BigQuiet
import Derived.Deep.QuietTactic
namespace Go.Proofs.YteklmebacmbdiaaDoor
open Go.RowKit

def inR (n lo hi : Int) : Bool := decide (lo ≤ n) && decide (n ≤ hi)
theorem inR_iff {n lo hi : Int} : inR n lo hi = true ↔ lo ≤ n ∧ n ≤ hi := by simp [inR]
theorem inR_no {n lo hi : Int} : inR n lo hi = false ↔ ¬ (lo ≤ n ∧ n ≤ hi) := by
  rw [← inR_iff]; simp

def epV (f : Int) (b : Bool) : Int := if inR f 0 11 then (if b then 4 * f + 3 else 4 * f + 1) else 0
def egO (n : Int) : Bool := decide (0 ≤ n) && decide (n % 2 = 1) && decide (n < 48)
def egF (n : Int) : Int := if egO n then n / 4 else 0
def egW (n : Int) : Bool := egO n && decide (n % 4 = 3)
def ekV (n : Int) : Int := if n = 0 then 0 else if egO n then 1 else 2
def acO (a : Int) : Bool := inR a 0 63
def acA (a : Int) : Int := if acO a then a / 16 else 0
def acB (a : Int) : Int := if acO a then a / 4 % 4 else 0
def acC (a : Int) : Int := if acO a then a % 4 else 0
def aoO (p t : Int) : Bool := inR p 0 15 && inR t 0 3
def aoV (p t : Int) : Int := if aoO p t then 4 * p + t else 0

theorem egO_iff {n : Int} : egO n = true ↔ 0 ≤ n ∧ n % 2 = 1 ∧ n < 48 := by simp [egO, and_assoc]
theorem egO_no {n : Int} : egO n = false ↔ ¬ (0 ≤ n ∧ n % 2 = 1 ∧ n < 48) := by rw [← egO_iff]; simp

end Go.Proofs.YteklmebacmbdiaaDoor
