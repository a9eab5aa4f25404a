/-
  Contracts of the walks through a memory. No conditions.
-/
import Derived.Test.YtdlfnljdhaongaaMemFn
namespace Go.Proofs.Ytdlfnljdhaongaa
open Go.RowKit

def wkB (ls : List (List Int)) (r a : Int) : Bool := mvB ls && (inR r 0 11 && inR a 0 63)
def wkX (ls : List (List Int)) (r a : Int) : Int := cellM ls r (acA a)
def wkY (ls : List (List Int)) (r a : Int) : Int := cellM ls (egF (wkX ls r a)) (acB a)
def wkD (ls : List (List Int)) (r a : Int) : Bool := wkB ls r a && (egO (wkX ls r a) && egO (wkY ls r a))
def wkF (ls : List (List Int)) (r a : Int) : Int := if wkD ls r a then egF (wkY ls r a) else 0
def wkA (ls : List (List Int)) (r a : Int) : Int := if wkD ls r a then acC a else 0
def wkW (ls : List (List Int)) (r a : Int) : Bool := wkD ls r a && (egW (wkX ls r a) && egW (wkY ls r a))
def wkN (ls : List (List Int)) (r a : Int) : Int := if wkB ls r a then (if egO (wkX ls r a) then (if egO (wkY ls r a) then 0 else 2) else 1) else 3
def WalkV (F A : Int) (W : Bool) (N : Int) : Value := .tuple #[.agg #[.int .i64 F, .int .i64 A, .bool W], .int .i64 N]

theorem ac_bd {a : Int} (h : inR a 0 63 = true) : acA a = a / 16 ∧ acB a = a / 4 % 4 ∧ acC a = a % 4 ∧ 0 ≤ acA a ∧ acA a ≤ 3 ∧ 0 ≤ acB a ∧ acB a ≤ 3 ∧ 0 ≤ acC a ∧ acC a ≤ 3 := by
  have b := inR_iff.1 h
  have e1 : acA a = a / 16 := by simp [acA, acO, h]
  have e2 : acB a = a / 4 % 4 := by simp [acB, acO, h]
  have e3 : acC a = a % 4 := by simp [acC, acO, h]
  rw [e1, e2, e3]
  omega
theorem eg_bd {n : Int} (h : egO n = true) : 0 ≤ egF n ∧ egF n ≤ 11 := by
  have b := egO_iff.1 h
  have e1 : egF n = n / 4 := by simp [egF, h]
  rw [e1]
  omega
theorem wk_cases (ls : List (List Int)) (r a : Int) :
    (wkB ls r a = false ∧ wkF ls r a = 0 ∧ wkA ls r a = 0 ∧ wkW ls r a = false ∧ wkN ls r a = 3 ∧ (mvB ls = false ∨ mvB ls = true ∧ inR r 0 11 = false ∨ mvB ls = true ∧ inR r 0 11 = true ∧ inR a 0 63 = false)) ∨
    (mvB ls = true ∧ inR r 0 11 = true ∧ inR a 0 63 = true ∧
      ((egO (wkX ls r a) = false ∧ wkF ls r a = 0 ∧ wkA ls r a = 0 ∧ wkW ls r a = false ∧ wkN ls r a = 1) ∨
       (egO (wkX ls r a) = true ∧ egO (wkY ls r a) = false ∧ wkF ls r a = 0 ∧ wkA ls r a = 0 ∧ wkW ls r a = false ∧ wkN ls r a = 2) ∨
       (egO (wkX ls r a) = true ∧ egO (wkY ls r a) = true ∧ wkF ls r a = egF (wkY ls r a) ∧ wkA ls r a = acC a ∧ wkW ls r a = (egW (wkX ls r a) && egW (wkY ls r a)) ∧ wkN ls r a = 0))) := by
  rcases h1 : mvB ls <;> rcases h2 : inR r 0 11 <;> rcases h3 : inR a 0 63 <;> rcases h4 : egO (wkX ls r a) <;> rcases h5 : egO (wkY ls r a) <;> simp [wkB, wkD, wkF, wkA, wkW, wkN, h1, h2, h3, h4, h5]

set_option maxHeartbeats 1000000 in
theorem implwalk_c (B : Nat) (a : Option Addr) (cap : Nat) (ls : List (List Int)) (r d : Int) (w : World) (h : Mem w B a ls) (hB : B ≤ w.heap.size) (h1 : mvB ls = true) (h2 : inR r 0 11 = true) (h3 : inR d 0 63 = true) :
    Calls Try.prog 28 #[.slice a ls.length cap, .int .i64 r, .int .i64 d] w fun e w' => e = .returned (WalkV (wkF ls r d) (wkA ls r d) (wkW ls r d) (wkN ls r d)) ∧ w.grownBy w' none := by
  have hmem := h.gnone (World.grownBy_alloc w (.cells #[.int .i64 0, .int .i64 0, .bool false] 36) none) hB
  have r0 := (inR_iff.1 h2).1
  have r1 := (inR_iff.1 h2).2
  have d0 := (inR_iff.1 h3).1
  have d1 := (inR_iff.1 h3).2
  obtain ⟨eA, eB, eC, aA0, aA1, aB0, aB1, aC0, aC1⟩ := ac_bd h3
  obtain ⟨b, off, b', off', rc, ha, hc1, hc2⟩ := mv_cells hmem h1 r0 r1 aA0 aA1
  obtain ⟨x0, x1⟩ := cellM_bd h1 r0 r1 aA0 aA1
  subst ha
  have hlen : ls.length = 12 := (mv_shape h1).1
  have hr12 : r < 12 := by omega
  clear eA eB eC
  have hy4 : acA d < 4 := by omega
  have hz4 : acB d < 4 := by omega
  rcases wk_cases ls r d with ⟨hw, _⟩ | ⟨_, _, _, ⟨ho, hF, hA, hW, hN⟩ | ⟨ho, ho2, hF, hA, hW, hN⟩ | ⟨ho, ho2, hF, hA, hW, hN⟩⟩
  · simp [wkB, h1, h2, h3] at hw
  · have HV : Hid (WalkV (wkF ls r d) (wkA ls r d) (wkW ls r d) (wkN ls r d) = .tuple #[.agg #[.int .i64 0, .int .i64 0, .bool false], .int .i64 1]) := by show _ = _; rw [hF, hA, hW, hN]; rfl
    have ho' : egO (cellM ls r (acA d)) = false := by rw [show acA d = acA d from rfl]; exact ho
    rw [HV.out, hlen]
    clear hF hA hW hN h1 h2 ho HV hmem h hlen
    generalize cellM ls r (acA d) = x at *
    go_enter Try.func28, Try.ntmps28
    go_wp2_with (first | (go_at_call 42; refine (implAddressCut_c _ _).mono ?_; rintro e w' ⟨rfl, rfl⟩) | (go_at_call 10; refine (implEntryGet_c _ _ (by omega)).mono ?_; rintro e w' ⟨rfl, rfl⟩))
    exact bodyPost_ret (v := .tuple #[.agg #[.int .i64 0, .int .i64 0, .bool false], .int .i64 1]) (by simp [results, Try.results28, go_sem]) rfl ⟨rfl, World.grownBy_alloc _ _ _⟩
  · have HV : Hid (WalkV (wkF ls r d) (wkA ls r d) (wkW ls r d) (wkN ls r d) = .tuple #[.agg #[.int .i64 0, .int .i64 0, .bool false], .int .i64 2]) := by show _ = _; rw [hF, hA, hW, hN]; rfl
    have ho' : egO (cellM ls r (acA d)) = true := by rw [show acA d = acA d from rfl]; exact ho
    have ho2' : egO (cellM ls (egF (cellM ls r (acA d))) (acB d)) = false := by rw [show acA d = acA d from rfl, show acB d = acB d from rfl]; exact ho2
    obtain ⟨f0, f1⟩ := eg_bd ho'
    obtain ⟨b2, off2, b3, off3, rc2, ha2, hc3, hc4⟩ := mv_cells hmem h1 f0 f1 (And.intro aB0 aB1).1 (And.intro aB0 aB1).2
    obtain ⟨y0, y1⟩ := cellM_bd h1 f0 f1 (And.intro aB0 aB1).1 (And.intro aB0 aB1).2
    simp only [Option.some.injEq, Addr.mk.injEq, and_true] at ha2
    obtain ⟨rfl, rfl⟩ := ha2
    have f12 : egF (cellM ls r (acA d)) < 12 := by omega
    rw [HV.out, hlen]
    clear hF hA hW hN h1 h2 ho ho2 HV hmem h hlen
    generalize cellM ls (egF (cellM ls r (acA d))) (acB d) = y at *
    generalize cellM ls r (acA d) = x at *
    go_enter Try.func28, Try.ntmps28
    go_wp2_with (first | (go_at_call 42; refine (implAddressCut_c _ _).mono ?_; rintro e w' ⟨rfl, rfl⟩) | (go_at_call 10; refine (implEntryGet_c _ _ (by omega)).mono ?_; rintro e w' ⟨rfl, rfl⟩))
    exact bodyPost_ret (v := .tuple #[.agg #[.int .i64 0, .int .i64 0, .bool false], .int .i64 2]) (by simp [results, Try.results28, go_sem]) rfl ⟨rfl, World.grownBy_alloc _ _ _⟩
  · have ho' : egO (cellM ls r (acA d)) = true := by rw [show acA d = acA d from rfl]; exact ho
    have ho2' : egO (cellM ls (egF (cellM ls r (acA d))) (acB d)) = true := by rw [show acA d = acA d from rfl, show acB d = acB d from rfl]; exact ho2
    have HV : Hid (WalkV (wkF ls r d) (wkA ls r d) (wkW ls r d) (wkN ls r d) = .tuple #[.agg #[.int .i64 (egF (cellM ls (egF (cellM ls r (acA d))) (acB d))), .int .i64 (acC d), .bool (egW (cellM ls r (acA d)) && egW (cellM ls (egF (cellM ls r (acA d))) (acB d)))], .int .i64 0]) := by show _ = _; rw [hF, hA, hW, hN, show acA d = acA d from rfl, show acB d = acB d from rfl, show acC d = acC d from rfl]; rfl
    obtain ⟨f0, f1⟩ := eg_bd ho'
    obtain ⟨b2, off2, b3, off3, rc2, ha2, hc3, hc4⟩ := mv_cells hmem h1 f0 f1 (And.intro aB0 aB1).1 (And.intro aB0 aB1).2
    obtain ⟨y0, y1⟩ := cellM_bd h1 f0 f1 (And.intro aB0 aB1).1 (And.intro aB0 aB1).2
    simp only [Option.some.injEq, Addr.mk.injEq, and_true] at ha2
    obtain ⟨rfl, rfl⟩ := ha2
    have f12 : egF (cellM ls r (acA d)) < 12 := by omega
    rw [HV.out, hlen]
    clear hF hA hW hN h1 h2 ho ho2 HV hmem h hlen
    generalize cellM ls (egF (cellM ls r (acA d))) (acB d) = y at *
    generalize cellM ls r (acA d) = x at *
    rcases hWx : egW x
    all_goals
      go_enter Try.func28, Try.ntmps28
      go_wp2_with (first | (go_at_call 42; refine (implAddressCut_c _ _).mono ?_; rintro e w' ⟨rfl, rfl⟩) | (go_at_call 10; refine (implEntryGet_c _ _ (by omega)).mono ?_; rintro e w' ⟨rfl, rfl⟩))
      refine bodyPost_ret (v := .tuple #[.agg #[.int .i64 (egF y), .int .i64 (acC d), .bool (egW x && egW y)], .int .i64 0]) (by simp [results, Try.results28, go_sem, hWx]) rfl ⟨by rw [hWx], World.grownBy_alloc _ _ _⟩
set_option maxHeartbeats 1000000 in
theorem implWalk_c (B : Nat) (a : Option Addr) (cap : Nat) (ls : List (List Int)) (r d : Int) (w : World) (h : Mem w B a ls) (hB : B ≤ w.heap.size) (hs : Small ls) :
    Calls Try.prog 16 #[.slice a ls.length cap, .int .i64 r, .int .i64 d] w fun e w' => e = .returned (WalkV (wkF ls r d) (wkA ls r d) (wkW ls r d) (wkN ls r d)) ∧ w.grownBy w' none := by
  have HG := Lib.hid (World.grownBy_alloc w (.cells #[.int .i64 0, .int .i64 0, .bool false] 36) none)
  have HM := Lib.hid (h.gnone HG.out hB)
  have HB : Hid (B ≤ (w.alloc (.cells #[.int .i64 0, .int .i64 0, .bool false] 36)).heap.size) := by show _ ≤ _; simp; omega
  have HS := Lib.hid hs
  clear h hs
  rcases wk_cases ls r d with ⟨_, hF, hA, hW, hN, hc⟩ | ⟨h1, h2, h3, _⟩
  · have HV : Hid (WalkV (wkF ls r d) (wkA ls r d) (wkW ls r d) (wkN ls r d) = .tuple #[.agg #[.int .i64 0, .int .i64 0, .bool false], .int .i64 3]) := by show _ = _; rw [hF, hA, hW, hN]; rfl
    rw [HV.out]
    clear hF hA hW hN HV
    rcases hc with h1 | ⟨h1, h2⟩ | ⟨h1, h2, h3⟩
    all_goals
      go_enter Try.func16, Try.ntmps16
      go_wp2_with (first | (go_at_call 20; refine (implMemoryValid_c B a cap ls _ HM.out HS.out).mono ?_; rintro e w' ⟨rfl, rfl⟩) | (go_at_call 21; refine (isFrame_c _ _).mono ?_; rintro e w' ⟨rfl, rfl⟩) | (go_at_call 27; refine (isAddress_c _ _).mono ?_; rintro e w' ⟨rfl, rfl⟩))
      exact bodyPost_ret (v := .tuple #[.agg #[.int .i64 0, .int .i64 0, .bool false], .int .i64 3]) (by simp [results, Try.results16, go_sem]) rfl ⟨rfl, World.grownBy_alloc _ _ _⟩
  · generalize hF : wkF ls r d = vF
    generalize hA : wkA ls r d = vA
    generalize hW : wkW ls r d = vW
    generalize hN : wkN ls r d = vN
    have HV : Hid (WalkV (wkF ls r d) (wkA ls r d) (wkW ls r d) (wkN ls r d) = .tuple #[.agg #[.int .i64 vF, .int .i64 vA, .bool vW], .int .i64 vN]) := by show _ = _; rw [hF, hA, hW, hN]; rfl
    clear hF hA hW hN
    have H1 := Lib.hid h1
    have H2 := Lib.hid h2
    have H3 := Lib.hid h3
    go_enter Try.func16, Try.ntmps16
    go_wp2_with (first | (go_at_call 20; refine (implMemoryValid_c B a cap ls _ HM.out HS.out).mono ?_; rintro e w' ⟨rfl, rfl⟩) | (go_at_call 21; refine (isFrame_c _ _).mono ?_; rintro e w' ⟨rfl, rfl⟩) | (go_at_call 27; refine (isAddress_c _ _).mono ?_; rintro e w' ⟨rfl, rfl⟩))
    refine (implwalk_c B a cap ls r d _ HM.out HB.out H1.out H2.out H3.out).mono ?_
    rintro e w2 ⟨rfl, hg⟩
    rw [HV.out]
    have hz := hg.size
    have hcl : ∀ i v, (#[Value.int .i64 0, .int .i64 0, .bool false] : Array Value)[i]? = some v → w2.cell? ⟨w.heap.size, i, none⟩ = some v := fun i v hv => hg.cell (cell_new w _ _ i v hv) (by simp)
    have c0 := hcl 0 _ rfl
    have c1 := hcl 1 _ rfl
    have c2 := hcl 2 _ rfl
    have hfz : ∀ i, w2.frozen? ⟨w.heap.size, i, none⟩ = false := fun i => by
      rw [World.frozen?_of_block (w := w.alloc (.cells #[.int .i64 0, .int .i64 0, .bool false] 36)) (hg.block _ (by simp) (by simp))]
      exact World.frozen?_alloc_at _ _ _ _ rfl
    have z0 := hfz 0
    have z1 := hfz 1
    have z2 := hfz 2
    have HT := Lib.hid (none_setCell (p := ⟨w.heap.size, 2, none⟩) (none_setCell (p := ⟨w.heap.size, 1, none⟩) (none_setCell (p := ⟨w.heap.size, 0, none⟩) (none_trans HG.out hg) (Nat.le_refl _) (.int .i64 vF)) (Nat.le_refl _) (.int .i64 vA)) (Nat.le_refl _) (.bool vW))
    clear hcl hfz hg hz
    go_wp2_with fail
    exact bodyPost_ret (v := .tuple #[.agg #[.int .i64 vF, .int .i64 vA, .bool vW], .int .i64 vN]) (by simp [results, Try.results16, go_sem, c0, c1, c2]) rfl ⟨rfl, HT.out⟩
end Go.Proofs.Ytdlfnljdhaongaa
