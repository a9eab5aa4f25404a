/-
  The walk of the law on rights' lists: it returns true and writes nothing that was there. No conditions.
-/
import Derived.Test.YteklmebacmbdiaaDoorTexts
namespace Go.Proofs.YteklmebacmbdiaaDoor
open Go.RowKit

theorem below_then {w w1 w2 : World} (h : Below w.heap.size w w1) (hB : Below w1.heap.size w1 w2) : Below w.heap.size w w2 := h.trans (hB.mono h.size)
theorem below_drw {w w1 : World} (h : Below w.heap.size w w1) (n : Nat) : Below w.heap.size w (w1.drewN n) := ⟨h.os, h.tape, h.output, h.size, h.block⟩
set_option maxHeartbeats 1000000 in
theorem FnExactRightsValid_w (a : Option Addr) (len cap : Nat) (ss : List ByteArray) (w : World) (h : Texts w a len cap ss) :
    Calls Tryd.prog 5 #[.slice a len cap] w fun e w' => e = .returned (.bool true) ∧ Below w.heap.size w w' := by
  obtain ⟨rfl, hc1, hc2, hr, hS⟩ := h
  have H := Lib.hid hS
  clear hS
  go_enter Tryd.func5, Tryd.ntmps5
  go_wp2_with fail
  refine (szStringS_c a cap ss w H.out (by omega) hr).mono ?_
  rintro e w' ⟨r, rfl, hr1, hsm, rfl⟩
  by_cases hneg : r < 0
  · go_wp2_with fail
    go_ret
    exact ⟨rfl, Below.refl _ _⟩
  · have HM := Lib.hid (hsm (by omega))
    have hlen := HM.out.1
    clear hsm
    go_wp2_with fail
    refine (toStringS_c a cap ss w H.out hlen).mono ?_
    rintro e w1 ⟨v, rfl, ho, hg⟩
    obtain ⟨x, cx, rfl, hx, _⟩ := ho.val
    have HB1 := Lib.hid (below_of_grown hg)
    have HX := Lib.hid hx
    clear ho hx hg
    go_wp2_with fail
    refine (specRightsValid_c x cx ss w1 HX.out HM.out).mono ?_
    rintro e w2 ⟨rfl, q, rfl⟩
    have HB2 := Lib.hid (below_drw HB1.out q)
    have HA2 := Lib.hid (H.out.below HB2.out)
    generalize w1.drewN q = w2 at *
    go_wp2_with fail
    refine (toStringS_c a cap ss w2 HA2.out hlen).mono ?_
    rintro e w3 ⟨v, rfl, ho, hg⟩
    obtain ⟨y, cy, rfl, hy, _⟩ := ho.val
    have HB3 := Lib.hid (below_then HB2.out (below_of_grown hg))
    have HY3 := Lib.hid hy
    clear ho hy hg
    go_wp2_with fail
    refine (implRightsValid_c y cy ss w3 HY3.out HM.out).mono ?_
    rintro e w4 ⟨rfl, hb⟩
    have HB4 := Lib.hid (below_then HB3.out hb)
    have HY4 := Lib.hid (HY3.out.below hb)
    have HA4 := Lib.hid (H.out.below HB4.out)
    clear hb
    generalize rsB ss = c at *
    go_wp2_with fail
    refine (toStringS_c a cap ss w4 HA4.out hlen).mono ?_
    rintro e w5 ⟨v, rfl, ho, hg⟩
    obtain ⟨z, cz, rfl, hz, _⟩ := ho.val
    have HB5 := Lib.hid (below_then HB4.out (below_of_grown hg))
    have HY5 := Lib.hid (HY4.out.below (below_of_grown hg))
    have HZ5 := Lib.hid hz
    clear ho hz hg
    go_wp2_with fail
    refine (eqStringS_c y z cy cz ss w5 HY5.out HZ5.out hlen).mono ?_
    rintro e w6 ⟨rfl, q6, rfl⟩
    have HB6 := Lib.hid (below_drw HB5.out q6)
    go_wp2_with fail
    go_ret
    exact ⟨rfl, HB6.out⟩
end Go.Proofs.YteklmebacmbdiaaDoor
