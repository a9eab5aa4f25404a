/-
  What the form tells of a slice of translations and of a translation that came in. No conditions.
-/
import Derived.Test.YtmoalecejjeiiaaCache
namespace Go.Proofs.Ytmoalecejjeiiaa
open Go.RowKit Go.ChangeShapes Go.WideShapes

theorem list4 {α : Type} {l : List α} (h : l.length = 4) : ∃ a b c d, l = [a, b, c, d] := by
  match l, h with
  | [a, b, c, d], _ => exact ⟨a, b, c, d, rfl⟩
theorem caches_of {H : Type} {enc : TypeId × Value → H} {w : World} {held : Bool} {fuel : Nat} {a : Option Addr} {len cap : Nat} {x : DataW H × List MemPlace}
    (h : DataW.trod enc Try.prog w 0 (fun _ => true) held fuel 22 (Value.cells (.slice a len cap)).toList = some x) : ∃ cs, CachesL w a len cap cs := by
  rcases Go.Deep.open_slice Try.underlying22 h with ⟨hcs, _⟩ | ⟨a', len', cap', m, n, D, Pl, hcs, hb, hl, hm, hmm, hx, hel⟩
  · simp [Value.cells] at hcs
    obtain ⟨rfl, rfl, rfl⟩ := hcs
    exact ⟨[], rfl, Nat.le_refl _, Nat.zero_le _, .inl rfl⟩
  · simp [Value.cells] at hcs
    obtain ⟨rfl, rfl, rfl⟩ := hcs
    simp only [if_true] at hmm
    subst hmm
    have hce : Try.prog.cellsOf 38 = 4 := by kernel_rfl
    have each : ∀ i, i < m → ∃ c : CachedV, ∀ j, j < 4 → w.cell? (a'.add (i * 4 + j)) = c.cells[j]? := by
      intro i hi
      obtain ⟨cs', h1, h2⟩ := hel i hi
      rw [hce] at h1
      obtain ⟨_, hlen, hcell⟩ := World.cells?_some h1
      obtain ⟨v0, v1, v2, v3, rfl⟩ := list4 hlen
      obtain ⟨xs, k, hk, hxy, _, hxl, hf⟩ := DataW.trod_struct Try.underlying38 h2
      obtain ⟨y0, y1, y2, y3, rfl⟩ := list4 hxl
      have c3 : Try.prog.cellsOf 3 = 1 := by kernel_rfl
      have c4 : Try.prog.cellsOf 4 = 1 := by kernel_rfl
      have g0 := hf 0 _ rfl
      have g1 := hf 1 _ rfl
      have g2 := hf 2 _ rfl
      have g3 := hf 3 _ rfl
      simp [c3, c4] at g0 g1 g2 g3
      obtain ⟨n0, e0, _⟩ := DataW.trod_int Try.underlying3 g0
      obtain ⟨n1, e1, _⟩ := DataW.trod_int Try.underlying3 g1
      obtain ⟨n2, e2, _⟩ := DataW.trod_int Try.underlying3 g2
      obtain ⟨b3, e3, _⟩ := DataW.trod_bool Try.underlying4 g3
      simp only [List.cons.injEq, and_true] at e0 e1 e2 e3
      subst e0 e1 e2 e3
      refine ⟨⟨n0, n1, n2, b3⟩, fun j hj => ?_⟩
      have := hcell j hj
      rw [Go.Deep.add_add] at this
      exact this
    obtain ⟨F, hF⟩ := Go.Deep.choose_lt each
    have hget : ∀ i, i < len → ((List.range len).map F).getD i c0V = F i := fun i hi => by
      rw [List.getD_eq_getElem?_getD, List.getElem?_map, List.getElem?_range hi]; rfl
    refine ⟨(List.range len).map F, by simp, hl, hm, ?_⟩
    rcases Nat.eq_zero_or_pos len with h0 | h0
    · subst h0; exact .inl rfl
    · have hc0 : w.cell? (a'.add 0) = some (.int .i64 (F 0).e) := hF 0 (by omega) 0 (by omega)
      obtain ⟨b, off, spot⟩ := a'
      have hspot : spot = none := by simpa [Addr.add] using World.cell?_spot hc0
      subst hspot
      have hlt := World.block_lt_of_cell? w _ hc0
      refine .inr ⟨b, off, rfl, by simpa [Addr.add] using hlt, fun i hi => ?_⟩
      have hi' : i < len := by simpa using hi
      rw [hget i hi']
      have hh := hF i (by omega)
      have get : ∀ j, j < 4 → w.cell? ⟨b, off + i * 4 + j, none⟩ = (F i).cells[j]? := fun j hj => by
        have := hh j hj
        rw [Addr.add_lit] at this
        rw [Nat.add_assoc]; exact this
      exact ⟨get 0 (by omega), get 1 (by omega), get 2 (by omega), get 3 (by omega)⟩
theorem cached_of {H : Type} {enc : TypeId × Value → H} {w : World} {held : Bool} {r : Reach} {b0 : Nat} {v : Value} {d : DataW H} {p : List MemPlace} {spare : Nat → Bool}
    (hv : Value.okWide Try.prog w r b0 38 v) (h : DataW.Trod enc Try.prog w 0 spare held 38 v d p) : ∃ (e q f : Int) (b : Bool), v = .agg #[.int .i64 e, .int .i64 q, .int .i64 f, .bool b] := by
  obtain ⟨v0, v1, v2, v3, y0, y1, y2, y3, n, rfl, _, _, h0, h1, h2, h3⟩ := Go.Joins.open_agg4 Try.underlying38 (by kernel_rfl) (by kernel_rfl) hv h
  obtain ⟨n0, e0, _⟩ := DataW.trod_int Try.underlying3 h0
  obtain ⟨n1, e1, _⟩ := DataW.trod_int Try.underlying3 h1
  obtain ⟨n2, e2, _⟩ := DataW.trod_int Try.underlying3 h2
  obtain ⟨b3, e3, _⟩ := DataW.trod_bool Try.underlying4 h3
  simp only [List.cons.injEq, and_true] at e0 e1 e2 e3
  subst e0 e1 e2 e3
  exact ⟨_, _, _, _, rfl⟩
end Go.Proofs.Ytmoalecejjeiiaa
