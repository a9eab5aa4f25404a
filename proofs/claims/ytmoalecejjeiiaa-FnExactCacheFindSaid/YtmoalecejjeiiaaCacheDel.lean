/-
  Contracts of the functions that cut translations out of a list of the call's own. No conditions.
-/
import Derived.Test.YtmoalecejjeiiaaCacheOwn
import Derived.Laws.IdiomCopy
namespace Go.Proofs.Ytmoalecejjeiiaa
open Go.RowKit

theorem grown_none_row {w w' : World} (h : w.grownBy w' none) (row : Option Nat) : w.grownBy w' row := ⟨h.os, h.tape, h.output, h.size, fun j hj _ => h.block j hj (by simp)⟩
/-- A row of the call's own, less long. -/
theorem ownsRow_cut {w : World} {base g n m cap : Nat} {e : TypeId} {size : Nat} {xs : List Value} (h : w.ownsRow base e size (.slice (some ⟨g, 0, none⟩) n cap) n xs) (hm : m ≤ n) : w.ownsRow base e size (.slice (some ⟨g, 0, none⟩) m cap) m (xs.take (m * size)) := by
  rcases h.2 with ⟨h0, _⟩ | ⟨g', cap', cur, he, hb, hg, hn, hmx, hs, ht⟩
  · cases h0
  · simp only [Value.slice.injEq, Option.some.injEq, Addr.mk.injEq, and_true, true_and] at he
    obtain ⟨rfl, rfl⟩ := he
    have hle : m * size ≤ n * size := Nat.mul_le_mul_right _ hm
    refine ⟨?_, .inr ⟨g, cap, cur, rfl, hb, hg, by omega, hmx, hs, ?_⟩⟩
    · rw [List.length_take, h.1]; omega
    · rw [← ht, List.take_take, Nat.min_eq_left hle]
/-- Cells of a row of the call's own, from place o on, are written. -/
theorem ownsRow_setCells {base g n cap : Nat} {e : TypeId} {size : Nat} : ∀ (vs : List Value) (o : Nat) (w : World) (xs : List Value), w.ownsRow base e size (.slice (some ⟨g, 0, none⟩) n cap) n xs →
    ∃ ys, (w.setCells g o vs).ownsRow base e size (.slice (some ⟨g, 0, none⟩) n cap) n ys ∧ ys.take o = xs.take o ∧ w.grownBy (w.setCells g o vs) (some g)
  | [], _, w, xs, h => ⟨xs, h, rfl, grown_refl _ _⟩
  | v :: vs, o, w, xs, h => by
    have s := h.stored o v
    obtain ⟨ys, h1, h2, h3⟩ := ownsRow_setCells vs (o + 1) _ _ s.1
    refine ⟨ys, h1, ?_, grown_trans s.2 h3⟩
    have : (ys.take (o + 1)).take o = ((xs.set o v).take (o + 1)).take o := by rw [h2]
    rw [List.take_take, List.take_take, Nat.min_eq_left (by omega)] at this
    rw [this, List.take_set_of_le (by omega)]
theorem zero_caches (n : Nat) : (Builtin.zeroCells #[Value.int .i64 0, Value.int .i64 0, Value.int .i64 0, Value.bool false] n).toList = cellsOf (List.replicate n c0V) := by
  rw [← made_caches]
  simp [Builtin.zeroCells, madeCells]
/-- 'clear' on translations. -/
theorem run_clear4 {P : Program} (w : World) (t e ty : TypeId) (ht : P.underlying t = some (.slice e)) (hv : ∀ w, (zeroValue e).run P w = .ok (.agg #[.int .i64 0, .int .i64 0, .int .i64 0, .bool false]) w) (b o n c : Nat) (hn : 0 < n)
    (hc : ∀ j, j < n * 4 → (w.cell? ⟨b, o + j, none⟩).isSome = true) (hf : ∀ j, j < n * 4 → w.frozen? ⟨b, o + j, none⟩ = false) :
    (Builtin.clear_ #[t] ty #[.slice (some ⟨b, o, none⟩) n c]).run P w = .ok (.tuple #[]) (w.setCells b o (cellsOf (List.replicate n c0V))) := by
  have hst := run_storeCells_cells (P := P) b o (cellsOf (List.replicate n c0V)) 0 w (by rw [cellsOf_length, List.length_replicate]; simpa using hc) (by rw [cellsOf_length, List.length_replicate]; simpa using hf) (cellsOf_one _)
  simp only [Nat.add_zero] at hst
  obtain ⟨m, rfl⟩ : ∃ m, n = m + 1 := ⟨n - 1, by omega⟩
  have hz := zero_caches (m + 1)
  simp [Builtin.clear_, run_underlying ht, hv, Value.cells, hz, hst]
/-- What a function value answers while a row is written. -/
def AsksR (g : Nat) (lb : Array Value) (q : CachedV → Bool) (row : Option Nat) (w : World) : Prop :=
  ∀ (W : World) (c : CachedV), w.grownBy W row → Calls Try.prog g (#[.agg #[.int .i64 c.e, .int .i64 c.p, .int .i64 c.f, .bool c.b]] ++ lb) W fun en W' => en = .returned (.bool (q c)) ∧ W.grownBy W' none
theorem AsksR.asks {g : Nat} {lb : Array Value} {q : CachedV → Bool} {row : Option Nat} {w : World} (h : AsksR g lb q row w) : Asks g lb q w := fun W c hg => h W c (grown_none_row hg row)
/-- Where cutting stands: the first i are what is kept of the first j, from j on all is as it was. -/
structure Kept (q : CachedV → Bool) (cs ds : List CachedV) (i j : Nat) : Prop where
  len : ds.length = cs.length
  lt : i < j
  le : j ≤ cs.length
  low : ds.take i = (cs.take j).filter fun c => !q c
  high : ∀ t, j ≤ t → t < cs.length → ds.getD t c0V = cs.getD t c0V
theorem take_getD (cs : List CachedV) (j : Nat) (h : j < cs.length) : cs.take (j + 1) = cs.take j ++ [cs.getD j c0V] := by
  rw [List.take_succ_eq_append_getElem h, List.getD_eq_getElem?_getD, List.getElem?_eq_getElem h]; rfl
theorem Kept.start {q : CachedV → Bool} {cs : List CachedV} {k : Nat} (hk : k < cs.length) (h : q (cs.getD k c0V) = true) (hb : ∀ j, j < k → q (cs.getD j c0V) = false) : Kept q cs cs k (k + 1) := by
  refine ⟨rfl, by omega, by omega, ?_, fun _ _ _ => rfl⟩
  rw [take_getD cs k hk, List.filter_append]
  have h1 : (cs.take k).filter (fun c => !q c) = cs.take k := List.filter_eq_self.2 fun c hc => by
    obtain ⟨j, hj, rfl⟩ := List.mem_take_iff_getElem.1 hc
    have := hb j (by omega)
    rw [List.getD_eq_getElem?_getD, List.getElem?_eq_getElem (by omega)] at this
    simpa using this
  rw [h1]; simp only [List.filter_cons, h]; simp
theorem Kept.skip {q : CachedV → Bool} {cs ds : List CachedV} {i j : Nat} (K : Kept q cs ds i j) (hj : j < cs.length) (h : q (cs.getD j c0V) = true) : Kept q cs ds i (j + 1) := by
  refine ⟨K.len, by have := K.lt; omega, by omega, ?_, fun t ht h2 => K.high t (by omega) h2⟩
  rw [take_getD cs j hj, List.filter_append, ← K.low]
  simp only [List.filter_cons, h]; simp
theorem Kept.keep {q : CachedV → Bool} {cs ds : List CachedV} {i j : Nat} (K : Kept q cs ds i j) (hj : j < cs.length) (h : q (cs.getD j c0V) = false) : Kept q cs (ds.set i (cs.getD j c0V)) (i + 1) (j + 1) := by
  have hi : i < ds.length := by rw [K.len]; have := K.lt; omega
  refine ⟨by rw [List.length_set, K.len], by have := K.lt; omega, by omega, ?_, fun t ht h2 => ?_⟩
  · rw [take_getD cs j hj, List.filter_append, ← K.low, List.take_succ_eq_append_getElem (by rw [List.length_set]; exact hi), List.take_set_of_le (Nat.le_refl _)]
    simp only [List.filter_cons, h]; simp
  · have := K.lt
    rw [getD_setC _ _ _ _ hi, if_neg (by omega)]
    exact K.high t (by omega) h2
theorem Kept.all {q : CachedV → Bool} {cs : List CachedV} (h : ∀ j, j < cs.length → q (cs.getD j c0V) = false) : (cs.filter fun c => !q c) = cs := List.filter_eq_self.2 fun c hc => by
  obtain ⟨j, hj, rfl⟩ := List.getElem_of_mem hc
  have := h j hj
  rw [List.getD_eq_getElem?_getD, List.getElem?_eq_getElem hj] at this
  simpa using this
set_option maxHeartbeats 2000000 in
theorem deleteFunc_c (g0 : Nat) (lb : Array Value) (q : CachedV → Bool) (base : Nat) (v : Value) (cs : List CachedV) (w : World) (eg : ∀ args w, (callFunc g0 args).run Try.prog w = .ok (.enter g0 args) w)
    (hp : AsksR g0 lb q v.ownBlock w) (h : OwnC w base v cs) (hm : cs.length ≤ 1048576) :
    Calls Try.prog 27 #[v, .func (.func g0) #[] lb] w fun en w' => ∃ v', en = .returned v' ∧ OwnC w' base v' (cs.filter fun c => !q c) ∧ w.grownBy w' v.ownBlock ∧ v'.ownBlock = v.ownBlock := by
  have HP := Lib.hid hp
  have hh : ∀ g, v.ownBlock = some g → g < w.heap.size := fun g e => (h.lt g e).2
  obtain ⟨a, cap, hv, hk, hcm, hmem⟩ := h.caches hh
  have HM := Lib.hid hmem
  have HO := Lib.hid h
  clear h hp hmem hh
  subst hv
  have hcm' : cap ≤ 9223372036854775807 := hcm
  rcases fndP_cases q cs with ⟨h1, hn⟩ | ⟨k0, hk0, h1, hy, hn⟩
  · have HF : Hid ((cs.filter fun c => !q c) = cs) := Kept.all hn
    clear hn
    go_enter Try.func27, Try.ntmps27
    go_wp2_with fail
    refine (indexFunc_c g0 lb q _ a cap cs _ eg HP.out.asks HM.out (Nat.le_refl _) hm).mono ?_
    rintro e w1 ⟨rfl, hg⟩
    have HG := Lib.hid hg
    clear hg
    rw [h1]
    go_wp2_with fail
    go_ret
    refine ⟨_, rfl, ?_, grown_none_row HG.out _, rfl⟩
    rw [HF.out]
    exact HO.out.gnone HG.out
  · rcases HO.out.cases with ⟨_, e0⟩ | ⟨g, cap', e0, hb, hg, _, _⟩
    · rw [e0] at hk0; simp at hk0
    simp only [Value.slice.injEq, true_and] at e0
    obtain ⟨rfl, rfl⟩ := e0
    have HK : Hid (Kept q cs cs k0 (k0 + 1)) := Kept.start hk0 hy hn
    clear hn hy
    have HR : Hid (w.ownsRow base 30 4 (.slice (some ⟨g, 0, none⟩) cs.length cap) cs.length (cellsOf cs)) := HO.out
    have hne : ((k0 : Int) == -1) = false := beq_eq_false_iff_ne.2 (by omega)
    go_enter Try.func27, Try.ntmps27
    go_wp2_with fail
    refine (indexFunc_c g0 lb q _ _ cap cs _ eg HP.out.asks HM.out (Nat.le_refl _) hm).mono ?_
    rintro e w1 ⟨rfl, hg⟩
    have HG := Lib.hid hg
    clear hg
    rw [h1]
    go_wp2_with fail
    go_loopw [5, 6] (fun s5 s6 wr => ∃ (i j : Nat), j ≤ cs.length ∧ i < j ∧ s5 = .int .i64 i ∧ s6 = .int .i64 j ∧ w.grownBy wr (some g) ∧ Hid (∃ ds : List CachedV, Kept q cs ds i j ∧ wr.ownsRow base 30 4 (.slice (some ⟨g, 0, none⟩) cs.length cap) cs.length (cellsOf ds))) (fun _ s6 _ => cs.length - (intOf s6).toNat)
    case atStart => exact ⟨k0, k0 + 1, by omega, by omega, rfl, by go_num, grown_none_row HG.out _, cs, HK.out, row_gnone HR.out HG.out⟩
    case round =>
      obtain ⟨i, j, hj, hij, rfl, rfl, hg, hX⟩ := hrel
      have HG := Lib.hid hg
      clear hg
      by_cases hlt : j < cs.length
      · obtain ⟨ds, K, hrow⟩ := hX.out
        have hdl : ds.length = cs.length := K.len
        obtain ⟨⟨c0, c1, c2, c3⟩, _⟩ := row4 hrow hdl j hlt
        rw [K.high j (Nat.le_refl _) hlt] at c0 c1 c2 c3
        have HSK : Hid (q (cs.getD j c0V) = true → Kept q cs ds i (j + 1)) := fun e => K.skip hlt e
        have HKP : Hid (q (cs.getD j c0V) = false → Kept q cs (ds.set i (cs.getD j c0V)) (i + 1) (j + 1)) := fun e => K.keep hlt e
        have HRW := Lib.hid hrow
        have HDL := Lib.hid hdl
        clear hX hrow K hdl
        generalize cs.getD j c0V = c at *
        go_wp2_with fail
        refine (HP.out _ c (grown_trans HG.out (World.grownBy_alloc _ _ _))).mono ?_
        rintro e w2 ⟨rfl, hg2⟩
        have hg3 := none_trans (World.grownBy_alloc wr _ none) hg2
        have b0 : w2.cell? ⟨wr.heap.size, 0, none⟩ = some (.int .i64 c.e) := hg2.cell (cell_new _ _ _ _ _ rfl) (by simp)
        have b1 : w2.cell? ⟨wr.heap.size, 1, none⟩ = some (.int .i64 c.p) := hg2.cell (cell_new _ _ _ _ _ rfl) (by simp)
        have b2 : w2.cell? ⟨wr.heap.size, 2, none⟩ = some (.int .i64 c.f) := hg2.cell (cell_new _ _ _ _ _ rfl) (by simp)
        have b3 : w2.cell? ⟨wr.heap.size, 3, none⟩ = some (.bool c.b) := hg2.cell (cell_new _ _ _ _ _ rfl) (by simp)
        obtain ⟨⟨y0, y1, y2, y3⟩, ⟨z0, z1, z2, z3⟩⟩ := row4 (row_gnone HRW.out hg3) HDL.out i (by omega)
        have HS4 := Lib.hid (stored4 (row_gnone HRW.out hg3) HDL.out i (by omega) c)
        have HG2 : Hid (w.grownBy w2 (some g)) := grown_trans HG.out (grown_none_row hg3 _)
        have HR2 := Lib.hid (row_gnone HRW.out hg3)
        clear hg2 hg3 c0 c1 c2 c3
        generalize ds.getD i c0V = y at *
        rcases hq : q c
        · have HZ := Lib.hid (HKP.out hq)
          go_wp2_with fail
          go_roundw
          case rel => exact ⟨i + 1, j + 1, by omega, by omega, by go_num, by go_num, grown_trans HG2.out HS4.out.2, _, HZ.out, HS4.out.1⟩
          case measure => simp [intOf]; omega
        · have HZ := Lib.hid (HSK.out hq)
          go_wp2_with fail
          go_roundw
          case rel => exact ⟨i, j + 1, by omega, by omega, rfl, by go_num, HG2.out, _, HZ.out, HR2.out⟩
          case measure => simp [intOf]; omega
      · obtain rfl : j = cs.length := by omega
        obtain ⟨ds, K, hrow⟩ := hX.out
        obtain ⟨ys, hy1, hy2, hy3⟩ := ownsRow_setCells (cellsOf (List.replicate (cs.length - i) c0V)) (i * 4) wr _ hrow
        have hcl : ∀ ty, (Builtin.clear_ #[25] ty #[.slice (some ⟨g, i * 4, none⟩) (cs.length - i) (cap - i)]).run Try.prog wr = .ok (.tuple #[]) (wr.setCells g (i * 4) (cellsOf (List.replicate (cs.length - i) c0V))) :=
          fun ty => run_clear4 wr _ 30 ty Try.underlying25 (fun w => by go_simp) g (i * 4) _ _ (by omega) (fun t ht => by rw [hrow.cellAt _ (by omega)]; simp; rw [cellsOf_length, K.len]; omega) (fun t ht => hrow.frozenAt _)
        have HF : Hid (OwnC (wr.setCells g (i * 4) (cellsOf (List.replicate (cs.length - i) c0V))) base (.slice (some ⟨g, 0, none⟩) i cap) (cs.filter fun c => !q c) ∧ w.grownBy (wr.setCells g (i * 4) (cellsOf (List.replicate (cs.length - i) c0V))) (some g)) := by
          refine ⟨?_, grown_trans HG.out hy3⟩
          have hcut := ownsRow_cut hy1 (m := i) (by omega)
          have hlow := K.low
          rw [List.take_length] at hlow
          rw [hy2, cellsOf_take ds i (by rw [K.len]; omega), hlow] at hcut
          have hlen : (cs.filter fun c => !q c).length = i := by rw [← hlow, List.length_take, K.len]; omega
          unfold OwnC
          rw [hlen]
          exact hcut
        clear hX hy1 hy2 hy3 hrow K
        generalize wr.setCells g (i * 4) (cellsOf (List.replicate (cs.length - i) c0V)) = wz at *
        have hic : i ≤ cap := by omega
        go_wp2_with fail
        go_ret
        exact ⟨_, rfl, HF.out.1, HF.out.2, rfl⟩
theorem none_row {w w1 w2 : World} {row : Option Nat} (h : w.grownBy w1 none) (hg : w1.grownBy w2 row) (hr : ∀ k, row = some k → w.heap.size ≤ k) : w.grownBy w2 none :=
  ⟨hg.os.trans h.os, hg.tape.trans h.tape, hg.output.trans h.output, Nat.le_trans h.size hg.size, fun j hj hne => (hg.block j (by have := h.size; omega) (fun e => by have := hr j e.symm; omega)).trans (h.block j hj hne)⟩
/-- 'append' of translations to a row of the call's own. -/
theorem wpList_appC {ops : Array Oper} {rest : List Oper} {o : Oper} {a : Act} {w : World} {Q : Exit → Act → World → Prop} (hgd : o.guard = none) (s x : Operand)
    (ho : o.op = .call { callee := .builtin .append, args := #[s, x], argTypes := #[25, 25] })
    (base : Nat) (v : Value) (cs : List CachedV) (hs : a.eval s = v) (hown : OwnC w base v cs) (B b off m c : Nat) (ds : List CachedV) (hx : a.eval x = .slice (some ⟨b, off, none⟩) m c) (hm : ds.length = m) (hd : Caches w B (some ⟨b, off, none⟩) ds)
    (hl : cs.length + ds.length ≤ 4194304) (hbase : base ≤ w.heap.size)
    (h : ∀ v' w', OwnC w' base v' (cs ++ ds) → w.grownBy w' v.ownBlock → wpList Try.prog ops Q rest (a.put o.dst v') w') : wpList Try.prog ops Q (o :: rest) a w := by
  obtain ⟨i0, hi, hz0, hz1, hz2⟩ := info_parts infoC
  refine wpList_append_own w hgd s x 25 ho base 30 i0 (.agg #[.int .i64 0, .int .i64 0, .int .i64 0, .bool false]) 4 32 Try.underlying25 hi hz0 hz1 hz2 rfl (by decide) v cs.length _ hs hown ⟨b, off, none⟩ m c (cellsOf ds) hx (by rw [cellsOf_length, hm]) hd.news (cellsOf_one _) (by unfold maxLen; omega) (by omega) hbase ?_
  intro v' w' h2 h3 _
  refine h v' w' ?_ h3
  unfold OwnC
  rw [cellsOf_append, List.length_append, hm]
  exact h2
/-- What making leaves: a list of translations in new memory. -/
def NewC (cs : List CachedV) (w : World) (e : Ending) (w' : World) : Prop := ∃ v, e = .returned v ∧ OwnC w' w.heap.size v cs ∧ w.grownBy w' none
set_option maxHeartbeats 400000 in
theorem clone_c (B : Nat) (a : Option Addr) (cap : Nat) (cs : List CachedV) (w : World) (h : Caches w B a cs) (hB : B ≤ w.heap.size) (hm : cs.length ≤ 1048576) :
    Calls Try.prog 28 #[.slice a cs.length cap] w (NewC cs w) := by
  have H := Lib.hid h
  clear h
  have hq : (binOp .eql 25 (.slice a cs.length cap) (.slice none 0 0)).run Try.prog w = .ok (.bool a.isNone) w := Lib.run_eql_slice_nil w _ 30 _ _ _ _ _ Try.underlying25
  rcases a with _ | ⟨b, off, spot⟩
  · have hcs : cs = [] := by
      rcases H.out with h | ⟨b, off, ha, _⟩
      · exact h
      · cases ha
    subst hcs
    clear H
    simp only [List.length_nil] at hq ⊢
    go_enter Try.func28, Try.ntmps28
    go_wp2
    go_ret
    exact ⟨_, rfl, OwnC.nil _ _, grown_refl _ _⟩
  · rcases hcs : cs with _ | ⟨c0, cs0⟩
    · subst hcs
      clear H
      simp only [List.length_nil] at hq ⊢
      go_enter Try.func28, Try.ntmps28
      go_wp2_with fail
      go_ret
      exact ⟨_, rfl, OwnC.lit w _ (Nat.le_refl _), World.grownBy_alloc _ _ _⟩
    · rw [← hcs]
      obtain ⟨b', off', e0, hb, _⟩ := H.out.at_ (i := 0) (by rw [hcs]; simp)
      clear hcs
      simp only [Option.some.injEq, Addr.mk.injEq] at e0
      obtain ⟨rfl, rfl, rfl⟩ := e0
      go_enter Try.func28, Try.ntmps28
      go_wp2_with (at_builtin; refine wpList_appC rfl _ _ rfl w.heap.size _ [] rfl (OwnC.lit w w.heap.size (Nat.le_refl _)) B b off cs.length cap cs rfl rfl (H.out.gnone (World.grownBy_alloc _ _ _) hB) (by simp; omega) (by simp) ?_)
      intro v' w' ho hg
      have HF : Hid (OwnC w' w.heap.size v' cs ∧ w.grownBy w' none) := ⟨by simpa using ho, none_row (World.grownBy_alloc _ _ _) hg (fun k e => by have := Option.some.inj (show some w.heap.size = some k from e); omega)⟩
      clear ho hg
      go_wp2_with fail
      go_ret
      exact ⟨_, rfl, HF.out.1, HF.out.2⟩
theorem drop1_c (B0 : Nat) (e : Int) (row : Option Nat) (w : World) (h0 : w.cell? ⟨B0, 0, none⟩ = some (.int .i64 e)) (hne : some B0 ≠ row) : AsksR 29 #[.pointer (some ⟨B0, 0, none⟩)] (fun c => c.e == e) row w := by
  intro W c hg
  have h0' := hg.cell h0 hne
  obtain ⟨ce, cp, cf, cb⟩ := c
  clear h0 hg
  show Calls Try.prog 29 #[.agg #[.int .i64 ce, .int .i64 cp, .int .i64 cf, .bool cb], .pointer (some ⟨B0, 0, none⟩)] W _
  have hl0 : B0 < W.heap.size := World.block_lt_of_cell? W _ h0'
  go_enter Try.func29, Try.ntmps29
  go_wp2
  go_ret
  exact ⟨rfl, World.grownBy_alloc _ _ _⟩
theorem put1_c (B0 : Nat) (x : CachedV) (row : Option Nat) (w : World) (h0 : w.cell? ⟨B0, 0, none⟩ = some (.int .i64 x.e)) (h1 : w.cell? ⟨B0, 1, none⟩ = some (.int .i64 x.p)) (hne : some B0 ≠ row) : AsksR 31 #[.pointer (some ⟨B0, 0, none⟩)] (hit x.e x.p) row w := by
  intro W c hg
  have h0' := hg.cell h0 hne
  have h1' := hg.cell h1 hne
  obtain ⟨ce, cp, cf, cb⟩ := c
  obtain ⟨e, p, f, b⟩ := x
  have HH : Hid (hit e p ⟨ce, cp, cf, cb⟩ = ((ce == e) && (cp == p))) := rfl
  clear h0 h1 hg
  show Calls Try.prog 31 #[.agg #[.int .i64 ce, .int .i64 cp, .int .i64 cf, .bool cb], .pointer (some ⟨B0, 0, none⟩)] W _
  have hl0 : B0 < W.heap.size := World.block_lt_of_cell? W _ h0'
  go_enter Try.func31, Try.ntmps31
  rcases he : (ce == e)
  · go_wp2
    go_ret
    exact ⟨by rw [HH.out, he]; rfl, World.grownBy_alloc _ _ _⟩
  · go_wp2
    go_ret
    exact ⟨by rw [HH.out, he]; rfl, World.grownBy_alloc _ _ _⟩
set_option maxHeartbeats 1000000 in
theorem implCacheDrop_c (B : Nat) (a : Option Addr) (cap : Nat) (cs : List CachedV) (e : Int) (w : World) (h : Caches w B a cs) (hB : B ≤ w.heap.size) (hm : cs.length ≤ 1048576) (hcap : cs.length ≤ cap) :
    Calls Try.prog 16 #[.slice a cs.length cap, .int .i64 e] w (NewC (cdL cs e) w) := by
  have H := Lib.hid h
  clear h
  rcases h1 : ccB cs
  · have HZ : Hid (cdL cs e = []) := by show _ = _; unfold cdL; rw [h1]; rfl
    go_enter Try.func16, Try.ntmps16
    go_wp2_with fail
    refine (implCacheValid_k B a cap cs _ false (H.out.gnone (World.grownBy_alloc _ _ _) hB) (by simp; omega) hm hcap h1).mono ?_
    rintro en w1 ⟨rfl, hg⟩
    have HG := Lib.hid (none_trans (World.grownBy_alloc w _ none) hg)
    clear hg
    go_wp2_with fail
    go_ret
    exact ⟨_, rfl, by rw [HZ.out]; exact OwnC.nil _ _, HG.out⟩
  · have HZ : Hid (cdL cs e = cs.filter fun c => !(c.e == e)) := by show _ = _; unfold cdL; rw [h1]; rfl
    go_enter Try.func16, Try.ntmps16
    go_wp2_with fail
    refine (implCacheValid_k B a cap cs _ true (H.out.gnone (World.grownBy_alloc _ _ _) hB) (by simp; omega) hm hcap h1).mono ?_
    rintro en w1 ⟨rfl, hg⟩
    have HG := Lib.hid (none_trans (World.grownBy_alloc w _ none) hg)
    have HC0 : Hid (w1.cell? ⟨w.heap.size, 0, none⟩ = some (.int .i64 e) ∧ w.heap.size < w1.heap.size) := ⟨hg.cell (cell_new _ _ _ _ _ rfl) (by simp), by have := hg.size; simp at this; omega⟩
    clear hg
    go_wp2_with fail
    refine (clone_c B a cap cs _ (H.out.gnone HG.out hB) (by have := HG.out.size; omega) hm).mono ?_
    rintro en w2 ⟨v, rfl, ho, hg⟩
    have HO := Lib.hid ho
    have HG2 := Lib.hid (none_trans HG.out hg)
    have HC2 : Hid (w2.cell? ⟨w.heap.size, 0, none⟩ = some (.int .i64 e)) := hg.cell HC0.out.1 (by simp)
    clear ho hg
    go_wp2_with fail
    refine (deleteFunc_c 29 _ (fun c => c.e == e) w1.heap.size v cs _ (enters_of Try.func29 (by kernel_rfl) rfl) (drop1_c w.heap.size e _ _ HC2.out (fun k => by have := (HO.out.lt _ k.symm).1; have := HC0.out.2; omega)) HO.out hm).mono ?_
    rintro en w3 ⟨v', rfl, ho, hg, _⟩
    have HF : Hid (OwnC w3 w.heap.size v' (cdL cs e) ∧ w.grownBy w3 none) := ⟨by rw [HZ.out]; exact ho.mono (by have := HC0.out.2; omega), none_row HG2.out hg (fun k ek => by have := (HO.out.lt k ek).1; have := HC0.out.2; omega)⟩
    clear ho hg
    go_wp2_with fail
    go_ret
    exact ⟨_, rfl, HF.out.1, HF.out.2⟩
end Go.Proofs.Ytmoalecejjeiiaa
