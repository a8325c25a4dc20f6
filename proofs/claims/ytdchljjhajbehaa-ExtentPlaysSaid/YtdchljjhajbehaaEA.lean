/- slices.Insert of extents puts the new ones at their place: what the library's own text does to the rows in memory. -/
import Derived.Test.YtdchljjhajbehaaPrint0
import Derived.Test.YtdchljjhajbehaaXW
import Derived.Deep.RegionLaw
import Derived.Laws.Externs
import Derived.Lib.AppendZerosOnto
import Derived.Lib.Overlaps
import Derived.Outline
namespace Go.Proofs.Ytdchljjhajbehaa.Ex
open Go.RowKit Go.Proofs.Ytdchljjhajbehaa.Print Go.Proofs.YtdchljjhajbehaaW.PrintWords Go.Proofs.YtdchljjhajbehaaW.PrintLast Go.Proofs.YtdchljjhajbehaaW.PrintMore
set_option linter.unusedVariables false
set_option linter.unusedSimpArgs false
section
variable {P : Program}
theorem wp_copy_run (w : World) {o : Oper} {a : Act} {K : Act → World → Prop} {Q : Exit → Act → World → Prop} (d s : Operand) (t t' : TypeId)
    (ho : o.op = .call { callee := .builtin .copy, args := #[d, s], argTypes := #[t, t'] }) (v u : Value) (hd : a.eval d = v) (hs : a.eval s = u) {v' : Value} {w' : World}
    (hr : (Builtin.copy_ #[t, t'] o.type #[v, u]).run P w = .ok v' w') (h : K (a.put o.dst v') w') : o.wp P a w K Q := by
  unfold Oper.wp execOp
  simp only [ho, resolve, invoke, builtin, Sem.run_bind, Sem.run_pure, Result.andThen_ok, List.map_toArray, List.map_cons, List.map_nil, hd, hs, hr]
  exact h
theorem list_copy_run (w : World) {ops : Array Oper} {rest : List Oper} {o : Oper} {a : Act} {Q : Exit → Act → World → Prop} (hgd : o.guard = none) (d s : Operand) (t t' : TypeId)
    (ho : o.op = .call { callee := .builtin .copy, args := #[d, s], argTypes := #[t, t'] }) (v u : Value) (hd : a.eval d = v) (hs : a.eval s = u) {v' : Value} {w' : World}
    (hr : (Builtin.copy_ #[t, t'] o.type #[v, u]).run P w = .ok v' w') (h : wpList P ops Q rest (a.put o.dst v') w') : wpList P ops Q (o :: rest) a w :=
  wpList_plain hgd fun _ hK => wp_copy_run w d s t t' ho v u hd hs hr (hK _ _ h)
theorem step_copy_run {ops : Array Oper} {o : Oper} {a : Act} {w : World} {K : Act → World → Prop} {Q : Exit → Act → World → Prop} {E : Prop}
    (hg : o.guard = none) (d x : Operand) (dT sT : TypeId) (hop : o.op = Op.call { callee := Callee.builtin Builtin.copy, args := #[d, x], argTypes := #[dT, sT] })
    (v u : Value) (hd : a.eval d = v) (hx : a.eval x = u) {v' : Value} {w' : World} (hr : (Builtin.copy_ #[dT, sT] o.type #[v, u]).run P w = .ok v' w') (hK : K (a.put o.dst v') w') :
    if Region.wanted o (yielded ops a.tmps) = true then Oper.wp P o a w K Q else E := by
  have hw : Region.wanted o (yielded ops a.tmps) = true := by simp [Region.wanted, hg]
  rw [if_pos hw]
  unfold Oper.wp
  simp [execOp, hop, resolve, invoke, builtin, hd, hx, hr, Result.andThen]
  exact hK
end
/-- the cells of a list with others laid over it from a place on -/
def sp (l : List Value) (o : Nat) (cs : List Value) : List Value := l.take o ++ cs ++ l.drop (o + cs.length)
theorem sp_length {l : List Value} {o : Nat} {cs : List Value} (h : o + cs.length ≤ l.length) : (sp l o cs).length = l.length := by
  simp [sp]; omega
theorem run_copy_rowk {P : Program} (w : World) (dT sT ty elem : TypeId) (k g o dLen dCap : Nat) (a : Addr) (sLen sCap : Nat) (cur : Array Value) (t : TypeId) (cs : List Value)
    (hu : P.underlying dT = some (.slice elem)) (hs : (P.info? elem).map (·.size) = some k)
    (hg : w.heap[g]? = some (.cells cur t (0, 0))) (hn : cs.length = Nat.min sLen dLen * k)
    (hsrc : ∀ j v, cs[j]? = some v → w.cell? (a.add j) = some v) (hfit : o + cs.length ≤ cur.size) (h1 : ∀ v ∈ cs, v.oneCell' = true) :
    (Builtin.copy_ #[dT, sT] ty #[.slice (some ⟨g, o, none⟩) dLen dCap, .slice (some a) sLen sCap]).run P w =
      .ok (goInt (Nat.min sLen dLen)) (w.setRow g (sp cur.toList o cs).toArray) := by
  have hl := run_loadCells_list (P := P) w a cs hsrc
  have hst := run_storeCells_at P g o t cs 0 cur w hg (by simpa using hfit) h1
  cases hq : P.info? elem with
  | none => simp [hq] at hs
  | some i =>
    have hi : i.size = k := by simpa [hq] using hs
    simp [Builtin.copy_, run_underlying hu, Builtin.lenOf, Builtin.firstCells, sizeOf, typeInfo, hq, hi, ← hn, hl, hst, sp]
theorem setRow_grown {w : World} {g : Nat} {cs : Array Value} : w.grownBy (w.setRow g cs) (some g) := by
  refine ⟨rfl, rfl, rfl, by simp [World.setRow], fun k hk hne => ?_⟩
  have hne' : ¬ g = k := fun e => hne (by rw [e])
  simp [World.setRow, Array.getElem?_modify, hne']
theorem setRow_size {w : World} {g : Nat} {cs : Array Value} : (w.setRow g cs).heap.size = w.heap.size := by simp [World.setRow]
theorem drew_grown {w w1 : World} {row : Option Nat} (h : w.grownBy w1 row) : w.grownBy w1.drew row := ⟨h.os, h.tape, h.output, h.size, h.block⟩
theorem setRow_drew {w : World} {g : Nat} {cs : Array Value} : (w.setRow g cs).drew = w.drew.setRow g cs := rfl
theorem shape_of_row {w : World} {g : Nat} {cs : Array Value} {t : TypeId} {fr : Nat × Nat} (h : w.heap[g]? = some (.cells cs t fr)) : ∃ k, w.shape? g = some (t, k) ∧ (0 < cs.size → k ≠ 0) ∧ k = cs.size := by
  refine ⟨cs.size, ?_, fun h => by omega, rfl⟩
  simp [World.shape?, h]
/-- a row of so many extents (two cells each) in a block of its own -/
structure Row (W : World) (g n c : Nat) (xs : List Value) : Prop where
  ex : ∃ cur, W.heap[g]? = some (.cells cur 31 (0, 0)) ∧ cur.size = c * 2 ∧ cur.toList.take (n * 2) = xs
  le : n ≤ c
  max : c ≤ maxLen
  one : ∀ v ∈ xs, v.oneCell' = true
theorem Row.len {W : World} {g n c : Nat} {xs : List Value} (h : Row W g n c xs) : xs.length = n * 2 := by
  obtain ⟨cur, h1, h2, h3⟩ := h.ex
  have := h.le
  rw [← h3, List.length_take, Array.length_toList, h2]; omega
theorem Row.cell {W : World} {g n c : Nat} {xs : List Value} (h : Row W g n c xs) {j : Nat} {v : Value} (hj : xs[j]? = some v) : W.cell? ⟨g, j, none⟩ = some v := by
  obtain ⟨cur, h1, h2, h3⟩ := h.ex
  rw [← h3, List.getElem?_take] at hj
  split at hj
  · rw [blk_cell h1, ← hj, Array.getElem?_toList]
  · cases hj
theorem Row.owns {W : World} {g n c : Nat} {xs : List Value} (h : Row W g n c xs) : W.ownsRow 0 31 2 (.slice (some ⟨g, 0, none⟩) n c) n xs := by
  obtain ⟨cur, h1, h2, h3⟩ := h.ex
  exact ⟨h.len, .inr ⟨g, c, cur, rfl, Nat.zero_le _, h1, h.le, h.max, h2, h3⟩⟩
theorem Row.of_owns {W : World} {v : Value} {n : Nat} {xs : List Value} (h : W.ownsRow 0 31 2 v n xs) (h0 : v ≠ .slice none 0 0) (h1 : ∀ v ∈ xs, v.oneCell' = true) : ∃ g c, v = .slice (some ⟨g, 0, none⟩) n c ∧ Row W g n c xs := by
  rcases h.2 with ⟨hv, _⟩ | ⟨g, cap, cur, hv, _, hh, hnc, hcm, hcs, ht⟩
  · exact absurd hv h0
  · exact ⟨g, cap, hv, ⟨cur, hh, hcs, ht⟩, hnc, hcm, h1⟩
theorem Row.take {W : World} {g n c : Nat} {xs : List Value} (h : Row W g n c xs) (m : Nat) (hm : m ≤ n) : Row W g m c (xs.take (m * 2)) := by
  obtain ⟨cur, h1, h2, h3⟩ := h.ex
  refine ⟨⟨cur, h1, h2, ?_⟩, Nat.le_trans hm h.le, h.max, fun v hv => h.one v (List.mem_of_mem_take hv)⟩
  rw [← h3, List.take_take]
  congr 1
  omega
theorem Row.far {W W1 : World} {g g' n c : Nat} {xs : List Value} (h : Row W g n c xs) (hg : W.grownBy W1 (some g')) (hne : g ≠ g') : Row W1 g n c xs := by
  obtain ⟨cur, h1, h2, h3⟩ := h.ex
  exact ⟨⟨cur, blk_grown h1 hg (fun e => hne (Option.some.inj e)), h2, h3⟩, h.le, h.max, h.one⟩
theorem Row.same {W W1 : World} {g n c : Nat} {xs : List Value} (h : Row W g n c xs) (hg : W1.heap = W.heap) : Row W1 g n c xs := by
  obtain ⟨cur, h1, h2, h3⟩ := h.ex
  exact ⟨⟨cur, by rw [hg]; exact h1, h2, h3⟩, h.le, h.max, h.one⟩
theorem info31s : (Try.prog.info? 31).map (·.size) = some 2 := by kernel_rfl
theorem hov (w : World) (g vb off m vc lb cb : Nat) (vcur cur : Array Value) (hne : vb ≠ g) (hv : w.heap[vb]? = some (.cells vcur 31 (0, 0))) (hg : w.heap[g]? = some (.cells cur 31 (0, 0))) (h0 : 0 < cur.size) :
    (callFunc 43 #[.slice (some ⟨vb, 0, none⟩) m vc, .slice (some ⟨g, off, none⟩) lb cb]).run Try.prog w = .ok (.value (.bool false)) w := by
  obtain ⟨k1, hs1, _, _⟩ := shape_of_row hv
  obtain ⟨k2, hs2, h2, _⟩ := shape_of_row hg
  rw [run_callFunc_extern Try.func43 (by kernel_rfl) (by kernel_rfl) (by kernel_rfl) (e := Extern.SlicesOverlaps.overlaps #[27, 27] #[4]) (by kernel_rfl),
    Lib.run_overlaps_apart w 27 4 31 Try.underlying27 2 (fun w => by kernel_rfl) ⟨vb, 0, none⟩ ⟨g, off, none⟩ m vc lb cb hne 31 31 k1 k2 hs1 hs2 (h2 h0) (blk_frozen hv 0) (blk_frozen hv k1)]
  rfl
theorem hov' (w : World) (g vb off m vc lb cb : Nat) (vcur cur : Array Value) (hne : g ≠ vb) (hv : w.heap[vb]? = some (.cells vcur 31 (0, 0))) (hg : w.heap[g]? = some (.cells cur 31 (0, 0))) (h0 : 0 < vcur.size) :
    (callFunc 43 #[.slice (some ⟨g, off, none⟩) lb cb, .slice (some ⟨vb, 0, none⟩) m vc]).run Try.prog w = .ok (.value (.bool false)) w := by
  obtain ⟨k1, hs1, h1, _⟩ := shape_of_row hv
  obtain ⟨k2, hs2, h2, _⟩ := shape_of_row hg
  rw [run_callFunc_extern Try.func43 (by kernel_rfl) (by kernel_rfl) (by kernel_rfl) (e := Extern.SlicesOverlaps.overlaps #[27, 27] #[4]) (by kernel_rfl),
    Lib.run_overlaps_apart w 27 4 31 Try.underlying27 2 (fun w => by kernel_rfl) ⟨g, off, none⟩ ⟨vb, 0, none⟩ lb cb m vc hne 31 31 k2 k1 hs2 hs1 (h1 h0) (blk_frozen hg off) (blk_frozen hg k2)]
  rfl
/-- what an answer of Insert or Replace is -/
def Put (w : World) (g : Nat) (n : Nat) (xs : List Value) (e : Ending) (w' : World) : Prop :=
  ∃ g' c', e = .returned (.slice (some ⟨g', 0, none⟩) n c') ∧ Row w' g' n c' xs ∧ (g' = g ∨ w.heap.size ≤ g') ∧ w.grownBy w' (some g)
end Go.Proofs.Ytdchljjhajbehaa.Ex
