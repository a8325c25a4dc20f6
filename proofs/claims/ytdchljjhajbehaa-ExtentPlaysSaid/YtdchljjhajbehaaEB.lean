/- slices.Insert of extents: the library's own text, road by road. -/
import Derived.Test.YtdchljjhajbehaaEA
namespace Go.Proofs.Ytdchljjhajbehaa.Ex
open Go.RowKit Go.Proofs.Ytdchljjhajbehaa.Print Go.Proofs.YtdchljjhajbehaaW.PrintWords Go.Proofs.YtdchljjhajbehaaW.PrintLast Go.Proofs.YtdchljjhajbehaaW.PrintMore
set_option linter.unusedVariables false
set_option linter.unusedSimpArgs false
section
variable {W : World} {ops : Array Oper} {o : Oper} {a : Act} {Q : Exit → Act → World → Prop}
/-- copy(d, x) of extents into a row in a block of its own -/
theorem copy_law {rest : List Oper} (d x : Operand) (g off dl dc sb soff sl sc : Nat) (cur : Array Value) (cs : List Value) (hgd : o.guard = none)
    (ho : o.op = .call { callee := .builtin .copy, args := #[d, x], argTypes := #[27, 27] }) (hd : a.eval d = .slice (some ⟨g, off, none⟩) dl dc) (hx : a.eval x = .slice (some ⟨sb, soff, none⟩) sl sc)
    (hg : W.heap[g]? = some (.cells cur 31 (0, 0))) (hl : cs.length = Nat.min sl dl * 2) (hsrc : ∀ j v, cs[j]? = some v → W.cell? ⟨sb, soff + j, none⟩ = some v) (hfit : off + cs.length ≤ cur.size) (h1 : ∀ v ∈ cs, v.oneCell' = true)
    (h : ∀ w1, w1.heap[g]? = some (.cells (sp cur.toList off cs).toArray 31 (0, 0)) → W.grownBy w1 (some g) → w1.heap.size = W.heap.size → wpList Try.prog ops Q rest (a.put o.dst (goInt (Nat.min sl dl))) w1) : wpList Try.prog ops Q (o :: rest) a W :=
  list_copy_run W hgd d x 27 27 ho _ _ hd hx (run_copy_rowk W 27 27 o.type 31 2 g off dl dc ⟨sb, soff, none⟩ sl sc cur 31 cs Try.underlying27 info31s hg hl (fun j v hj => by rw [Addr.add_lit]; exact hsrc j v hj) hfit h1)
    (h _ (setRow_heap W g cur _ 31 _ hg) setRow_grown setRow_size)
theorem copy_step {K : Act → World → Prop} {E : Prop} (d x : Operand) (g off dl dc sb soff sl sc : Nat) (cur : Array Value) (cs : List Value) (hgd : o.guard = none)
    (ho : o.op = .call { callee := .builtin .copy, args := #[d, x], argTypes := #[27, 27] }) (hd : a.eval d = .slice (some ⟨g, off, none⟩) dl dc) (hx : a.eval x = .slice (some ⟨sb, soff, none⟩) sl sc)
    (hg : W.heap[g]? = some (.cells cur 31 (0, 0))) (hl : cs.length = Nat.min sl dl * 2) (hsrc : ∀ j v, cs[j]? = some v → W.cell? ⟨sb, soff + j, none⟩ = some v) (hfit : off + cs.length ≤ cur.size) (h1 : ∀ v ∈ cs, v.oneCell' = true)
    (h : ∀ w1, w1.heap[g]? = some (.cells (sp cur.toList off cs).toArray 31 (0, 0)) → W.grownBy w1 (some g) → w1.heap.size = W.heap.size → K (a.put o.dst (goInt (Nat.min sl dl))) w1) :
    if Region.wanted o (yielded ops a.tmps) = true then Oper.wp Try.prog o a W K Q else E :=
  step_copy_run hgd d x 27 27 ho _ _ hd hx (run_copy_rowk W 27 27 o.type 31 2 g off dl dc ⟨sb, soff, none⟩ sl sc cur 31 cs Try.underlying27 info31s hg hl (fun j v hj => by rw [Addr.add_lit]; exact hsrc j v hj) hfit h1)
    (h _ (setRow_heap W g cur _ 31 _ hg) setRow_grown setRow_size)
end
theorem Row.news {W : World} {vb m vc : Nat} {vs : List Value} (hv : Row W vb m vc vs) : ∀ j u, vs[j]? = some u → W.cell? ((⟨vb, 0, none⟩ : Addr).add j) = some u := fun j u hj => by rw [add_plain]; exact hv.cell hj
theorem Row.lt {W : World} {g n c : Nat} {xs : List Value} (h : Row W g n c xs) : g < W.heap.size := by
  obtain ⟨cur, h1, _⟩ := h.ex
  exact blk_lt h1
set_option maxHeartbeats 4000000 in
set_option maxRecDepth 100000 in
theorem ins_end (g n c vb m vc : Nat) (xs vs : List Value) (w : World) (hs : Row w g n c xs) (hv : Row w vb m vc vs) (hm : 0 < m) (hnm : n + m ≤ 1000000) :
    Calls Try.prog 42 #[.slice (some ⟨g, 0, none⟩) n c, .int .i64 (n : Int), .slice (some ⟨vb, 0, none⟩) m vc] w (Put w g (n + m) (xs ++ vs)) := by
  obtain ⟨i0, hi, hz0, hz1, hz2⟩ := info_parts info31
  have HS := Aside0.mk hs
  have HV := Aside0.mk hv
  have hz := Aside0.mk hs.one
  have hc1 := hs.le
  have hc2 : c ≤ 9223372036854775807 := by have := hs.max; unfold maxLen at this; omega
  have hc3 := hv.le
  have hc4 : vc ≤ 9223372036854775807 := by have := hv.max; unfold maxLen at this; omega
  have hm0 : ¬ ((m : Int) = 0) := by omega
  clear hs hv
  go_enter Try.func42, Try.ntmps42
  go_wp2_with (at_builtin; refine wpList_append_own_at w rfl _ _ 27 rfl 0 31 i0 _ 2 16 Try.underlying27 hi hz0 hz1 hz2 rfl (by decide) (.slice (some ⟨g, 0, none⟩) n c) n xs rfl HS.out.owns ⟨vb, 0, none⟩ m vc vs rfl HV.out.len HV.out.news HV.out.one (by unfold maxLen; omega) (by omega) (Nat.zero_le _) ?_; intro v' w1 hown' hgrow hnil hat; have HO := Aside0.mk hown'; have HG := Aside0.mk hgrow; have HN := Aside0.mk hnil; have HA := Aside0.mk hat; clear hown' hgrow hnil hat)
  all_goals
    go_ret
    have hne : v' ≠ .slice none 0 0 := fun e => by have := (HN.out.1 e).2; omega
    obtain ⟨g', c', rfl, hr⟩ := Row.of_owns HO.out hne (fun v hv => by rcases List.mem_append.1 hv with h | h; exact hz.out v h; exact HV.out.one v h)
    refine ⟨g', c', rfl, hr, ?_, HG.out⟩
    rcases HA.out with h | h
    · exact .inl (by simpa [Value.ownBlock] using h)
    · exact .inr (by have : g' = w.heap.size := by simpa [Value.ownBlock] using h
                     omega)
def Halt (p : Prop) : Prop := p
theorem halt {p : Prop} (h : Halt p) : p := h
theorem Halt.go {p : Prop} (h : p) : Halt p := h
theorem one_zeros (z : Value) (n : Nat) (h : z.cells.all (·.oneCell') = true) (hz : 0 < z.cells.size) : ∀ v ∈ (Builtin.zeroCells z.cells n).toList, v.oneCell' = true := by
  intro v hv
  simp only [Builtin.zeroCells, Array.toList_map, Array.toList_range, List.mem_map] at hv
  obtain ⟨i, hi, rfl⟩ := hv
  have hlt : i % z.cells.size < z.cells.size := Nat.mod_lt _ hz
  rw [getElem!_pos z.cells _ hlt]
  exact Array.all_eq_true.1 h _ hlt
theorem sp_take (l : List Value) (o : Nat) (cs : List Value) (h : o + cs.length ≤ l.length) : (sp l o cs).take (o + cs.length) = l.take o ++ cs := by
  unfold sp
  have : (l.take o ++ cs).length = o + cs.length := by rw [List.length_append, List.length_take]; omega
  rw [← this]
  exact List.take_left
theorem sp_takeo (l : List Value) (o : Nat) (cs : List Value) (h : o ≤ l.length) : (sp l o cs).take o = l.take o := by
  unfold sp
  rw [List.append_assoc, List.take_append_of_le_length (by rw [List.length_take]; omega), List.take_take, Nat.min_self]
theorem sp_sp (l cs ds : List Value) (a : Nat) (h : a + cs.length + ds.length ≤ l.length) : (sp (sp l a cs) (a + cs.length) ds).take (a + cs.length + ds.length) = l.take a ++ (cs ++ ds) := by
  rw [← List.append_assoc, sp_take _ _ _ (by rw [sp_length (by omega)]; omega), sp_take _ _ _ (by omega)]
theorem grown_new {w w1 w2 : World} {g b : Nat} (h : w.grownBy w1 (some g)) (k : w1.grownBy w2 (some b)) (hb : b = g ∨ w.heap.size ≤ b) : w.grownBy w2 (some g) :=
  ⟨k.os.trans h.os, k.tape.trans h.tape, k.output.trans h.output, Nat.le_trans h.size k.size, fun i hi hne => (k.block i (Nat.lt_of_lt_of_le hi h.size) (fun e => by
    have e' := Option.some.inj e
    subst e'
    rcases hb with rfl | hb
    · exact hne rfl
    · omega)).trans (h.block i hi hne)⟩
set_option maxHeartbeats 4000000 in
set_option maxRecDepth 100000 in
theorem ins_grow (g n c i vb m vc : Nat) (xs vs : List Value) (w : World) (hs : Row w g n c xs) (hv : Row w vb m vc vs) (hi : i < n) (hm : 0 < m) (hnm : n + m ≤ 1000000) (hroom : c < n + m) :
    Calls Try.prog 42 #[.slice (some ⟨g, 0, none⟩) n c, .int .i64 (i : Int), .slice (some ⟨vb, 0, none⟩) m vc] w (Put w g (n + m) (xs.take (i * 2) ++ (vs ++ xs.drop (i * 2)))) := by
  obtain ⟨i0, hi0, hz0, hzs, hzb⟩ := info_parts info31
  have HS := Aside0.mk hs
  have HV := Aside0.mk hv
  have hc1 := hs.le
  have hc2 : c ≤ 9223372036854775807 := by have := hs.max; unfold maxLen at this; omega
  have hc3 := hv.le
  have hc4 : vc ≤ 9223372036854775807 := by have := hv.max; unfold maxLen at this; omega
  have hgl := hs.lt
  have hvl := hv.lt
  have hxl := hs.len
  have hyl := hv.len
  have hz1 : ¬ ((m : Int) = 0) := by omega
  have hz2 : ¬ ((i : Int) = (n : Int)) := by omega
  have hz3 : (c : Int) < (n : Int) + (m : Int) := by omega
  have hkk : (n : Int) + (m : Int) - (i : Int) = ((n + m - i : Nat) : Int) := by omega
  have hik : i + (n + m - i) = n + m := by omega
  have hold : (Builtin.firstCells i0.size i (.slice (some ⟨g, 0, none⟩) i c)).run Try.prog w.drew = .ok (xs.take (i * 2)).toArray w.drew := by
    rw [hzs]
    exact run_firstCells_some w.drew 2 i ⟨g, 0, none⟩ i c (xs.take (i * 2)) (by rw [List.length_take]; omega) (fun j v hj => by
      rw [add_plain]
      rw [List.getElem?_take] at hj
      split at hj
      · exact hs.cell hj
      · cases hj)
  have hrz : ∀ ty, (Builtin.append_ #[27, 3] ty #[.slice (some ⟨g, 0, none⟩) i c, .int .i64 ((n : Int) + (m : Int) - (i : Int))]).run Try.prog w =
      .ok (.slice (some ⟨w.heap.size, 0, none⟩) (n + m) (grownCap w (n + m) c 31)) (w.drew.alloc (.cells ((xs.take (i * 2)).toArray ++ Builtin.zeroCells (Value.agg #[.int .i64 0, .int .i64 0]).cells (n + m - i) ++ Builtin.zeroCells (Value.agg #[.int .i64 0, .int .i64 0]).cells (grownCap w (n + m) c 31 - (n + m))) 31)) := fun ty => by
    have h := Lib.run_append_grow_zeros (P := Try.prog) w 27 3 ty 31 i0 _ .i64 .i64 Try.underlying27 Try.underlying3 hi0 hz0 (some ⟨g, 0, none⟩) i c (xs.take (i * 2)) hold (n + m - i) (by omega) (by omega) (by omega) (by omega) (by rw [hzb]; omega) (by rw [hzb, hik]; exact growslice_fits hroom (by omega))
    rw [hik] at h
    rw [hkk]
    exact h
  obtain ⟨G, hG⟩ : ∃ G, G = grownCap w (n + m) c 31 := ⟨_, rfl⟩
  obtain ⟨ROW, hROW⟩ : ∃ ROW : Array Value, ROW = (xs.take (i * 2)).toArray ++ Builtin.zeroCells (Value.agg #[.int .i64 0, .int .i64 0]).cells (n + m - i) ++ Builtin.zeroCells (Value.agg #[.int .i64 0, .int .i64 0]).cells (G - (n + m)) := ⟨_, rfl⟩
  rw [← hG, ← hROW] at hrz
  have hGn : n + m ≤ G := by rw [hG]; exact grownCap_ge w _ _ _
  have hG63 : G ≤ 9223372036854775807 := by
    have := grownCap_le_maxLen w (n + m) c 31 (by unfold maxLen; omega)
    rw [← hG] at this
    unfold maxLen at this
    omega
  have hRl : ROW.size = G * 2 := by
    rw [hROW]
    simp only [Array.size_append, List.size_toArray, List.length_take, size_zeroCells, Value.cells]
    simp
    omega
  have hRt : ROW.toList.take (i * 2) = xs.take (i * 2) := by
    rw [hROW]
    simp only [Array.toList_append, List.append_assoc]
    rw [List.take_append_of_le_length (by rw [List.length_take]; omega), List.take_take, Nat.min_self]
  obtain ⟨W1, hW1⟩ : ∃ W1, W1 = w.drew.alloc (.cells ROW 31) := ⟨_, rfl⟩
  rw [← hW1] at hrz
  have hN : W1.heap[w.heap.size]? = some (.cells ROW 31 (0, 0)) := by rw [hW1]; exact heap_alloc_new w.drew _
  have hgr : w.grownBy W1 (some g) := by rw [hW1]; exact ⟨rfl, rfl, rfl, by simp, fun k hk _ => heap_alloc_old w.drew _ hk⟩
  have hS1 : ∀ j v, xs[j]? = some v → W1.cell? ⟨g, j, none⟩ = some v := fun j v hj => by
    rw [hW1, World.cell?_alloc_past (w := w.drew) _ g j hgl]; exact hs.cell hj
  have hV1 : ∀ j v, vs[j]? = some v → W1.cell? ⟨vb, j, none⟩ = some v := fun j v hj => by
    rw [hW1, World.cell?_alloc_past (w := w.drew) _ vb j hvl]; exact hv.cell hj
  have hR1 := Aside0.mk hRl
  have hR2 := Aside0.mk hRt
  have hN' := Aside0.mk hN
  have hgr' := Aside0.mk hgr
  have hS1' := Aside0.mk hS1
  have hV1' := Aside0.mk hV1
  have HX := Aside0.mk hxl
  have HY := Aside0.mk hyl
  clear hkk hik hold hROW hG hRl hRt hN hgr hS1 hV1 hW1 hs hv hxl hyl
  have hw1 : IntKind.i64.wrap ((i : Int) + (m : Int)) = (i : Int) + (m : Int) := by rw [IntKind.wrap_i64]; omega
  have hb1 : (0 : Int) ≤ (i : Int) + (m : Int) := by omega
  have hin : i ≤ n := by omega
  have htn : ((i : Int) + (m : Int)).toNat = i + m := by omega
  have hb3 : (i : Int) ≤ (n : Int) := by omega
  have hGi : ¬ (G = i) := by omega
  have hGim : ¬ (G = i + m) := by omega
  have hci : ¬ (c = i) := by omega
  go_enter Try.func42, Try.ntmps42
  go_wp2_with (first
    | (at_builtin; refine Lib.wpList_append_run _ rfl _ _ _ _ rfl _ _ rfl rfl _ _ (hrz _) ?_)
    | ((with_reducible refine gate_dst (N := 45) rfl ?_); refine copy_law _ _ w.heap.size (i * 2) (n + m - i) (G - i) vb 0 m vc ROW vs rfl rfl rfl rfl hN'.out (by rw [HY.out]; simp only [Nat.min_def]; split <;> omega) (fun j v hj => by rw [Nat.zero_add]; exact hV1'.out j v hj) (by rw [HY.out, hR1.out]; omega) HV.out.one ?_; intro W2 h2 g2 s2; have H2 := Aside0.mk h2; have G2 := Aside0.mk g2; clear h2 g2 s2))
  have hRL : ROW.toList.length = G * 2 := by rw [Array.length_toList]; exact hR1.out
  go_region_law (refine copy_step _ _ w.heap.size ((i + m) * 2) (n + m - (i + m)) (G - (i + m)) g (i * 2) (n - i) (c - i) (sp ROW.toList (i * 2) vs).toArray (xs.drop (i * 2)) rfl rfl (by simp [Act.eval, Act.put]) (by simp [Act.eval, Act.put]) H2.out (by rw [List.length_drop, HX.out]; simp only [Nat.min_def]; split <;> omega) (fun j v hj => by rw [List.getElem?_drop] at hj; exact G2.out.cell (hS1'.out _ v hj) (by simp; omega)) (by rw [List.length_drop, HX.out, List.size_toArray, sp_length (by rw [HY.out, hRL]; omega), hRL]; omega) (fun v hv => HS.out.one v (List.mem_of_mem_drop hv)) ?_; intro W3 h3 g3 s3; have H3 := Aside0.mk h3; have G3 := Aside0.mk g3; clear h3 g3 s3)
  go_wp2
  go_ret
  have e1 : (i + m) * 2 = i * 2 + vs.length := by rw [HY.out]; omega
  have e2 : (n + m) * 2 = i * 2 + vs.length + (xs.drop (i * 2)).length := by rw [List.length_drop, HX.out, HY.out]; omega
  refine ⟨_, _, rfl, ⟨⟨_, H3.out, ?_, ?_⟩, hGn, by unfold maxLen; omega, ?_⟩, .inr (Nat.le_refl _), ?_⟩
  · rw [List.size_toArray, sp_length, List.toList_toArray, sp_length, hRL]
    · rw [HY.out, hRL]; omega
    · rw [List.toList_toArray, sp_length (by rw [HY.out, hRL]; omega), hRL, List.length_drop, HX.out]; omega
  · rw [e1, e2, List.toList_toArray, List.toList_toArray, sp_sp _ _ _ _ (by rw [HY.out, hRL, List.length_drop, HX.out]; omega), hR2.out]
  · intro v hv
    rcases List.mem_append.1 hv with h | h
    · exact HS.out.one v (List.mem_of_mem_take h)
    · rcases List.mem_append.1 h with h | h
      · exact HV.out.one v h
      · exact HS.out.one v (List.mem_of_mem_drop h)
  · exact grown_new (grown_new hgr'.out G2.out (.inr (Nat.le_refl _))) ⟨G3.out.os, G3.out.tape, G3.out.output, G3.out.size, G3.out.block⟩ (.inr (Nat.le_refl _))
end Go.Proofs.Ytdchljjhajbehaa.Ex
