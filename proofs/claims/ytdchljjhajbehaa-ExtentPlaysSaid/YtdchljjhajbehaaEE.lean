/- slices.Replace of extents where it grows, and as one law. -/
import Derived.Test.YtdchljjhajbehaaED
namespace Go.Proofs.Ytdchljjhajbehaa.Ex
open Go.RowKit Go.Proofs.Ytdchljjhajbehaa.Print Go.Proofs.YtdchljjhajbehaaW.PrintWords Go.Proofs.YtdchljjhajbehaaW.PrintLast Go.Proofs.YtdchljjhajbehaaW.PrintMore
set_option linter.unusedVariables false
set_option linter.unusedSimpArgs false
set_option maxHeartbeats 8000000 in
set_option maxRecDepth 100000 in
theorem rep_grow (g n c i j vb m vc : Nat) (xs vs : List Value) (w : World) (hs : Row w g n c xs) (hv : Row w vb m vc vs) (hij : i < j) (hj : j < n) (hroom : c < i + m + (n - j)) (hnm : n + m ≤ 1000000) :
    Calls Try.prog 30 #[.slice (some ⟨g, 0, none⟩) n c, .int .i64 (i : Int), .int .i64 (j : Int), .slice (some ⟨vb, 0, none⟩) m vc] w (Put w g (i + m + (n - j)) (xs.take (i * 2) ++ (vs ++ xs.drop (j * 2)))) := by
  obtain ⟨i0, hi0, hz0, hzs, hzb⟩ := info_parts info31
  have HS := Aside0.mk hs
  have HV := Aside0.mk hv
  have hc1 := hs.le
  have hc2 : c ≤ 9223372036854775807 := by have := hs.max; unfold maxLen at this; omega
  have hc3 := hv.le
  have hc4 : vc ≤ 9223372036854775807 := by have := hv.max; unfold maxLen at this; omega
  have hgl := hs.lt
  have hvl := hv.lt
  have HX := Aside0.mk hs.len
  have HY := Aside0.mk hv.len
  have hall : Aside0 (∀ q : Nat, ∃ (G : Nat) (ROW : Array Value) (W1 : World), (∀ ty, (Builtin.append_ #[27, 3] ty #[.slice (some ⟨g, 0, none⟩) i c, .int .i64 ((i : Int) + (m : Int) + ((n - j : Nat) : Int) - (i : Int))]).run Try.prog (w.drewN q) = .ok (.slice (some ⟨w.heap.size, 0, none⟩) (i + m + (n - j)) G) W1) ∧
      i + m + (n - j) ≤ G ∧ G ≤ 9223372036854775807 ∧ ROW.size = G * 2 ∧ ROW.toList.take (i * 2) = xs.take (i * 2) ∧ W1.heap[w.heap.size]? = some (.cells ROW 31 (0, 0)) ∧ w.grownBy W1 (some g) ∧ (∀ k v, xs[k]? = some v → W1.cell? ⟨g, k, none⟩ = some v) ∧ (∀ k v, vs[k]? = some v → W1.cell? ⟨vb, k, none⟩ = some v)) := ⟨fun q => by
    have hkk : (i : Int) + (m : Int) + ((n - j : Nat) : Int) - (i : Int) = ((i + m + (n - j) - i : Nat) : Int) := by omega
    have hik : i + (i + m + (n - j) - i) = i + m + (n - j) := by omega
    have hold : (Builtin.firstCells i0.size i (.slice (some ⟨g, 0, none⟩) i c)).run Try.prog (w.drewN q).drew = .ok (xs.take (i * 2)).toArray (w.drewN q).drew := by
      rw [hzs]
      exact run_firstCells_some (w.drewN q).drew 2 i ⟨g, 0, none⟩ i c (xs.take (i * 2)) (by rw [List.length_take, HX.out]; omega) (fun k v hk => by
        rw [add_plain]
        rw [List.getElem?_take] at hk
        split at hk
        · exact hs.cell hk
        · cases hk)
    refine ⟨grownCap (w.drewN q) (i + m + (n - j)) c 31, (xs.take (i * 2)).toArray ++ Builtin.zeroCells (Value.agg #[.int .i64 0, .int .i64 0]).cells (i + m + (n - j) - i) ++ Builtin.zeroCells (Value.agg #[.int .i64 0, .int .i64 0]).cells (grownCap (w.drewN q) (i + m + (n - j)) c 31 - (i + m + (n - j))),
      (w.drewN q).drew.alloc (.cells ((xs.take (i * 2)).toArray ++ Builtin.zeroCells (Value.agg #[.int .i64 0, .int .i64 0]).cells (i + m + (n - j) - i) ++ Builtin.zeroCells (Value.agg #[.int .i64 0, .int .i64 0]).cells (grownCap (w.drewN q) (i + m + (n - j)) c 31 - (i + m + (n - j)))) 31), ?_, ?_, ?_, ?_, ?_, ?_, ?_, ?_, ?_⟩
    · intro ty
      have h := Lib.run_append_grow_zeros (P := Try.prog) (w.drewN q) 27 3 ty 31 i0 _ .i64 .i64 Try.underlying27 Try.underlying3 hi0 hz0 (some ⟨g, 0, none⟩) i c (xs.take (i * 2)) hold (i + m + (n - j) - i) (by omega) (by omega) (by omega) (by omega) (by rw [hzb]; omega) (by rw [hzb, hik]; exact growslice_fits hroom (by omega))
      rw [hik] at h
      rw [hkk]
      exact h
    · exact grownCap_ge _ _ _ _
    · have := grownCap_le_maxLen (w.drewN q) (i + m + (n - j)) c 31 (by unfold maxLen; omega)
      unfold maxLen at this
      omega
    · have := grownCap_ge (w.drewN q) (i + m + (n - j)) c 31
      simp only [Array.size_append, List.size_toArray, List.length_take, size_zeroCells, Value.cells]
      rw [HX.out]
      simp
      omega
    · simp only [Array.toList_append, List.append_assoc]
      rw [List.take_append_of_le_length (by rw [List.length_take, HX.out]; omega), List.take_take, Nat.min_self]
    · exact heap_alloc_new (w.drewN q).drew _
    · exact ⟨rfl, rfl, rfl, by simp, fun k hk _ => heap_alloc_old (w.drewN q).drew _ hk⟩
    · intro k v hk
      rw [World.cell?_alloc_past (w := (w.drewN q).drew) _ g k hgl]; exact hs.cell hk
    · intro k v hk
      rw [World.cell?_alloc_past (w := (w.drewN q).drew) _ vb k hvl]; exact hv.cell hk⟩
  have hm0 : 0 < m := by omega
  clear hs hv
  have hz2 : ¬ ((i : Int) = (j : Int)) := by omega
  have hz3 : ¬ ((j : Int) = (n : Int)) := by omega
  have hin : (i : Int) ≤ (n : Int) := by omega
  have hjn : (j : Int) ≤ (n : Int) := by omega
  have hijz : (i : Int) ≤ (j : Int) := by omega
  have hci : ¬ (c = i) := by omega
  have hcj : ¬ (c = j) := by omega
  have ht1 : IntKind.i64.wrap ((i : Int) + (m : Int)) = (i : Int) + (m : Int) := by rw [IntKind.wrap_i64]; omega
  have ht3 : (c : Int) < (i : Int) + (m : Int) + ((n - j : Nat) : Int) := by omega
  have ht6 : (0 : Int) ≤ (i : Int) + (m : Int) := by omega
  have ht7 : ((i : Int) + (m : Int)).toNat = i + m := by omega
  have ht9 : (i : Int) + (m : Int) ≤ ((i + m + (n - j) : Nat) : Int) := by omega
  have hta : (i : Int) ≤ ((i + m + (n - j) : Nat) : Int) := by omega
  have htc : i + m + (n - j) - (i + m) = n - j := by omega
  have htd : (i : Int) + (m : Int) ≤ (i : Int) + (m : Int) + ((n - j : Nat) : Int) := by omega
  have hte : (i : Int) ≤ (i : Int) + (m : Int) + ((n - j : Nat) : Int) := by omega
  have htf : IntKind.i64.wrap ((i : Int) + (m : Int) + ((n - j : Nat) : Int) - (i : Int)) = (i : Int) + (m : Int) + ((n - j : Nat) : Int) - (i : Int) := by rw [IntKind.wrap_i64]; omega
  go_enter Try.func30, Try.ntmps30
  go_wp2
  go_quiet (fail)
  obtain ⟨G, ROW, W1, hrz, hGn, hG63, hRl, hRt, hN, hgr, hS1, hV1⟩ := hall.out nq
  have hR1 := Aside0.mk hRl
  have hR2 := Aside0.mk hRt
  have hN' := Aside0.mk hN
  have hgr' := Aside0.mk hgr
  have hS1' := Aside0.mk hS1
  have hV1' := Aside0.mk hV1
  clear hall hRl hRt hN hgr hS1 hV1
  have hGi : ¬ (G = i) := by omega
  have hGim : ¬ (G = i + m) := by omega
  go_wp2_with (first
    | (at_builtin; refine Lib.wpList_append_run _ rfl _ _ _ _ rfl _ _ rfl rfl _ _ (hrz _) ?_)
    | ((with_reducible refine gate_dst (N := 72) rfl ?_); refine copy_law _ _ w.heap.size (i * 2) (i + m + (n - j) - i) (G - i) vb 0 m vc ROW vs rfl rfl rfl rfl hN'.out (by rw [HY.out]; simp only [Nat.min_def]; split <;> omega) (fun k v hk => by rw [Nat.zero_add]; exact hV1'.out k v hk) (by rw [HY.out, hR1.out]; omega) HV.out.one ?_; intro W2 h2 g2 s2; have H2 := Aside0.mk h2; have G2 := Aside0.mk g2; clear h2 g2 s2))
  have hRL : ROW.toList.length = G * 2 := by rw [Array.length_toList]; exact hR1.out
  have hgw : g ≠ w.heap.size := by omega
  go_region_law (refine copy_step _ _ w.heap.size ((i + m) * 2) (n - j) (G - (i + m)) g (j * 2) (n - j) (c - j) (sp ROW.toList (i * 2) vs).toArray (xs.drop (j * 2)) rfl rfl (by simp [Act.eval, Act.put]) (by simp [Act.eval, Act.put]) H2.out (by rw [List.length_drop, HX.out]; simp only [Nat.min_def]; split <;> omega) (fun k v hk => by rw [List.getElem?_drop] at hk; exact G2.out.cell (hS1'.out _ v hk) (by simp; omega)) (by rw [List.length_drop, HX.out, List.size_toArray, sp_length (by rw [HY.out, hRL]; omega), hRL]; omega) (fun v hv => HS.out.one v (List.mem_of_mem_drop hv)) ?_; intro W3 h3 g3 s3; have H3 := Aside0.mk h3; have G3 := Aside0.mk g3; clear h3 g3 s3)
  go_wp2
  go_ret
  have e1 : (i + m) * 2 = i * 2 + vs.length := by rw [HY.out]; omega
  have e2 : (i + m + (n - j)) * 2 = i * 2 + vs.length + (xs.drop (j * 2)).length := by rw [List.length_drop, HX.out, HY.out]; omega
  refine ⟨_, _, rfl, ⟨⟨_, H3.out, ?_, ?_⟩, hGn, by unfold maxLen; omega, ?_⟩, .inr (Nat.le_refl _), ?_⟩
  · rw [List.size_toArray, sp_length, List.toList_toArray, sp_length, hRL]
    · rw [HY.out, hRL]; omega
    · rw [List.toList_toArray, sp_length (by rw [HY.out, hRL]; omega), hRL, List.length_drop, HX.out]; omega
  · rw [e1, e2, List.toList_toArray, List.toList_toArray, sp_sp _ _ _ _ (by rw [HY.out, hRL, List.length_drop, HX.out]; omega), hR2.out]
  · intro v hv
    rcases List.mem_append.1 hv with h | h
    · exact HS.out.one v (List.mem_of_mem_take h)
    · rcases List.mem_append.1 h with h | h
      · exact HV.out.one v h
      · exact HS.out.one v (List.mem_of_mem_drop h)
  · exact grown_new (grown_new hgr'.out G2.out (.inr (Nat.le_refl _))) ⟨G3.out.os, G3.out.tape, G3.out.output, G3.out.size, G3.out.block⟩ (.inr (Nat.le_refl _))
set_option maxHeartbeats 4000000 in
set_option maxRecDepth 100000 in
theorem rep_ins (g n c i vb m vc : Nat) (xs vs : List Value) (w : World) (hs : Row w g n c xs) (hv : Row w vb m vc vs) (hne : vb ≠ g) (hi : i ≤ n) (hm : 0 < m) (hnm : n + m ≤ 1000000) :
    Calls Try.prog 30 #[.slice (some ⟨g, 0, none⟩) n c, .int .i64 (i : Int), .int .i64 (i : Int), .slice (some ⟨vb, 0, none⟩) m vc] w (Put w g (n + m) (xs.take (i * 2) ++ (vs ++ xs.drop (i * 2)))) := by
  have hins := Aside0.mk (insert_row g n c i vb m vc xs vs w hs hv hne hi hm hnm)
  have hc1 := hs.le
  have hc2 : c ≤ 9223372036854775807 := by have := hs.max; unfold maxLen at this; omega
  clear hs hv
  have hin : (i : Int) ≤ (n : Int) := by omega
  go_enter Try.func30, Try.ntmps30
  go_wp2_with ((with_reducible refine gate_callee (f := 42) rfl ?_); refine goesL_ (some 25) rfl rfl Try.func42 (by kernel_rfl) rfl #[.slice (some ⟨g, 0, none⟩) n c, .int .i64 (i : Int), .slice (some ⟨vb, 0, none⟩) m vc] rfl (by (try simp only [List.map_toArray, List.map_cons, List.map_nil]); first | done | rfl) ?_; (with_reducible refine hins.out.mono ?_); rintro e w1 ⟨g', c', rfl, hr, hg, hgr⟩; refine ⟨_, rfl, ?_⟩; have HR := Aside0.mk hr; have HG := Aside0.mk hg; have HGR := Aside0.mk hgr; clear hr hg hgr)
  all_goals
    go_ret
    exact ⟨g', c', rfl, HR.out, HG.out, HGR.out⟩
/-- slices.Replace(s, i, j, v..): what lies before i, v, what lies from j on -/
theorem replace_row (g n c i j m vc : Nat) (ao : Option Addr) (xs vs : List Value) (w : World) (hs : Row w g n c xs) (hv : Arg w g ao m vc vs) (hij : i ≤ j) (hj : j ≤ n) (hm : i = j → 0 < m) (hnm : n + m ≤ 1000000) :
    Calls Try.prog 30 #[.slice (some ⟨g, 0, none⟩) n c, .int .i64 (i : Int), .int .i64 (j : Int), .slice ao m vc] w (Put w g (i + m + (n - j)) (xs.take (i * 2) ++ (vs ++ xs.drop (j * 2)))) := by
  have some_ : 0 < m → ∃ vb, vb ≠ g ∧ ao = some ⟨vb, 0, none⟩ ∧ Row w vb m vc vs := fun h => by
    cases ao with
    | none => have := (hv.none_ rfl).1; omega
    | some ad => obtain ⟨vb, a, rfl, b⟩ := hv.row ad rfl; exact ⟨vb, a, rfl, b⟩
  by_cases h1 : i = j
  · subst h1
    obtain ⟨vb, a, rfl, b⟩ := some_ (hm rfl)
    have := rep_ins g n c i vb m vc xs vs w hs b a hj (hm rfl) hnm
    rwa [show n + m = i + m + (n - i) by omega] at this
  by_cases h2 : j = n
  · subst h2
    rw [Nat.sub_self, Nat.add_zero, show xs.drop (j * 2) = [] from by rw [← hs.len, List.drop_length], List.append_nil]
    by_cases h3 : i + m ≤ j
    · exact rep_end_in g j c i m vc ao xs vs w hs hv (by omega) h3 (by omega)
    · obtain ⟨vb, a, rfl, b⟩ := some_ (by omega)
      exact rep_end_over g j c i vb m vc xs vs w hs b (by omega) (by omega) hnm
  by_cases h3 : i + m ≤ j
  · exact rep_fit g n c i j m vc ao xs vs w hs hv (by omega) (by omega) h3 (by omega)
  obtain ⟨vb, a, rfl, b⟩ := some_ (by omega)
  by_cases h4 : i + m + (n - j) ≤ c
  · exact rep_expand g n c i j vb m vc xs vs w hs b a (by omega) (by omega) (by omega) h4 hnm
  · exact rep_grow g n c i j vb m vc xs vs w hs b (by omega) (by omega) (by omega) hnm
end Go.Proofs.Ytdchljjhajbehaa.Ex
