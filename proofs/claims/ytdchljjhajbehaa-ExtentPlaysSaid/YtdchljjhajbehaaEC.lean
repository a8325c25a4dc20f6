/- slices.Insert of extents where there is room, and as one law. -/
import Derived.Test.YtdchljjhajbehaaEB
namespace Go.Proofs.Ytdchljjhajbehaa.Ex
open Go.RowKit Go.Proofs.Ytdchljjhajbehaa.Print Go.Proofs.YtdchljjhajbehaaW.PrintWords Go.Proofs.YtdchljjhajbehaaW.PrintLast Go.Proofs.YtdchljjhajbehaaW.PrintMore
set_option linter.unusedVariables false
set_option linter.unusedSimpArgs false
theorem sp_sp2 (l cs ds : List Value) (a : Nat) (h : a + cs.length + ds.length ≤ l.length) : (sp (sp l (a + cs.length) ds) a cs).take (a + cs.length + ds.length) = l.take a ++ (cs ++ ds) := by
  unfold sp
  have h1 : (l.take (a + cs.length) ++ ds ++ l.drop (a + cs.length + ds.length)).take a = l.take a := by
    rw [List.append_assoc, List.take_append_of_le_length (by rw [List.length_take]; omega), List.take_take, Nat.min_eq_left (by omega)]
  have h2 : (l.take (a + cs.length) ++ ds ++ l.drop (a + cs.length + ds.length)).drop (a + cs.length) = ds ++ l.drop (a + cs.length + ds.length) := by
    rw [List.append_assoc, List.drop_left' (by rw [List.length_take]; omega)]
  rw [h1, h2]
  have : (l.take a ++ cs ++ ds).length = a + cs.length + ds.length := by simp only [List.length_append, List.length_take]; omega
  rw [← List.append_assoc (l.take a ++ cs), ← this, List.take_left, List.append_assoc]
set_option maxHeartbeats 4000000 in
set_option maxRecDepth 100000 in
theorem ins_shift (g n c i vb m vc : Nat) (xs vs : List Value) (w : World) (hs : Row w g n c xs) (hv : Row w vb m vc vs) (hne : vb ≠ g) (hi : i < n) (hm : 0 < m) (hnm : n + m ≤ 1000000) (hroom : n + m ≤ c) :
    Calls Try.prog 42 #[.slice (some ⟨g, 0, none⟩) n c, .int .i64 (i : Int), .slice (some ⟨vb, 0, none⟩) m vc] w (Put w g (n + m) (xs.take (i * 2) ++ (vs ++ xs.drop (i * 2)))) := by
  have HS := Aside0.mk hs
  have HV := Aside0.mk hv
  have hc2 : c ≤ 9223372036854775807 := by have := hs.max; unfold maxLen at this; omega
  have hc3 := hv.le
  have hc4 : vc ≤ 9223372036854775807 := by have := hv.max; unfold maxLen at this; omega
  have hz1 : ¬ ((m : Int) = 0) := by omega
  have hz2 : ¬ ((i : Int) = (n : Int)) := by omega
  have hz3 : ¬ (c : Int) < (n : Int) + (m : Int) := by omega
  have HX := Aside0.mk hs.len
  have HY := Aside0.mk hv.len
  obtain ⟨cur, hg, hcs, hct⟩ := hs.ex
  obtain ⟨vcur, hvg, hvs, hvt⟩ := hv.ex
  have HG := Aside0.mk hg
  have HC := Aside0.mk hcs
  have HT := Aside0.mk hct
  have hovv : ∀ off lb cb, (callFunc 43 #[.slice (some ⟨vb, 0, none⟩) m vc, .slice (some ⟨g, off, none⟩) lb cb]).run Try.prog w = .ok (.value (.bool false)) w := fun off lb cb => hov w g vb off m vc lb cb vcur cur hne hvg hg (by rw [hcs]; omega)
  have HNE := Aside0.mk hne
  clear hg hvg hcs hvs hct hvt hs hv hne
  have hw1 : IntKind.i64.wrap ((i : Int) + (m : Int)) = (i : Int) + (m : Int) := by rw [IntKind.wrap_i64]; omega
  have hw2 : IntKind.i64.wrap ((n : Int) + (m : Int)) = (n : Int) + (m : Int) := by rw [IntKind.wrap_i64]; omega
  have hb1 : (0 : Int) ≤ (i : Int) + (m : Int) := by omega
  have hin : i ≤ n := by omega
  have htn : ((i : Int) + (m : Int)).toNat = i + m := by omega
  have htm : ((n : Int) + (m : Int)).toNat = n + m := by omega
  have hb2 : ¬ (c = i + m) := by omega
  have hb3 : (i : Int) ≤ (n : Int) + (m : Int) := by omega
  have hb4 : ¬ (c = i) := by omega
  have hb5 : (i : Int) ≤ (n : Int) := by omega
  have hb6 : (0 : Int) ≤ (n : Int) + (m : Int) := by omega
  have hb7 : n + m ≤ c := hroom
  have hb8 : (i : Int) + (m : Int) ≤ (n : Int) + (m : Int) := by omega
  go_enter Try.func42, Try.ntmps42
  go_wp2_with (simp only [hovv])
  go_region_law (refine copy_step _ _ g ((i + m) * 2) (n + m - (i + m)) (c - (i + m)) g (i * 2) (n + m - i) (c - i) cur (xs.drop (i * 2)) rfl rfl (by simp [Act.eval, Act.put]) (by simp [Act.eval, Act.put]) HG.out (by rw [List.length_drop, HX.out]; simp only [Nat.min_def]; split <;> omega) (fun j v hj => by rw [List.getElem?_drop] at hj; exact HS.out.cell hj) (by rw [List.length_drop, HX.out, HC.out]; omega) (fun v hv => HS.out.one v (List.mem_of_mem_drop hv)) ?_; intro W2 h2 g2 s2; have H2 := Aside0.mk h2; have G2 := Aside0.mk g2; have S2 := Aside0.mk s2; clear h2 g2 s2)
  have hV2 : ∀ j v, vs[j]? = some v → W2.cell? ⟨vb, j, none⟩ = some v := fun j v hj => G2.out.cell (HV.out.cell hj) (by simp; exact HNE.out)
  have HV2 := Aside0.mk hV2
  clear hV2
  go_wp2_with ((with_reducible refine gate_dst (N := 82) rfl ?_); refine copy_law _ _ g (i * 2) (n + m - i) (c - i) vb 0 m vc (sp cur.toList ((i + m) * 2) (xs.drop (i * 2))).toArray vs rfl rfl rfl rfl H2.out (by rw [HY.out]; simp only [Nat.min_def]; split <;> omega) (fun j v hj => by rw [Nat.zero_add]; exact HV2.out j v hj) (by rw [HY.out, List.size_toArray, sp_length (by rw [List.length_drop, HX.out, Array.length_toList, HC.out]; omega), Array.length_toList, HC.out]; omega) HV.out.one ?_; intro W3 h3 g3 s3; have H3 := Aside0.mk h3; have G3 := Aside0.mk g3; clear h3 g3 s3)
  go_ret
  have hCL : cur.toList.length = c * 2 := by rw [Array.length_toList]; exact HC.out
  have e1 : (i + m) * 2 = i * 2 + vs.length := by rw [HY.out]; omega
  have e2 : (n + m) * 2 = i * 2 + vs.length + (xs.drop (i * 2)).length := by rw [List.length_drop, HX.out, HY.out]; omega
  refine ⟨g, c, rfl, ⟨⟨_, H3.out, ?_, ?_⟩, hroom, by unfold maxLen; omega, ?_⟩, .inl rfl, ?_⟩
  · rw [List.size_toArray, sp_length, List.toList_toArray, sp_length, hCL]
    · rw [List.length_drop, HX.out, hCL]; omega
    · rw [List.toList_toArray, sp_length (by rw [List.length_drop, HX.out, hCL]; omega), hCL, HY.out]; omega
  · rw [e1, e2, List.toList_toArray, List.toList_toArray, sp_sp2 _ _ _ _ (by rw [HY.out, hCL, List.length_drop, HX.out]; omega)]
    congr 1
    rw [← HT.out, List.take_take, Nat.min_eq_left (by omega)]
  · intro v hv
    rcases List.mem_append.1 hv with h | h
    · exact HS.out.one v (List.mem_of_mem_take h)
    · rcases List.mem_append.1 h with h | h
      · exact HV.out.one v h
      · exact HS.out.one v (List.mem_of_mem_drop h)
  · exact grown_new (show w.grownBy W2 (some g) from ⟨G2.out.os, G2.out.tape, G2.out.output, G2.out.size, G2.out.block⟩) G3.out (.inl rfl)
/-- slices.Insert(s, i, v): the row with v at its place -/
theorem insert_row (g n c i vb m vc : Nat) (xs vs : List Value) (w : World) (hs : Row w g n c xs) (hv : Row w vb m vc vs) (hne : vb ≠ g) (hi : i ≤ n) (hm : 0 < m) (hnm : n + m ≤ 1000000) :
    Calls Try.prog 42 #[.slice (some ⟨g, 0, none⟩) n c, .int .i64 (i : Int), .slice (some ⟨vb, 0, none⟩) m vc] w (Put w g (n + m) (xs.take (i * 2) ++ (vs ++ xs.drop (i * 2)))) := by
  by_cases h : i = n
  · subst h
    have := ins_end g i c vb m vc xs vs w hs hv hm hnm
    rwa [← hs.len, List.take_length, List.drop_length, List.append_nil]
  · by_cases hr : n + m ≤ c
    · exact ins_shift g n c i vb m vc xs vs w hs hv hne (by omega) hm hnm hr
    · exact ins_grow g n c i vb m vc xs vs w hs hv (by omega) hm hnm (by omega)
end Go.Proofs.Ytdchljjhajbehaa.Ex
