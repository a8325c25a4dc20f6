/- slices.Replace of extents, road by road. -/
import Derived.Test.YtdchljjhajbehaaEC
import Derived.OwnWalk
import Derived.Deep.QuietTactic
import Derived.BigQuiet
namespace Go.Proofs.Ytdchljjhajbehaa.Ex
open Go.RowKit Go.Proofs.Ytdchljjhajbehaa.Print Go.Proofs.YtdchljjhajbehaaW.PrintWords Go.Proofs.YtdchljjhajbehaaW.PrintLast Go.Proofs.YtdchljjhajbehaaW.PrintMore
set_option linter.unusedVariables false
set_option linter.unusedSimpArgs false
/-- what is put in: nothing at all, or a row in a block of its own -/
structure Arg (W : World) (g : Nat) (ao : Option Addr) (m vc : Nat) (vs : List Value) : Prop where
  len : vs.length = m * 2
  le : m ≤ vc
  max : vc ≤ 9223372036854775807
  one : ∀ v ∈ vs, v.oneCell' = true
  none_ : ao = none → m = 0 ∧ vc = 0
  row : ∀ ad, ao = some ad → ∃ vb, vb ≠ g ∧ ad = ⟨vb, 0, none⟩ ∧ Row W vb m vc vs
theorem Arg.cells {W : World} {g m vc : Nat} {ao : Option Addr} {vs : List Value} (h : Arg W g ao m vc vs) : ∀ ad, ao = some ad → ∀ j u, vs[j]? = some u → W.cell? (ad.add j) = some u := fun ad e j u hj => by
  obtain ⟨vb, _, rfl, hr⟩ := h.row ad e
  rw [add_plain]
  exact hr.cell hj
theorem Arg.far {W W1 : World} {g g' m vc : Nat} {ao : Option Addr} {vs : List Value} (h : Arg W g ao m vc vs) (hg : W.grownBy W1 (some g)) : Arg W1 g ao m vc vs :=
  ⟨h.len, h.le, h.max, h.one, h.none_, fun ad e => by obtain ⟨vb, a, b, c⟩ := h.row ad e; exact ⟨vb, a, b, c.far hg a⟩⟩
theorem Row.of_row {W : World} {g n c : Nat} {xs : List Value} (h : W.ownsRow 0 31 2 (.slice (some ⟨g, 0, none⟩) n c) n xs) (h1 : ∀ v ∈ xs, v.oneCell' = true) : Row W g n c xs := by
  obtain ⟨g', c', e, r⟩ := Row.of_owns h (by simp) h1
  simp only [Value.slice.injEq, Option.some.injEq, Addr.mk.injEq, and_true, true_and] at e
  obtain ⟨rfl, rfl⟩ := e
  exact r
/-- cells behind a row's own are written: the row stays -/
theorem Row.beyond {W : World} {g n c q : Nat} {xs vs : List Value} (h : Row W g n c xs) (hq : n * 2 ≤ q) (hfit : q + vs.length ≤ c * 2) : Row (W.setCells g q vs) g n c xs ∧ W.grownBy (W.setCells g q vs) (some g) := by
  obtain ⟨cur, h1, h2, h3⟩ := h.ex
  obtain ⟨cur', k3, k4, k5⟩ := setCells_row vs q W cur h1 (by omega)
  obtain ⟨s1, s2, s3, s4⟩ := setCells_same g vs q W
  have hn := h.le
  refine ⟨⟨⟨cur', k3, by rw [k4, h2], ?_⟩, h.le, h.max, h.one⟩, s1, s2, s3, by rw [s4]; exact Nat.le_refl _, fun k _ hk => setCells_far vs _ k (fun he => hk (by rw [he]))⟩
  rw [k5, List.append_assoc, List.take_append_of_le_length (by rw [List.length_take, Array.length_toList, h2]; omega), List.take_take, Nat.min_eq_left hq, h3]
/-- the end of a row that is cut is cleared -/
theorem clear_law {P : Program} {ops : Array Oper} {rest : List Oper} {o : Oper} {a : Act} {Q : Exit → Act → World → Prop} {W : World} (hP : P = Try.prog) (hgd : o.guard = none) (hd : o.dst = none) (x : Operand) (ho : o.op = .call { callee := .builtin .clear, args := #[x], argTypes := #[27] }) {g n c l lc : Nat} {xs : List Value}
    (hx : a.eval x = .slice (some ⟨g, n * 2, none⟩) l lc) (hr : Row W g n c xs) (hl : 0 < l) (hlc : n + l ≤ c) (h : ∀ W1, Row W1 g n c xs → W.grownBy W1 (some g) → wpList P ops Q rest a W1) : wpList P ops Q (o :: rest) a W := by
  subst hP
  obtain ⟨cur, h1, h2, h3⟩ := hr.ex
  refine row_clear hgd hd x 27 31 ho hx Try.underlying27 (sz := 2) (z := .agg #[.int .i64 0, .int .i64 0]) (by kernel_rfl) rfl (by decide) (by simp [Value.oneCell', Value.cells]) h1 hl (by rw [h2]; omega) fun vs hvs => ?_
  obtain ⟨r1, r2⟩ := hr.beyond (q := n * 2) (vs := vs) (Nat.le_refl _) (by rw [hvs]; omega)
  exact h _ r1 r2
set_option maxHeartbeats 4000000 in
set_option maxRecDepth 100000 in
theorem rep_end_in (g n c i m vc : Nat) (ao : Option Addr) (xs vs : List Value) (w : World) (hs : Row w g n c xs) (hv : Arg w g ao m vc vs) (hi : i < n) (him : i + m ≤ n) (hn : n ≤ 1000000) :
    Calls Try.prog 30 #[.slice (some ⟨g, 0, none⟩) n c, .int .i64 (i : Int), .int .i64 (n : Int), .slice ao m vc] w (Put w g (i + m) (xs.take (i * 2) ++ vs)) := by
  obtain ⟨i0, hi0, hz0, hzs, hzb⟩ := info_parts info31
  have HS := Aside0.mk hs
  have HV := Aside0.mk hv
  have hc1 := hs.le
  have hc2 : c ≤ 9223372036854775807 := by have := hs.max; unfold maxLen at this; omega
  have hvc := hv.le
  have hvc2 := hv.max
  have hz2 : ¬ ((i : Int) = (n : Int)) := by omega
  have hin : (i : Int) ≤ (n : Int) := by omega
  have hci : ¬ (c = i) := by omega
  have hcim : ¬ (c = i + m) ∨ i + m = n := by omega
  have hown := (hs.take i (by omega)).owns
  have HO := Aside0.mk hown
  have hfit : i + m ≤ c := by omega
  have H1 := Aside0.mk him
  clear hs hv hown
  by_cases hlt : i + m < n
  · have hq1 : ((i + m : Nat) : Int) < (n : Int) := by omega
    have hq2 : (i : Int) + (m : Int) < (n : Int) := by omega
    have hq3 : (i : Int) + (m : Int) ≤ (n : Int) := by omega
    have hq4 : ¬ (c = i + m) := by omega
    have hq5 : ((i : Int) + (m : Int)).toNat = i + m := by omega
    have hq6 : (0 : Int) ≤ (i : Int) + (m : Int) := by omega
    go_enter Try.func30, Try.ntmps30
    go_wp2_with (first
      | (at_builtin; refine wpList_append_fits_any w rfl _ _ 27 rfl 0 31 i0 2 Try.underlying27 hi0 hzs g i c (xs.take (i * 2)) rfl HO.out ao m vc vs rfl HV.out.len HV.out.none_ HV.out.cells HV.out.one hfit ?_; intro w1 hown1 hgrow1; have HO1 := Aside0.mk hown1; have HG1 := Aside0.mk hgrow1; clear hown1 hgrow1)
      | (refine clear_law (n := i + m) (l := n - (i + m)) (lc := c - (i + m)) (c := c) rfl rfl rfl _ rfl rfl (Row.of_row HO1.out (fun v hv => by rcases List.mem_append.1 hv with h | h; exact HS.out.one v (List.mem_of_mem_take h); exact HV.out.one v h)) (by omega) (by omega) ?_; intro w2 hr2 hg2; have HR2 := Aside0.mk hr2; have HG2 := Aside0.mk hg2; clear hr2 hg2))
    go_ret
    exact ⟨g, c, rfl, HR2.out, .inl rfl, grown_new HG1.out HG2.out (.inl rfl)⟩
  · have hq1 : ¬ ((i + m : Nat) : Int) < (n : Int) := by omega
    have hq2 : ¬ (i : Int) + (m : Int) < (n : Int) := by omega
    go_enter Try.func30, Try.ntmps30
    go_wp2_with (at_builtin; refine wpList_append_fits_any w rfl _ _ 27 rfl 0 31 i0 2 Try.underlying27 hi0 hzs g i c (xs.take (i * 2)) rfl HO.out ao m vc vs rfl HV.out.len HV.out.none_ HV.out.cells HV.out.one hfit ?_; intro w1 hown1 hgrow1; have HO1 := Aside0.mk hown1; have HG1 := Aside0.mk hgrow1; clear hown1 hgrow1)
    go_ret
    exact ⟨g, c, rfl, Row.of_row HO1.out (fun v hv => by rcases List.mem_append.1 hv with h | h; exact HS.out.one v (List.mem_of_mem_take h); exact HV.out.one v h), .inl rfl, HG1.out⟩
set_option maxHeartbeats 4000000 in
set_option maxRecDepth 100000 in
theorem rep_end_over (g n c i vb m vc : Nat) (xs vs : List Value) (w : World) (hs : Row w g n c xs) (hv : Row w vb m vc vs) (hi : i < n) (him : n < i + m) (hnm : n + m ≤ 1000000) :
    Calls Try.prog 30 #[.slice (some ⟨g, 0, none⟩) n c, .int .i64 (i : Int), .int .i64 (n : Int), .slice (some ⟨vb, 0, none⟩) m vc] w (Put w g (i + m) (xs.take (i * 2) ++ vs)) := by
  obtain ⟨i0, hi0, hz0, hzs, hzb⟩ := info_parts info31
  have HS := Aside0.mk hs
  have HV := Aside0.mk hv
  have hc1 := hs.le
  have hc2 : c ≤ 9223372036854775807 := by have := hs.max; unfold maxLen at this; omega
  have hvc := hv.le
  have hvc2 : vc ≤ 9223372036854775807 := by have := hv.max; unfold maxLen at this; omega
  have hz2 : ¬ ((i : Int) = (n : Int)) := by omega
  have hin : (i : Int) ≤ (n : Int) := by omega
  have hci : ¬ (c = i) := by omega
  have HT := Aside0.mk (hs.take i (by omega))
  have H1 := Aside0.mk him
  clear hs hv
  have hq1 : ¬ ((i + m : Nat) : Int) < (n : Int) := by omega
  have hq2 : ¬ (i : Int) + (m : Int) < (n : Int) := by omega
  go_enter Try.func30, Try.ntmps30
  go_wp2_with (at_builtin; refine wpList_append_own_at w rfl _ _ 27 rfl 0 31 i0 _ 2 16 Try.underlying27 hi0 hz0 hzs hzb rfl (by decide) (.slice (some ⟨g, 0, none⟩) i c) i (xs.take (i * 2)) rfl HT.out.owns ⟨vb, 0, none⟩ m vc vs rfl HV.out.len HV.out.news HV.out.one (by unfold maxLen; omega) (by omega) (Nat.zero_le _) ?_; intro v' w1 hown' hgrow hnil hat; have HO := Aside0.mk hown'; have HG := Aside0.mk hgrow; have HN := Aside0.mk hnil; have HA := Aside0.mk hat; have hne : v' ≠ .slice none 0 0 := (fun e => by have := (HN.out.1 e).2; omega); obtain ⟨g', c', he, hr⟩ := Row.of_owns HO.out hne (fun v hv => by rcases List.mem_append.1 hv with h | h; exact HT.out.one v h; exact HV.out.one v h); subst he; have HR := Aside0.mk hr; clear hown' hgrow hnil hat hne hr)
  all_goals
    go_ret
    refine ⟨g', c', rfl, HR.out, ?_, HG.out⟩
    rcases HA.out with h | h
    · exact .inl (by simpa [Value.ownBlock] using h)
    · exact .inr (by have : g' = w.heap.size := by simpa [Value.ownBlock] using h
                     omega)
/-- copy(d, x): x nothing at all, or a row -/
theorem copy_any {ops : Array Oper} {rest : List Oper} {o : Oper} {a : Act} {Q : Exit → Act → World → Prop} {W : World} (d x : Operand) (g off dl dc m vc : Nat) (ao : Option Addr) (cur : Array Value) (vs : List Value) (hgd : o.guard = none)
    (ho : o.op = .call { callee := .builtin .copy, args := #[d, x], argTypes := #[27, 27] }) (hd : a.eval d = .slice (some ⟨g, off, none⟩) dl dc) (hx : a.eval x = .slice ao m vc)
    (hg : W.heap[g]? = some (.cells cur 31 (0, 0))) (hv : Arg W g ao m vc vs) (hm : m ≤ dl) (hfit : off + m * 2 ≤ cur.size)
    (h : ∀ w1, w1.heap[g]? = some (.cells (sp cur.toList off vs).toArray 31 (0, 0)) → W.grownBy w1 (some g) → wpList Try.prog ops Q rest (a.put o.dst (goInt m)) w1) : wpList Try.prog ops Q (o :: rest) a W := by
  cases ao with
  | some ad =>
    obtain ⟨vb, hne, rfl, hr⟩ := hv.row ad rfl
    refine copy_law d x g off dl dc vb 0 m vc cur vs hgd ho hd hx hg (by rw [hv.len, show Nat.min m dl = m from Nat.min_eq_left hm]) (fun j v hj => by rw [Nat.zero_add]; exact hr.cell hj) (by rw [hv.len]; exact hfit) hv.one fun w1 h1 h2 _ => ?_
    have := h w1 h1 h2
    rwa [show Nat.min m dl = m from Nat.min_eq_left hm]
  | none =>
    obtain ⟨rfl, rfl⟩ := hv.none_ rfl
    have hvs : vs = [] := List.eq_nil_of_length_eq_zero (by simpa using hv.len)
    subst hvs
    refine list_copy_run W hgd d x 27 27 ho _ _ hd hx (v' := goInt 0) (w' := W) ?_ (h W ?_ ⟨rfl, rfl, rfl, Nat.le_refl _, fun _ _ _ => rfl⟩)
    · obtain ⟨i0, hi0, hz0, hzs, hzb⟩ := info_parts info31
      simp [Builtin.copy_, run_underlying Try.underlying27, Builtin.lenOf, Builtin.firstCells, sizeOf, typeInfo, hi0, storeCells]
    · rw [hg]
      simp [sp]
set_option maxHeartbeats 4000000 in
set_option maxRecDepth 100000 in
theorem rep_expand (g n c i j vb m vc : Nat) (xs vs : List Value) (w : World) (hs : Row w g n c xs) (hv : Row w vb m vc vs) (hne : vb ≠ g) (hij : i < j) (hj : j < n) (him : j < i + m) (hroom : i + m + (n - j) ≤ c) (hnm : n + m ≤ 1000000) :
    Calls Try.prog 30 #[.slice (some ⟨g, 0, none⟩) n c, .int .i64 (i : Int), .int .i64 (j : Int), .slice (some ⟨vb, 0, none⟩) m vc] w (Put w g (i + m + (n - j)) (xs.take (i * 2) ++ (vs ++ xs.drop (j * 2)))) := by
  have HS := Aside0.mk hs
  have HV := Aside0.mk hv
  have hc1 := hs.le
  have hc2 : c ≤ 9223372036854775807 := by have := hs.max; unfold maxLen at this; omega
  have hvc := hv.le
  have hvc2 : vc ≤ 9223372036854775807 := by have := hv.max; unfold maxLen at this; omega
  have HX := Aside0.mk hs.len
  have HY := Aside0.mk hv.len
  obtain ⟨cur, hg, hcs, hct⟩ := hs.ex
  obtain ⟨vcur, hvg, hvs, hvt⟩ := hv.ex
  have HG := Aside0.mk hg
  have HC := Aside0.mk hcs
  have HT := Aside0.mk hct
  have hv0 : 0 < vcur.size := by rw [hvs]; omega
  have hov1 : ∀ (W : World), W.heap = w.heap → ∀ off lb cb, (callFunc 43 #[.slice (some ⟨g, off, none⟩) lb cb, .slice (some ⟨vb, 0, none⟩) m vc]).run Try.prog W = .ok (.value (.bool false)) W := fun W hW off lb cb => hov' W g vb off m vc lb cb vcur cur hne.symm (by rw [hW]; exact hvg) (by rw [hW]; exact hg) hv0
  have hovv : ∀ q off lb cb, (callFunc 43 #[.slice (some ⟨g, off, none⟩) lb cb, .slice (some ⟨vb, 0, none⟩) m vc]).run Try.prog (w.drewN q) = .ok (.value (.bool false)) (w.drewN q) := fun q => hov1 (w.drewN q) rfl
  have HNE := Aside0.mk hne
  clear hg hvg hcs hvs hct hvt hs hv hne hov1 hv0
  have hz2 : ¬ ((i : Int) = (j : Int)) := by omega
  have hz3 : ¬ ((j : Int) = (n : Int)) := by omega
  have hin : (i : Int) ≤ (n : Int) := by omega
  have hjn : (j : Int) ≤ (n : Int) := by omega
  have hijz : (i : Int) ≤ (j : Int) := by omega
  have hci : ¬ (c = i) := by omega
  have hcj : ¬ (c = j) := by omega
  have ht1 : IntKind.i64.wrap ((i : Int) + (m : Int)) = (i : Int) + (m : Int) := by rw [IntKind.wrap_i64]; omega
  have ht2 : IntKind.i64.wrap ((i : Int) + (m : Int) + ((n - j : Nat) : Int)) = ((i + m + (n - j) : Nat) : Int) := by rw [IntKind.wrap_i64]; omega
  have ht3 : ¬ ((c : Int) < ((i + m + (n - j) : Nat) : Int)) := by omega
  have ht4 : ((i + m + (n - j) : Nat) : Int) ≤ (c : Int) := by omega
  have ht5 : ¬ ((i : Int) + (m : Int) ≤ (j : Int)) := by omega
  have ht6 : (0 : Int) ≤ (i : Int) + (m : Int) := by omega
  have ht7 : ((i : Int) + (m : Int)).toNat = i + m := by omega
  have ht8 : ¬ (c = i + m) := by omega
  have ht9 : (i : Int) + (m : Int) ≤ ((i + m + (n - j) : Nat) : Int) := by omega
  have hta : (i : Int) ≤ ((i + m + (n - j) : Nat) : Int) := by omega
  have htb : (0 : Int) ≤ ((i + m + (n - j) : Nat) : Int) := by omega
  have htc : i + m + (n - j) - (i + m) = n - j := by omega
  have htd : (i : Int) + (m : Int) ≤ (i : Int) + (m : Int) + ((n - j : Nat) : Int) := by omega
  have hte : (i : Int) ≤ (i : Int) + (m : Int) + ((n - j : Nat) : Int) := by omega
  go_enter Try.func30, Try.ntmps30
  go_wp2
  go_quiet (fail)
  go_wp2_with (simp only [hovv])
  go_region_law (refine copy_step _ _ g ((i + m) * 2) (n - j) (c - (i + m)) g (j * 2) (n - j) (c - j) cur (xs.drop (j * 2)) rfl rfl (by simp [Act.eval, Act.put]) (by simp [Act.eval, Act.put]) HG.out (by rw [List.length_drop, HX.out]; simp only [Nat.min_def]; split <;> omega) (fun j v hj => by rw [List.getElem?_drop] at hj; exact HS.out.cell hj) (by rw [List.length_drop, HX.out, HC.out]; omega) (fun v hv => HS.out.one v (List.mem_of_mem_drop hv)) ?_; intro W2 h2 g2 s2; have H2 := Aside0.mk h2; have G2 := Aside0.mk g2; have S2 := Aside0.mk s2; clear h2 g2 s2)
  have hV2 : Arg W2 g (some ⟨vb, 0, none⟩) m vc vs := ⟨HY.out, hvc, hvc2, HV.out.one, (fun h => by cases h), fun ad e => ⟨vb, HNE.out, (Option.some.inj e).symm, HV.out.far (show w.grownBy W2 (some g) from ⟨G2.out.os, G2.out.tape, G2.out.output, G2.out.size, G2.out.block⟩) HNE.out⟩⟩
  have HV2 := Aside0.mk hV2
  clear hV2
  go_wp2_with ((with_reducible refine gate_dst (N := 135) rfl ?_); refine copy_any _ _ g (i * 2) (i + m + (n - j) - i) (c - i) m vc (some ⟨vb, 0, none⟩) (sp cur.toList ((i + m) * 2) (xs.drop (j * 2))).toArray vs rfl rfl rfl rfl H2.out HV2.out (by omega) (by rw [List.size_toArray, sp_length (by rw [List.length_drop, HX.out, Array.length_toList, HC.out]; omega), Array.length_toList, HC.out]; omega) ?_; intro W3 h3 g3; have H3 := Aside0.mk h3; have G3 := Aside0.mk g3; clear h3 g3)
  go_ret
  have hCL : cur.toList.length = c * 2 := by rw [Array.length_toList]; exact HC.out
  have e1 : (i + m) * 2 = i * 2 + vs.length := by rw [HY.out]; omega
  have e2 : (i + m + (n - j)) * 2 = i * 2 + vs.length + (xs.drop (j * 2)).length := by rw [List.length_drop, HX.out, HY.out]; omega
  refine ⟨g, c, rfl, ⟨⟨_, H3.out, ?_, ?_⟩, hroom, by unfold maxLen; omega, ?_⟩, .inl rfl, ?_⟩
  · rw [List.size_toArray, sp_length, List.toList_toArray, sp_length, hCL]
    · rw [List.length_drop, HX.out, hCL]; omega
    · rw [List.toList_toArray, sp_length (by rw [List.length_drop, HX.out, hCL]; omega), hCL, HY.out]; omega
  · rw [e1, e2, List.toList_toArray, List.toList_toArray, sp_sp2 _ _ _ _ (by rw [HY.out, hCL, List.length_drop, HX.out]; omega)]
    congr 1
    rw [← HT.out, List.take_take, Nat.min_eq_left (by omega)]
  · intro v hv
    rcases List.mem_append.1 hv with h | h
    · exact HS.out.one v (List.mem_of_mem_take h)
    · rcases List.mem_append.1 h with h | h
      · exact HV.out.one v h
      · exact HS.out.one v (List.mem_of_mem_drop h)
  · exact grown_new (show w.grownBy W2 (some g) from ⟨G2.out.os, G2.out.tape, G2.out.output, G2.out.size, G2.out.block⟩) G3.out (.inl rfl)
theorem sp_get (l : List Value) (o : Nat) (cs : List Value) (k : Nat) (h : o + cs.length ≤ l.length) (hk : o + cs.length ≤ k) : (sp l o cs)[k]? = l[k]? := by
  unfold sp
  have : (l.take o ++ cs).length = o + cs.length := by rw [List.length_append, List.length_take]; omega
  rw [List.getElem?_append_right (by omega), this, List.getElem?_drop]
  congr 1
  omega
theorem clear_none {ops : Array Oper} {rest : List Oper} {o : Oper} {a : Act} {Q : Exit → Act → World → Prop} {W : World} (hgd : o.guard = none) (hd : o.dst = none) (x : Operand) (ho : o.op = .call { callee := .builtin .clear, args := #[x], argTypes := #[27] }) {ao : Option Addr} {l lc : Nat}
    (hx : a.eval x = .slice ao l lc) (hl : l = 0) (h : wpList Try.prog ops Q rest a W) : wpList Try.prog ops Q (o :: rest) a W := by
  subst hl
  refine Kd.event_run hgd (v := .tuple #[]) (w1 := W) ?_ (by rw [hd]; exact h)
  obtain ⟨i0, hi0, hz0, hzs, hzb⟩ := info_parts info31
  unfold execOp
  cases ao <;> simp [ho, resolve, hx, invoke, builtin, Builtin.clear_, run_underlying Try.underlying27, zeroValue, typeInfo, hi0, hz0, storeCells, Builtin.zeroCells]
/-- how the row stands when v and what was behind are laid, from the front -/
theorem fit_row {W1 : World} {g n c i j m : Nat} {cur : Array Value} {xs vs : List Value} (hi : i + m ≤ j) (hj : j < n) (hn : n ≤ c) (hc : c ≤ maxLen) (hX : xs.length = n * 2) (hY : vs.length = m * 2) (hC : cur.size = c * 2) (hT : cur.toList.take (n * 2) = xs) (h1 : ∀ v ∈ xs, v.oneCell' = true) (h2 : ∀ v ∈ vs, v.oneCell' = true)
    (h : W1.heap[g]? = some (.cells (sp (sp cur.toList (i * 2) vs).toArray.toList ((i + m) * 2) (xs.drop (j * 2))).toArray 31 (0, 0))) : Row W1 g (i + m + (n - j)) c (xs.take (i * 2) ++ (vs ++ xs.drop (j * 2))) := by
  have hCL : cur.toList.length = c * 2 := by rw [Array.length_toList]; exact hC
  have hDL : (xs.drop (j * 2)).length = (n - j) * 2 := by rw [List.length_drop, hX]; omega
  rw [List.toList_toArray] at h
  have e1 : (i + m) * 2 = i * 2 + vs.length := by rw [hY]; omega
  have e2 : (i + m + (n - j)) * 2 = i * 2 + vs.length + (xs.drop (j * 2)).length := by rw [hDL, hY]; omega
  refine ⟨⟨_, h, ?_, ?_⟩, by omega, hc, ?_⟩
  · rw [List.size_toArray, sp_length, sp_length, hCL]
    · rw [hY, hCL]; omega
    · rw [sp_length (by rw [hY, hCL]; omega), hDL, hCL]; omega
  · rw [e1, e2, List.toList_toArray, sp_sp _ _ _ _ (by rw [hY, hCL, hDL]; omega)]
    congr 1
    rw [← hT, List.take_take, Nat.min_eq_left (by omega)]
  · intro v hv
    rcases List.mem_append.1 hv with h | h
    · exact h1 v (List.mem_of_mem_take h)
    · rcases List.mem_append.1 h with h | h
      · exact h2 v h
      · exact h1 v (List.mem_of_mem_drop h)
set_option maxHeartbeats 8000000 in
set_option maxRecDepth 100000 in
theorem rep_fit (g n c i j m vc : Nat) (ao : Option Addr) (xs vs : List Value) (w : World) (hs : Row w g n c xs) (hv : Arg w g ao m vc vs) (hij : i < j) (hj : j < n) (him : i + m ≤ j) (hn : n ≤ 1000000) :
    Calls Try.prog 30 #[.slice (some ⟨g, 0, none⟩) n c, .int .i64 (i : Int), .int .i64 (j : Int), .slice ao m vc] w (Put w g (i + m + (n - j)) (xs.take (i * 2) ++ (vs ++ xs.drop (j * 2)))) := by
  have HS := Aside0.mk hs
  have HV := Aside0.mk hv
  have hc1 := hs.le
  have hc0 := hs.max
  have hc2 : c ≤ 9223372036854775807 := by unfold maxLen at hc0; omega
  have HC0 := Aside0.mk hc0
  have hvc := hv.le
  have hvc2 := hv.max
  have HX := Aside0.mk hs.len
  have HY := Aside0.mk hv.len
  obtain ⟨cur, hg, hcs, hct⟩ := hs.ex
  have HG := Aside0.mk hg
  have HC := Aside0.mk hcs
  have HT := Aside0.mk hct
  have HGET : Aside0 (∀ k v, (xs.drop (j * 2))[k]? = some v → (sp cur.toList (i * 2) vs).toArray[j * 2 + k]? = some v) := ⟨fun k v hk => by
    rw [List.getElem?_toArray, sp_get _ _ _ _ (by rw [HY.out, Array.length_toList, hcs]; omega) (by rw [HY.out]; omega)]
    rw [List.getElem?_drop, ← hct, List.getElem?_take] at hk
    split at hk
    · exact hk
    · cases hk⟩
  clear hg hcs hct hs hv hc0
  have hz2 : ¬ ((i : Int) = (j : Int)) := by omega
  have hz3 : ¬ ((j : Int) = (n : Int)) := by omega
  have hin : (i : Int) ≤ (n : Int) := by omega
  have hjn : (j : Int) ≤ (n : Int) := by omega
  have hijz : (i : Int) ≤ (j : Int) := by omega
  have hci : ¬ (c = i) := by omega
  have hcj : ¬ (c = j) := by omega
  have ht1 : IntKind.i64.wrap ((i : Int) + (m : Int)) = (i : Int) + (m : Int) := by rw [IntKind.wrap_i64]; omega
  have ht2 : IntKind.i64.wrap ((i : Int) + (m : Int) + ((n - j : Nat) : Int)) = ((i + m + (n - j) : Nat) : Int) := by rw [IntKind.wrap_i64]; omega
  have ht3 : ¬ ((c : Int) < ((i + m + (n - j) : Nat) : Int)) := by omega
  have ht4 : ((i + m + (n - j) : Nat) : Int) ≤ (c : Int) := by omega
  have ht5 : (i : Int) + (m : Int) ≤ (j : Int) := by omega
  have ht6 : (0 : Int) ≤ (i : Int) + (m : Int) := by omega
  have ht7 : ((i : Int) + (m : Int)).toNat = i + m := by omega
  have ht8 : ¬ (c = i + m) := by omega
  have ht9 : (i : Int) + (m : Int) ≤ ((i + m + (n - j) : Nat) : Int) := by omega
  have hta : (i : Int) ≤ ((i + m + (n - j) : Nat) : Int) := by omega
  have htb : (0 : Int) ≤ ((i + m + (n - j) : Nat) : Int) := by omega
  have htc : i + m + (n - j) - (i + m) = n - j := by omega
  have htd : (i : Int) + (m : Int) ≤ (i : Int) + (m : Int) + ((n - j : Nat) : Int) := by omega
  have hte : (i : Int) ≤ (i : Int) + (m : Int) + ((n - j : Nat) : Int) := by omega
  have htf : (i : Int) + (m : Int) + ((n - j : Nat) : Int) ≤ (n : Int) := by omega
  have htg : ((i : Int) + (m : Int) + ((n - j : Nat) : Int)).toNat = i + m + (n - j) := by omega
  have hth : (0 : Int) ≤ (i : Int) + (m : Int) + ((n - j : Nat) : Int) := by omega
  have htk : ((i + m + (n - j) : Nat) : Int) ≤ (n : Int) := by omega
  have body : ∀ (P : Prop), P → P := fun _ h => h
  by_cases hT : i + m < j
  · have hcT : ¬ (c = i + m + (n - j)) := by omega
    go_enter Try.func30, Try.ntmps30
    go_wp2
    go_quiet (fail)
    go_wp2_with ((with_reducible refine gate_dst (N := 97) rfl ?_); refine copy_any _ _ g (i * 2) (i + m + (n - j) - i) (c - i) m vc ao cur vs rfl rfl rfl rfl HG.out (show Arg _ g ao m vc vs from ⟨HY.out, hvc, hvc2, HV.out.one, HV.out.none_, fun ad e => by obtain ⟨vb, a, b, cc⟩ := HV.out.row ad e; exact ⟨vb, a, b, cc.same rfl⟩⟩) (by omega) (by rw [HC.out]; omega) ?_; intro W2 h2 g2; have H2 := Aside0.mk h2; have G2 := Aside0.mk g2; clear h2 g2)
    go_region_law (refine copy_step _ _ g ((i + m) * 2) (n - j) (c - (i + m)) g (j * 2) (n - j) (c - j) (sp cur.toList (i * 2) vs).toArray (xs.drop (j * 2)) rfl rfl (by simp [Act.eval, Act.put]) (by simp [Act.eval, Act.put]) H2.out (by rw [List.length_drop, HX.out]; simp only [Nat.min_def]; split <;> omega) (fun k v hk => (blk_cell H2.out _).trans (HGET.out k v hk)) (by rw [List.length_drop, HX.out, List.size_toArray, sp_length (by rw [HY.out, Array.length_toList, HC.out]; omega), Array.length_toList, HC.out]; omega) (fun v hv => HS.out.one v (List.mem_of_mem_drop hv)) ?_; intro W3 h3 g3 s3; have H3 := Aside0.mk h3; have G3 := Aside0.mk g3; clear h3 g3 s3)
    have HR := Aside0.mk (fit_row him hj hc1 HC0.out HX.out HY.out HC.out HT.out HS.out.one HV.out.one H3.out)
    go_wp2_with (refine clear_law (n := i + m + (n - j)) (l := n - (i + m + (n - j))) (lc := c - (i + m + (n - j))) (c := c) rfl rfl rfl _ rfl rfl (HR.out.same rfl) (by omega) (by omega) ?_; intro w4 hr4 hg4; have HR4 := Aside0.mk hr4; have HG4 := Aside0.mk hg4; clear hr4 hg4)
    go_ret
    exact ⟨g, c, rfl, HR4.out, .inl rfl, grown_new (grown_new (show w.grownBy W2 (some g) from ⟨G2.out.os, G2.out.tape, G2.out.output, G2.out.size, G2.out.block⟩) ⟨G3.out.os, G3.out.tape, G3.out.output, G3.out.size, G3.out.block⟩ (.inl rfl)) ⟨HG4.out.os, HG4.out.tape, HG4.out.output, HG4.out.size, HG4.out.block⟩ (.inl rfl)⟩
  · have HT3 := Aside0.mk (show n - (i + m + (n - j)) = 0 by omega)
    go_enter Try.func30, Try.ntmps30
    go_wp2
    go_quiet (fail)
    go_wp2_with ((with_reducible refine gate_dst (N := 97) rfl ?_); refine copy_any _ _ g (i * 2) (i + m + (n - j) - i) (c - i) m vc ao cur vs rfl rfl rfl rfl HG.out (show Arg _ g ao m vc vs from ⟨HY.out, hvc, hvc2, HV.out.one, HV.out.none_, fun ad e => by obtain ⟨vb, a, b, cc⟩ := HV.out.row ad e; exact ⟨vb, a, b, cc.same rfl⟩⟩) (by omega) (by rw [HC.out]; omega) ?_; intro W2 h2 g2; have H2 := Aside0.mk h2; have G2 := Aside0.mk g2; clear h2 g2)
    go_region_law (refine copy_step _ _ g ((i + m) * 2) (n - j) (c - (i + m)) g (j * 2) (n - j) (c - j) (sp cur.toList (i * 2) vs).toArray (xs.drop (j * 2)) rfl rfl (by simp [Act.eval, Act.put]) (by simp [Act.eval, Act.put]) H2.out (by rw [List.length_drop, HX.out]; simp only [Nat.min_def]; split <;> omega) (fun k v hk => (blk_cell H2.out _).trans (HGET.out k v hk)) (by rw [List.length_drop, HX.out, List.size_toArray, sp_length (by rw [HY.out, Array.length_toList, HC.out]; omega), Array.length_toList, HC.out]; omega) (fun v hv => HS.out.one v (List.mem_of_mem_drop hv)) ?_; intro W3 h3 g3 s3; have H3 := Aside0.mk h3; have G3 := Aside0.mk g3; clear h3 g3 s3)
    have HR := Aside0.mk (fit_row him hj hc1 HC0.out HX.out HY.out HC.out HT.out HS.out.one HV.out.one H3.out)
    go_wp2_with (refine clear_none (l := n - (i + m + (n - j))) rfl rfl _ rfl rfl HT3.out ?_)
    all_goals
      go_ret
      refine ⟨g, _, rfl, ?_, .inl rfl, grown_new (show w.grownBy W2 (some g) from ⟨G2.out.os, G2.out.tape, G2.out.output, G2.out.size, G2.out.block⟩) ⟨G3.out.os, G3.out.tape, G3.out.output, G3.out.size, G3.out.block⟩ (.inl rfl)⟩
      first | exact HR.out | (have hh := HR.out; rwa [‹c = i + m + (n - j)›] at hh)
end Go.Proofs.Ytdchljjhajbehaa.Ex
