/- cuts: an extent taken out of the hole at a place. (Written by genen.py.) -/
import Derived.Test.YtdchljjhajbehaaEM
namespace Go.Proofs.Ytdchljjhajbehaa.Ex
open Go.RowKit Go.Proofs.Ytdchljjhajbehaa.Print Go.Proofs.YtdchljjhajbehaaW.PrintWords Go.Proofs.YtdchljjhajbehaaW.PrintLast Go.Proofs.YtdchljjhajbehaaW.PrintMore Go.Proofs.Ytdchljjhajbehaa.Holes
set_option linter.unusedVariables false
set_option linter.unusedSimpArgs false
/-- nothing of what was there has turned but a map's struct and its row -/
structure Moved (w w' : World) (b g : Nat) : Prop where
  os : w'.os = w.os
  tape : w'.tape = w.tape
  output : w'.output = w.output
  size : w.heap.size ≤ w'.heap.size
  block : ∀ q, q < w.heap.size → q ≠ b → q ≠ g → w'.heap[q]? = w.heap[q]?
theorem Moved.of_below {w w' : World} {b g : Nat} (h : Below w.heap.size w w') : Moved w w' b g := ⟨h.os, h.tape, h.output, h.size, fun q hq _ _ => h.block q hq⟩
theorem Moved.of_grown {w w' : World} {b g : Nat} (h : w.grownBy w' (some g)) : Moved w w' b g := ⟨h.os, h.tape, h.output, h.size, fun q hq _ hg => h.block q hq (fun e => hg (Option.some.inj e))⟩
theorem Moved.trans {w w1 w2 : World} {b g g' : Nat} (h : Moved w w1 b g) (k : Moved w1 w2 b g') (hg : g' = g ∨ w.heap.size ≤ g') : Moved w w2 b g :=
  ⟨k.os.trans h.os, k.tape.trans h.tape, k.output.trans h.output, Nat.le_trans h.size k.size, fun q hq h1 h2 => (k.block q (Nat.lt_of_lt_of_le hq h.size) h1 (by rcases hg with rfl | hg; exact h2; omega)).trans (h.block q hq h1 h2)⟩
theorem Moved.below {w0 w w' : World} {b g : Nat} (h : Moved w w' b g) (hB : Below w0.heap.size w0 w) (hb : w0.heap.size ≤ b) (hg : w0.heap.size ≤ g) : Below w0.heap.size w0 w' :=
  ⟨h.os.trans hB.os, h.tape.trans hB.tape, h.output.trans hB.output, Nat.le_trans hB.size h.size, fun q hq => (h.block q (Nat.lt_of_lt_of_le hq hB.size) (by omega) (by omega)).trans (hB.block q hq)⟩
theorem Moved.set {w : World} {b g : Nat} (j : Nat) (v : Value) : Moved w (w.setCell ⟨b, j, none⟩ v) b g := ⟨rfl, rfl, rfl, by simp [World.setCell], fun q _ hq _ => Below.heap_setCell w ⟨b, j, none⟩ v q hq⟩
/-- what Alloc, Take and Free leave -/
def Left_ (w : World) (b g : Nat) (n : Int) (hs : List Ext) (w' : World) : Prop := ∃ g' c', MapAt w' b g' c' n hs ∧ (g' = g ∨ w.heap.size ≤ g') ∧ Moved w w' b g
theorem wp_letter {P : Program} {c : Code} {Q : Exit → Act → World → Prop} {a : Act} {W : World} (F : World → Prop) (hF : F W) (h : ∀ W', F W' → c.wp P Q a W') : c.wp P Q a W := h W hF
theorem new_cell (V : World) (cs : Array Value) (t : TypeId) (B : Nat) (hB : B = V.heap.size) (j : Nat) : (V.alloc (.cells cs t)).cell? ⟨B, j, none⟩ = cs[j]? := by
  subst hB
  rw [blk_cell (heap_alloc_new V _)]
theorem own_below31 {W W1 : World} {v : Value} {m : Nat} {xs : List Value} (h : W.ownsRow 0 31 2 v m xs) (hb : Below W.heap.size W W1) : W1.ownsRow 0 31 2 v m xs :=
  own_move h (fun k hk => hb.block k (own_lt h k hk))
theorem own_alloc31 {W : World} {v : Value} {m : Nat} {xs : List Value} (h : W.ownsRow 0 31 2 v m xs) (o : Obj) : (W.alloc o).ownsRow 0 31 2 v m xs := own_below31 h (below_alloc (Below.refl _ _) o)
theorem wrap_succ {k : Nat} (h : k < 1000000) : wrap64 ((k : Int) + 1) = (k : Int) + 1 := by unfold wrap64; omega
theorem wrap_succ' {k : Nat} (h : k < 1000000) : IntKind.i64.wrap ((k : Int) + 1) = (k : Int) + 1 := by rw [IntKind.wrap_i64]; omega
theorem new_blk (V : World) (o : Obj) (B : Nat) (hB : B = V.heap.size) : (V.alloc o).heap[B]? = some o := by
  subst hB
  exact heap_alloc_new V _
/-- what holds ahead of the test behind the first part: the two variables, the part -/
structure Mid (w : World) (e1 e2 x1 x2 : Int) (v : Value) (m : Nat) (xs : List Value) (W : World) : Prop where
  c0 : W.cell? ⟨w.heap.size, 0, none⟩ = some (.int .i64 e1)
  c1 : W.cell? ⟨w.heap.size, 1, none⟩ = some (.int .i64 e2)
  c2 : W.cell? ⟨w.heap.size + 1, 0, none⟩ = some (.int .i64 x1)
  c3 : W.cell? ⟨w.heap.size + 1, 1, none⟩ = some (.int .i64 x2)
  below : Below w.heap.size w W
  own : W.ownsRow 0 31 2 v m xs
  new : ∀ q, v.ownBlock = some q → w.heap.size + 2 ≤ q
theorem Mid.then {w : World} {e1 e2 x1 x2 : Int} {v : Value} {m : Nat} {xs : List Value} {W W1 : World} (h : Mid w e1 e2 x1 x2 v m xs W) (hb : Below W.heap.size W W1) : Mid w e1 e2 x1 x2 v m xs W1 :=
  ⟨pw_cell_below hb h.c0, pw_cell_below hb h.c1, pw_cell_below hb h.c2, pw_cell_below hb h.c3, below_then h.below h.below.size hb, own_below31 h.own hb, h.new⟩
theorem Mid.nil {w : World} {e1 e2 x1 x2 : Int} {v : Value} {m : Nat} {xs : List Value} {W : World} (h : Mid w e1 e2 x1 x2 v m xs W) : Mid w e1 e2 x1 x2 (.slice none 0 0) 0 [] W :=
  ⟨h.c0, h.c1, h.c2, h.c3, h.below, World.ownsRow_nil _ _ _ _, fun q hq => by simp [Value.ownBlock] at hq⟩
theorem Mid.grown {w : World} {e1 e2 x1 x2 : Int} {W W1 : World} {row : Option Nat} (h : Mid w e1 e2 x1 x2 (.slice none 0 0) 0 [] W) (hg : W.grownBy W1 row) (hr : ∀ q, row = some q → w.heap.size + 2 ≤ q) : Mid w e1 e2 x1 x2 (.slice none 0 0) 0 [] W1 := by
  have h0 : ∀ j, some (⟨w.heap.size, j, none⟩ : Addr).block ≠ row := fun j e => by have := hr _ e.symm; dsimp only at this; omega
  have h1 : ∀ j, some (⟨w.heap.size + 1, j, none⟩ : Addr).block ≠ row := fun j e => by have := hr _ e.symm; dsimp only at this; omega
  exact ⟨hg.cell h.c0 (h0 0), hg.cell h.c1 (h0 1), hg.cell h.c2 (h1 0), hg.cell h.c3 (h1 1), h.below.grown hg h.below.size (fun k hk => Nat.le_trans (Nat.le_add_right _ 2) (hr k hk)), World.ownsRow_nil _ _ _ _, fun q hq => by simp [Value.ownBlock] at hq⟩
theorem Mid.size {w : World} {e1 e2 x1 x2 : Int} {v : Value} {m : Nat} {xs : List Value} {W : World} (h : Mid w e1 e2 x1 x2 v m xs W) : w.heap.size + 2 ≤ W.heap.size := World.block_lt_of_cell? _ _ h.c2
theorem below_undrew {w w1 : World} (h : Below w.drew.heap.size w.drew w1) : Below w.heap.size w w1 := ⟨h.os, h.tape, h.output, h.size, h.block⟩
theorem Mid.start (w : World) (e1 e2 x1 x2 : Int) : Mid w e1 e2 x1 x2 (.slice none 0 0) 0 [] ((w.alloc (.cells #[.int .i64 e1, .int .i64 e2] 31)).alloc (.cells #[.int .i64 x1, .int .i64 x2] 31)) := by
  have h1 := blk_alloc (new_blk w (.cells #[.int .i64 e1, .int .i64 e2] 31) w.heap.size rfl) (.cells #[.int .i64 x1, .int .i64 x2] 31)
  have h2 := new_blk (w.alloc (.cells #[.int .i64 e1, .int .i64 e2] 31)) (.cells #[.int .i64 x1, .int .i64 x2] 31) (w.heap.size + 1) (by simp)
  exact ⟨(blk_cell h1 0).trans rfl, (blk_cell h1 1).trans rfl, (blk_cell h2 0).trans rfl, (blk_cell h2 1).trans rfl, below_alloc (below_alloc (Below.refl _ _) _) _, World.ownsRow_nil _ _ _ _, fun q hq => by simp [Value.ownBlock] at hq⟩
theorem Mid.first {w : World} {e1 e2 x1 x2 : Int} {o : Obj} {v : Value} {m : Nat} {xs : List Value} {W : World} (hg : (((w.alloc (.cells #[.int .i64 e1, .int .i64 e2] 31)).alloc (.cells #[.int .i64 x1, .int .i64 x2] 31)).alloc o).grownBy W (Value.slice none 0 0).ownBlock) (hown : W.ownsRow 0 31 2 v m xs)
    (hat : v.ownBlock = (Value.slice none 0 0).ownBlock ∨ v.ownBlock = some (((w.alloc (.cells #[.int .i64 e1, .int .i64 e2] 31)).alloc (.cells #[.int .i64 x1, .int .i64 x2] 31)).alloc o).heap.size) : Mid w e1 e2 x1 x2 v m xs W := by
  have h := (Mid.start w e1 e2 x1 x2).then (below_alloc (Below.refl _ _) o)
  have hne : ∀ a : Addr, some a.block ≠ (Value.slice none 0 0).ownBlock := fun a => by simp [Value.ownBlock]
  refine ⟨hg.cell h.c0 (hne _), hg.cell h.c1 (hne _), hg.cell h.c2 (hne _), hg.cell h.c3 (hne _), h.below.grown hg h.below.size (fun k hk => by simp [Value.ownBlock] at hk), hown, fun q hq => ?_⟩
  rcases hat with e | e
  · rw [e] at hq; simp [Value.ownBlock] at hq
  · rw [e] at hq
    have := Option.some.inj hq
    simp at this
    omega
/-- append(s, x..) of extents, in a region that draws -/
theorem append_step {K : Act → World → Prop} {ops : Array Oper} {o : Oper} {a : Act} {W : World} {Q : Exit → Act → World → Prop} {E : Prop} (hg : o.guard = none) (s x : Operand) (hop : o.op = .call { callee := .builtin .append, args := #[s, x], argTypes := #[27, 27] })
    (v : Value) (m : Nat) (xs : List Value) (hs : a.eval s = v) (hown : W.ownsRow 0 31 2 v m xs) (ad : Addr) (l lc : Nat) (news : List Value) (hx : a.eval x = .slice (some ad) l lc) (hl : news.length = l * 2) (hnews : ∀ j u, news[j]? = some u → W.cell? (ad.add j) = some u) (h1 : ∀ u ∈ news, u.oneCell' = true) (hm : m + l ≤ 1000000)
    (h : ∀ v' w', w'.ownsRow 0 31 2 v' (m + l) (xs ++ news) → W.grownBy w' v.ownBlock → (v' = .slice none 0 0 ↔ v = .slice none 0 0 ∧ l = 0) → (v'.ownBlock = v.ownBlock ∨ v'.ownBlock = some W.heap.size) → K (a.put o.dst v') w') :
    if Region.wanted o (yielded ops a.tmps) = true then Oper.wp Try.prog o a W K Q else E := by
  obtain ⟨i0, hi0, hz0, hzs, hzb⟩ := info_parts info31
  obtain ⟨v', w', hr, h2, h3, h4, h5⟩ := run_append_own_at (P := Try.prog) (w := W) 0 27 o.type 31 i0 _ 2 16 Try.underlying27 hi0 hz0 hzs hzb rfl (by decide) v m xs hown ad l lc news hl hnews h1 (by unfold maxLen; omega) (by omega) (Nat.zero_le _)
  have hw : Region.wanted o (yielded ops a.tmps) = true := by simp [Region.wanted, hg]
  rw [if_pos hw]
  unfold Oper.wp
  simp [execOp, hop, resolve, invoke, builtin, hs, hx, hr, Result.andThen]
  exact h v' w' h2 h3 h4 h5
/-- a row of extents of one's own that is none of what was there, as what is put in -/
theorem arg_of_own {w W : World} {g m : Nat} {v : Value} {xs : List Value} (h : W.ownsRow 0 31 2 v m xs) (h1 : ∀ u ∈ xs, u.oneCell' = true) (hg : g < w.heap.size) (hn : ∀ q, v.ownBlock = some q → w.heap.size ≤ q) : ∃ ao vc, v = .slice ao m vc ∧ Arg W g ao m vc xs := by
  rcases h.2 with ⟨rfl, rfl⟩ | ⟨r, cap, cur, rfl, _, hh, hnc, hcm, hcs, ht⟩
  · exact ⟨none, 0, rfl, by simpa using h.1, Nat.le_refl _, by decide, h1, fun _ => ⟨rfl, rfl⟩, fun ad e => by cases e⟩
  · refine ⟨some ⟨r, 0, none⟩, cap, rfl, h.1, hnc, by unfold maxLen at hcm; omega, h1, (fun e => by cases e), fun ad e => ⟨r, ?_, (Option.some.inj e).symm, ⟨⟨cur, hh, hcs, ht⟩, hnc, hcm, h1⟩⟩⟩
    have := hn r (by simp [Value.ownBlock])
    omega
set_option maxHeartbeats 16000000 in
set_option maxRecDepth 100000 in
theorem cuts_10 (b g c k : Nat) (n : Int) (hs : List Ext) (e1 e2 x1 x2 : Int) (w : World) (h : MapAt w b g c n hs) (hk : k < hs.length) (hx : hs[k] = (x1, x2)) (he : Sm e1 e2) (hx2 : Sm x1 x2) (hlen : hs.length ≤ 10000) (ha : x1 < e1) (hb : ¬ e1 + e2 < x1 + x2) :
    Calls Try.prog 33 #[.pointer (some ⟨b, 0, none⟩), .int .i64 (k : Int), .agg #[.int .i64 e1, .int .i64 e2]] w fun r w' => r = .returned (.tuple #[]) ∧ Left_ w b g n (hs.take k ++ Holes.rest (x1, x2) (e1, e2) ++ hs.drop (k + 1)) w' := by
  have hm0 : w.cell? ⟨b, 1, none⟩ = some (.slice (some ⟨g, 0, none⟩) hs.length c) := (blk_cell h.hd 1).trans rfl
  have HM := Aside0.mk h
  have hr := h.row.ext k hk
  rw [hx] at hr
  obtain ⟨hr0, hr1⟩ := hr
  have hk0 : (k : Int) < (hs.length : Int) := by omega
  have HK := Aside0.mk hk
  have HL := Aside0.mk hlen
  have hbl := h.lt.1
  have hgl := h.lt.2
  have HE := Aside0.mk he
  have HX := Aside0.mk hx2
  have hk1 := wrap_succ (k := k) (by omega)
  have hk2 := wrap_succ' (k := k) (by omega)
  have hk3 : k + 1 ≤ hs.length := hk
  have hk4 : hs.length + 1 ≤ 1000000 := by omega
  have HK3 := Aside0.mk hk3
  have HK4 := Aside0.mk hk4
  clear hk3 hk4
  have hw1 : wrap64 (e1 - x1) = e1 - x1 := by unfold Sm at he hx2; unfold wrap64; omega
  have hw2 : wrap64 (x1 + x2 - (e1 + e2)) = x1 + x2 - (e1 + e2) := by unfold Sm at he hx2; unfold wrap64; omega
  have hw3 : IntKind.i64.wrap (e1 - x1) = e1 - x1 := by unfold Sm at he hx2; rw [IntKind.wrap_i64]; omega
  have hw4 : IntKind.i64.wrap (x1 + x2 - (e1 + e2)) = x1 + x2 - (e1 + e2) := by unfold Sm at he hx2; rw [IntKind.wrap_i64]; omega
  have RS : Aside0 (cellsE (Holes.rest (x1, x2) (e1, e2)) = [.int .i64 x1, .int .i64 (e1 - x1)]) := ⟨by unfold Holes.rest; rw [if_pos ha, if_neg hb]; rfl⟩
  have RL : Aside0 ((Holes.rest (x1, x2) (e1, e2)).length = 1) := ⟨by unfold Holes.rest; rw [if_pos ha, if_neg hb]; rfl⟩
  have hA : decide (x1 < e1) = true := decide_eq_true ha
  have hB : decide (e1 + e2 < x1 + x2) = false := decide_eq_false hb
  obtain ⟨i0, hi0, hz0, hzs, hzb⟩ := info_parts info31
  clear h hx he hx2 ha hb hk hlen
  go_enter Try.func33, Try.ntmps33
  go_wp2_with (at_builtin; refine wpList_append_own_at _ rfl _ _ 27 rfl 0 31 i0 _ 2 16 Try.underlying27 hi0 hz0 hzs hzb rfl (by decide) (.slice none 0 0) 0 [] rfl (World.ownsRow_nil _ _ _ _) ⟨w.heap.size + 1 + 1, 0, none⟩ 1 1 [.int .i64 x1, .int .i64 (e1 - x1)] (by first | rfl | (simp [Act.eval, hw1]; done)) rfl ?hnews (by simp [Value.oneCell']) (by unfold maxLen; omega) (by omega) (Nat.zero_le _) ?_; (case hnews => intro j u hj; rw [add_plain, new_cell _ _ _ _ (by simp)]; simpa [hw1] using hj); intro v5 w5 hown5 hgr5 _ hat5; have HM5 := Aside0.mk (Mid.first hgr5 hown5 hat5); clear hown5 hgr5 hat5)
  first | go_region_held3 (fun w' => w'.cell? ⟨w.heap.size, 0, none⟩ = some (.int .i64 e1) ∧ w'.cell? ⟨w.heap.size, 1, none⟩ = some (.int .i64 e2) ∧ w'.cell? ⟨w.heap.size + 1, 0, none⟩ = some (.int .i64 x1) ∧ w'.cell? ⟨w.heap.size + 1, 1, none⟩ = some (.int .i64 x2) ∧ Mid w e1 e2 x1 x2 v5 1 ([.int .i64 x1, .int .i64 (e1 - x1)]) w')
    (first | exact ⟨HM5.out.c0, HM5.out.c1, HM5.out.c2, HM5.out.c3, HM5.out.then (below_drew1 (Below.refl _ _))⟩ | assumption | (obtain ⟨_, _, _, _, s4⟩ := ‹(World.cell? _ _ = some _) ∧ _ ∧ _ ∧ _ ∧ Mid _ _ _ _ _ _ _ _ _›; exact ⟨(s4.then hb).c0, (s4.then hb).c1, (s4.then hb).c2, (s4.then hb).c3, s4.then hb⟩))
    (first | (go_at_call 27; refine (end_calls _ _ _ (by first | exact HE.out | exact HX.out)).mono ?_; rintro e w8 ⟨rfl, hb⟩)) | fail
  obtain ⟨_, _, _, _, hmid⟩ := ‹(World.cell? _ _ = some _) ∧ _ ∧ _ ∧ _ ∧ Mid _ _ _ _ _ _ _ _ _›
  have HMV := Aside0.mk hmid
  clear hmid
  obtain ⟨ao, vc, hv, harg⟩ := arg_of_own (w := w) (g := g) HMV.out.own (by simp [Value.oneCell']) hgl (fun q hq => Nat.le_trans (Nat.le_add_right _ 2) (HMV.out.new q hq))
  subst hv
  have HARG := Aside0.mk harg
  clear harg
  have hmV := pw_cell_below HMV.out.below hm0
  have hbV := Aside0.mk (blk_below HM.out.hd HMV.out.below)
  go_wp2_with (go_at_call 30; refine (replace_row g hs.length c k (k + 1) 1 _ _ (cellsE hs) ([.int .i64 x1, .int .i64 (e1 - x1)]) _ (HM.out.row.below HMV.out.below) HARG.out (Nat.le_succ k) HK3.out (fun h => absurd h (Nat.ne_of_lt (Nat.lt_succ_self k))) HK4.out).mono ?_; rintro e V2 ⟨g', c', rfl, hr, hg, hgr⟩; have HR2 := Aside0.mk hr; have HG2 := Aside0.mk hg; have HGR := Aside0.mk hgr; have hb2 := blk_grown hbV.out hgr (fun e => HM.out.ne (Option.some.inj e)); have HB2 := Aside0.mk hb2; have hm2 : V2.cell? ⟨b, 1, none⟩ = some (.slice (some ⟨g, 0, none⟩) hs.length c) := (blk_cell hb2 1).trans rfl; have hfz2 := blk_frozen hb2 1; clear hr hg hgr hb2)
  go_end0
  have hl1 : (hs.take k ++ Holes.rest (x1, x2) (e1, e2) ++ hs.drop (k + 1)).length = k + 1 + (hs.length - (k + 1)) := by rw [List.length_append, List.length_append, RL.out, List.length_take, List.length_drop, Nat.min_eq_left (Nat.le_of_lt HK.out)]
  have hl2 : cellsE (hs.take k ++ Holes.rest (x1, x2) (e1, e2) ++ hs.drop (k + 1)) = (cellsE hs).take (k * 2) ++ (([.int .i64 x1, .int .i64 (e1 - x1)]) ++ (cellsE hs).drop ((k + 1) * 2)) := by rw [cellsE_app, cellsE_app, RS.out, cellsE_take, cellsE_drop, List.append_assoc]
  have hgV : w.heap.size ≤ _ := HMV.out.below.size
  refine ⟨rfl, g', c', ⟨?_, ?_, HM.out.pos⟩, ?_, ((Moved.of_below HMV.out.below).trans (Moved.of_grown HGR.out) (.inl rfl)).trans (Moved.set 1 _) (.inl rfl)⟩
  · rw [hl1]
    exact blk_put HB2.out 1 _ rfl
  · rw [hl1, hl2]
    refine HR2.out.far (g' := b) ⟨rfl, rfl, rfl, by simp [World.setCell], fun q _ hq => Below.heap_setCell _ _ _ _ (fun e => hq (by rw [e]))⟩ ?_
    rintro rfl
    obtain ⟨cur, h1, _⟩ := HR2.out.ex
    have h2 := HB2.out
    rw [h1] at h2
    injection h2 with h2
    injection h2 with _ h2
    cases h2
  · rcases HG2.out with e | e
    · exact .inl e
    · exact .inr (Nat.le_trans hgV e)
set_option maxHeartbeats 16000000 in
set_option maxRecDepth 100000 in
theorem cuts_11 (b g c k : Nat) (n : Int) (hs : List Ext) (e1 e2 x1 x2 : Int) (w : World) (h : MapAt w b g c n hs) (hk : k < hs.length) (hx : hs[k] = (x1, x2)) (he : Sm e1 e2) (hx2 : Sm x1 x2) (hlen : hs.length ≤ 10000) (ha : x1 < e1) (hb : e1 + e2 < x1 + x2) :
    Calls Try.prog 33 #[.pointer (some ⟨b, 0, none⟩), .int .i64 (k : Int), .agg #[.int .i64 e1, .int .i64 e2]] w fun r w' => r = .returned (.tuple #[]) ∧ Left_ w b g n (hs.take k ++ Holes.rest (x1, x2) (e1, e2) ++ hs.drop (k + 1)) w' := by
  have hm0 : w.cell? ⟨b, 1, none⟩ = some (.slice (some ⟨g, 0, none⟩) hs.length c) := (blk_cell h.hd 1).trans rfl
  have HM := Aside0.mk h
  have hr := h.row.ext k hk
  rw [hx] at hr
  obtain ⟨hr0, hr1⟩ := hr
  have hk0 : (k : Int) < (hs.length : Int) := by omega
  have HK := Aside0.mk hk
  have HL := Aside0.mk hlen
  have hbl := h.lt.1
  have hgl := h.lt.2
  have HE := Aside0.mk he
  have HX := Aside0.mk hx2
  have hk1 := wrap_succ (k := k) (by omega)
  have hk2 := wrap_succ' (k := k) (by omega)
  have hk3 : k + 1 ≤ hs.length := hk
  have hk4 : hs.length + 2 ≤ 1000000 := by omega
  have HK3 := Aside0.mk hk3
  have HK4 := Aside0.mk hk4
  clear hk3 hk4
  have hw1 : wrap64 (e1 - x1) = e1 - x1 := by unfold Sm at he hx2; unfold wrap64; omega
  have hw2 : wrap64 (x1 + x2 - (e1 + e2)) = x1 + x2 - (e1 + e2) := by unfold Sm at he hx2; unfold wrap64; omega
  have hw3 : IntKind.i64.wrap (e1 - x1) = e1 - x1 := by unfold Sm at he hx2; rw [IntKind.wrap_i64]; omega
  have hw4 : IntKind.i64.wrap (x1 + x2 - (e1 + e2)) = x1 + x2 - (e1 + e2) := by unfold Sm at he hx2; rw [IntKind.wrap_i64]; omega
  have RS : Aside0 (cellsE (Holes.rest (x1, x2) (e1, e2)) = [.int .i64 x1, .int .i64 (e1 - x1)] ++ [.int .i64 (e1 + e2), .int .i64 (x1 + x2 - (e1 + e2))]) := ⟨by unfold Holes.rest; rw [if_pos ha, if_pos hb]; rfl⟩
  have RL : Aside0 ((Holes.rest (x1, x2) (e1, e2)).length = 2) := ⟨by unfold Holes.rest; rw [if_pos ha, if_pos hb]; rfl⟩
  have hA : decide (x1 < e1) = true := decide_eq_true ha
  have hB : decide (e1 + e2 < x1 + x2) = true := decide_eq_true hb
  obtain ⟨i0, hi0, hz0, hzs, hzb⟩ := info_parts info31
  clear h hx he hx2 ha hb hk hlen
  go_enter Try.func33, Try.ntmps33
  go_wp2_with (at_builtin; refine wpList_append_own_at _ rfl _ _ 27 rfl 0 31 i0 _ 2 16 Try.underlying27 hi0 hz0 hzs hzb rfl (by decide) (.slice none 0 0) 0 [] rfl (World.ownsRow_nil _ _ _ _) ⟨w.heap.size + 1 + 1, 0, none⟩ 1 1 [.int .i64 x1, .int .i64 (e1 - x1)] (by first | rfl | (simp [Act.eval, hw1]; done)) rfl ?hnews (by simp [Value.oneCell']) (by unfold maxLen; omega) (by omega) (Nat.zero_le _) ?_; (case hnews => intro j u hj; rw [add_plain, new_cell _ _ _ _ (by simp)]; simpa [hw1] using hj); intro v5 w5 hown5 hgr5 _ hat5; have HM5 := Aside0.mk (Mid.first hgr5 hown5 hat5); clear hown5 hgr5 hat5)
  first | go_region_held3 (fun w' => w'.cell? ⟨w.heap.size, 0, none⟩ = some (.int .i64 e1) ∧ w'.cell? ⟨w.heap.size, 1, none⟩ = some (.int .i64 e2) ∧ w'.cell? ⟨w.heap.size + 1, 0, none⟩ = some (.int .i64 x1) ∧ w'.cell? ⟨w.heap.size + 1, 1, none⟩ = some (.int .i64 x2) ∧ Mid w e1 e2 x1 x2 v5 1 ([.int .i64 x1, .int .i64 (e1 - x1)]) w')
    (first | exact ⟨HM5.out.c0, HM5.out.c1, HM5.out.c2, HM5.out.c3, HM5.out.then (below_drew1 (Below.refl _ _))⟩ | assumption | (obtain ⟨_, _, _, _, s4⟩ := ‹(World.cell? _ _ = some _) ∧ _ ∧ _ ∧ _ ∧ Mid _ _ _ _ _ _ _ _ _›; exact ⟨(s4.then hb).c0, (s4.then hb).c1, (s4.then hb).c2, (s4.then hb).c3, s4.then hb⟩))
    (first | (go_at_call 27; refine (end_calls _ _ _ (by first | exact HE.out | exact HX.out)).mono ?_; rintro e w8 ⟨rfl, hb⟩)) | fail
  obtain ⟨_, _, _, _, hmid⟩ := ‹(World.cell? _ _ = some _) ∧ _ ∧ _ ∧ _ ∧ Mid _ _ _ _ _ _ _ _ _›
  have HMV := Aside0.mk hmid
  clear hmid
  go_wp2_with (fail)
  have HOW := Aside0.mk (own_below31 HMV.out.own (below_drew1 (Below.refl _ _)))
  have HNW := Aside0.mk HMV.out.new
  first | go_region_held3 (fun w' => w'.cell? ⟨w.heap.size, 0, none⟩ = some (.int .i64 e1) ∧ w'.cell? ⟨w.heap.size, 1, none⟩ = some (.int .i64 e2) ∧ w'.cell? ⟨w.heap.size + 1, 0, none⟩ = some (.int .i64 x1) ∧ w'.cell? ⟨w.heap.size + 1, 1, none⟩ = some (.int .i64 x2) ∧ Mid w e1 e2 x1 x2 (.slice none 0 0) 0 [] w')
    (first | exact ⟨HMV.out.c0, HMV.out.c1, HMV.out.c2, HMV.out.c3, HMV.out.nil.then (below_drew1 (Below.refl _ _))⟩ | assumption | (obtain ⟨_, _, _, _, s4⟩ := ‹(World.cell? _ _ = some _) ∧ _ ∧ _ ∧ _ ∧ Mid _ _ _ _ _ _ _ _ _›; first | exact ⟨(s4.then hb).c0, (s4.then hb).c1, (s4.then hb).c2, (s4.then hb).c3, s4.then hb⟩ | exact ⟨(s4.then (below_alloc (Below.refl _ _) _)).c0, (s4.then (below_alloc (Below.refl _ _) _)).c1, (s4.then (below_alloc (Below.refl _ _) _)).c2, (s4.then (below_alloc (Below.refl _ _) _)).c3, s4.then (below_alloc (Below.refl _ _) _)⟩ | exact ⟨(s4.grown hg6 HNW.out).c0, (s4.grown hg6 HNW.out).c1, (s4.grown hg6 HNW.out).c2, (s4.grown hg6 HNW.out).c3, s4.grown hg6 HNW.out⟩))
    (first | (go_at_call 27; refine (end_calls _ _ _ (by first | exact HE.out | exact HX.out)).mono ?_; rintro e w8 ⟨rfl, hb⟩; replace HOW := Aside0.mk (own_below31 HOW.out hb)) | (refine append_step rfl _ _ rfl v5 1 ([.int .i64 x1, .int .i64 (e1 - x1)]) rfl (own_alloc31 HOW.out _) ⟨_, 0, none⟩ 1 1 [.int .i64 (e1 + e2), .int .i64 (x1 + x2 - (e1 + e2))] rfl rfl ?hnews (by simp [Value.oneCell']) (by decide) ?_; (case hnews => intro j u hj; rw [add_plain, new_cell _ _ _ _ rfl]; simpa using hj); intro v6 w9 hown6 hg6 _ hat6; have HO6 := Aside0.mk hown6; have HN6 : Aside0 (∀ q, v6.ownBlock = some q → w.heap.size + 2 ≤ q) := ⟨fun q hq => by rcases hat6 with e | e; exact HNW.out q (e ▸ hq); (obtain ⟨_, _, _, _, s4⟩ := ‹(World.cell? _ _ = some _) ∧ _ ∧ _ ∧ _ ∧ Mid _ _ _ _ _ _ _ _ _›; rw [e] at hq; have h_ := Option.some.inj hq; rw [← h_]; exact s4.size)⟩; clear hown6 hat6)) | fail
  clear HMV
  obtain ⟨_, _, _, _, hmid⟩ := ‹(World.cell? _ _ = some _) ∧ _ ∧ _ ∧ _ ∧ Mid _ _ _ _ _ _ _ _ _›
  have HMV : Aside0 (Mid w e1 e2 x1 x2 v6 2 ([.int .i64 x1, .int .i64 (e1 - x1)] ++ [.int .i64 (e1 + e2), .int .i64 (x1 + x2 - (e1 + e2))]) _) := ⟨⟨hmid.c0, hmid.c1, hmid.c2, hmid.c3, hmid.below, HO6.out, HN6.out⟩⟩
  clear hmid
  obtain ⟨ao, vc, hv, harg⟩ := arg_of_own (w := w) (g := g) HMV.out.own (by simp [Value.oneCell']) hgl (fun q hq => Nat.le_trans (Nat.le_add_right _ 2) (HMV.out.new q hq))
  subst hv
  have HARG := Aside0.mk harg
  clear harg
  have hmV := pw_cell_below HMV.out.below hm0
  have hbV := Aside0.mk (blk_below HM.out.hd HMV.out.below)
  go_wp2_with (go_at_call 30; refine (replace_row g hs.length c k (k + 1) 2 _ _ (cellsE hs) ([.int .i64 x1, .int .i64 (e1 - x1)] ++ [.int .i64 (e1 + e2), .int .i64 (x1 + x2 - (e1 + e2))]) _ (HM.out.row.below HMV.out.below) HARG.out (Nat.le_succ k) HK3.out (fun h => absurd h (Nat.ne_of_lt (Nat.lt_succ_self k))) HK4.out).mono ?_; rintro e V2 ⟨g', c', rfl, hr, hg, hgr⟩; have HR2 := Aside0.mk hr; have HG2 := Aside0.mk hg; have HGR := Aside0.mk hgr; have hb2 := blk_grown hbV.out hgr (fun e => HM.out.ne (Option.some.inj e)); have HB2 := Aside0.mk hb2; have hm2 : V2.cell? ⟨b, 1, none⟩ = some (.slice (some ⟨g, 0, none⟩) hs.length c) := (blk_cell hb2 1).trans rfl; have hfz2 := blk_frozen hb2 1; clear hr hg hgr hb2)
  go_end0
  have hl1 : (hs.take k ++ Holes.rest (x1, x2) (e1, e2) ++ hs.drop (k + 1)).length = k + 2 + (hs.length - (k + 1)) := by rw [List.length_append, List.length_append, RL.out, List.length_take, List.length_drop, Nat.min_eq_left (Nat.le_of_lt HK.out)]
  have hl2 : cellsE (hs.take k ++ Holes.rest (x1, x2) (e1, e2) ++ hs.drop (k + 1)) = (cellsE hs).take (k * 2) ++ (([.int .i64 x1, .int .i64 (e1 - x1)] ++ [.int .i64 (e1 + e2), .int .i64 (x1 + x2 - (e1 + e2))]) ++ (cellsE hs).drop ((k + 1) * 2)) := by rw [cellsE_app, cellsE_app, RS.out, cellsE_take, cellsE_drop, List.append_assoc]
  have hgV : w.heap.size ≤ _ := HMV.out.below.size
  refine ⟨rfl, g', c', ⟨?_, ?_, HM.out.pos⟩, ?_, ((Moved.of_below HMV.out.below).trans (Moved.of_grown HGR.out) (.inl rfl)).trans (Moved.set 1 _) (.inl rfl)⟩
  · rw [hl1]
    exact blk_put HB2.out 1 _ rfl
  · rw [hl1, hl2]
    refine HR2.out.far (g' := b) ⟨rfl, rfl, rfl, by simp [World.setCell], fun q _ hq => Below.heap_setCell _ _ _ _ (fun e => hq (by rw [e]))⟩ ?_
    rintro rfl
    obtain ⟨cur, h1, _⟩ := HR2.out.ex
    have h2 := HB2.out
    rw [h1] at h2
    injection h2 with h2
    injection h2 with _ h2
    cases h2
  · rcases HG2.out with e | e
    · exact .inl e
    · exact .inr (Nat.le_trans hgV e)
set_option maxHeartbeats 16000000 in
set_option maxRecDepth 100000 in
theorem cuts_00 (b g c k : Nat) (n : Int) (hs : List Ext) (e1 e2 x1 x2 : Int) (w : World) (h : MapAt w b g c n hs) (hk : k < hs.length) (hx : hs[k] = (x1, x2)) (he : Sm e1 e2) (hx2 : Sm x1 x2) (hlen : hs.length ≤ 10000) (ha : ¬ x1 < e1) (hb : ¬ e1 + e2 < x1 + x2) :
    Calls Try.prog 33 #[.pointer (some ⟨b, 0, none⟩), .int .i64 (k : Int), .agg #[.int .i64 e1, .int .i64 e2]] w fun r w' => r = .returned (.tuple #[]) ∧ Left_ w b g n (hs.take k ++ Holes.rest (x1, x2) (e1, e2) ++ hs.drop (k + 1)) w' := by
  have hm0 : w.cell? ⟨b, 1, none⟩ = some (.slice (some ⟨g, 0, none⟩) hs.length c) := (blk_cell h.hd 1).trans rfl
  have HM := Aside0.mk h
  have hr := h.row.ext k hk
  rw [hx] at hr
  obtain ⟨hr0, hr1⟩ := hr
  have hk0 : (k : Int) < (hs.length : Int) := by omega
  have HK := Aside0.mk hk
  have HL := Aside0.mk hlen
  have hbl := h.lt.1
  have hgl := h.lt.2
  have HE := Aside0.mk he
  have HX := Aside0.mk hx2
  have hk1 := wrap_succ (k := k) (by omega)
  have hk2 := wrap_succ' (k := k) (by omega)
  have hk3 : k + 1 ≤ hs.length := hk
  have hk4 : hs.length + 0 ≤ 1000000 := by omega
  have HK3 := Aside0.mk hk3
  have HK4 := Aside0.mk hk4
  clear hk3 hk4
  have hw1 : wrap64 (e1 - x1) = e1 - x1 := by unfold Sm at he hx2; unfold wrap64; omega
  have hw2 : wrap64 (x1 + x2 - (e1 + e2)) = x1 + x2 - (e1 + e2) := by unfold Sm at he hx2; unfold wrap64; omega
  have hw3 : IntKind.i64.wrap (e1 - x1) = e1 - x1 := by unfold Sm at he hx2; rw [IntKind.wrap_i64]; omega
  have hw4 : IntKind.i64.wrap (x1 + x2 - (e1 + e2)) = x1 + x2 - (e1 + e2) := by unfold Sm at he hx2; rw [IntKind.wrap_i64]; omega
  have RS : Aside0 (cellsE (Holes.rest (x1, x2) (e1, e2)) = []) := ⟨by unfold Holes.rest; rw [if_neg ha, if_neg hb]; rfl⟩
  have RL : Aside0 ((Holes.rest (x1, x2) (e1, e2)).length = 0) := ⟨by unfold Holes.rest; rw [if_neg ha, if_neg hb]; rfl⟩
  have hA : decide (x1 < e1) = false := decide_eq_false ha
  have hB : decide (e1 + e2 < x1 + x2) = false := decide_eq_false hb
  obtain ⟨i0, hi0, hz0, hzs, hzb⟩ := info_parts info31
  clear h hx he hx2 ha hb hk hlen
  go_enter Try.func33, Try.ntmps33
  go_wp2_with (fail)
  refine wp_letter (Mid w e1 e2 x1 x2 (.slice none 0 0) 0 []) (Mid.start w e1 e2 x1 x2) ?_
  intro w5 hmid
  have HM5 := Aside0.mk hmid
  clear hmid
  first | go_region_held3 (fun w' => w'.cell? ⟨w.heap.size, 0, none⟩ = some (.int .i64 e1) ∧ w'.cell? ⟨w.heap.size, 1, none⟩ = some (.int .i64 e2) ∧ w'.cell? ⟨w.heap.size + 1, 0, none⟩ = some (.int .i64 x1) ∧ w'.cell? ⟨w.heap.size + 1, 1, none⟩ = some (.int .i64 x2) ∧ Mid w e1 e2 x1 x2 (.slice none 0 0) 0 ([]) w')
    (first | exact ⟨HM5.out.c0, HM5.out.c1, HM5.out.c2, HM5.out.c3, HM5.out.then (below_drew1 (Below.refl _ _))⟩ | assumption | (obtain ⟨_, _, _, _, s4⟩ := ‹(World.cell? _ _ = some _) ∧ _ ∧ _ ∧ _ ∧ Mid _ _ _ _ _ _ _ _ _›; exact ⟨(s4.then hb).c0, (s4.then hb).c1, (s4.then hb).c2, (s4.then hb).c3, s4.then hb⟩))
    (first | (go_at_call 27; refine (end_calls _ _ _ (by first | exact HE.out | exact HX.out)).mono ?_; rintro e w8 ⟨rfl, hb⟩)) | fail
  obtain ⟨_, _, _, _, hmid⟩ := ‹(World.cell? _ _ = some _) ∧ _ ∧ _ ∧ _ ∧ Mid _ _ _ _ _ _ _ _ _›
  have HMV := Aside0.mk hmid
  clear hmid
  obtain ⟨ao, vc, hv, harg⟩ := arg_of_own (w := w) (g := g) HMV.out.own (by simp [Value.oneCell']) hgl (fun q hq => Nat.le_trans (Nat.le_add_right _ 2) (HMV.out.new q hq))
  (first | subst hv | (injection hv with h1_ h2_ h3_; subst h1_; subst h3_))
  have HARG := Aside0.mk harg
  clear harg
  have hmV := pw_cell_below HMV.out.below hm0
  have hbV := Aside0.mk (blk_below HM.out.hd HMV.out.below)
  go_wp2_with (go_at_call 30; refine (replace_row g hs.length c k (k + 1) 0 _ _ (cellsE hs) ([]) _ (HM.out.row.below HMV.out.below) HARG.out (Nat.le_succ k) HK3.out (fun h => absurd h (Nat.ne_of_lt (Nat.lt_succ_self k))) HK4.out).mono ?_; rintro e V2 ⟨g', c', rfl, hr, hg, hgr⟩; have HR2 := Aside0.mk hr; have HG2 := Aside0.mk hg; have HGR := Aside0.mk hgr; have hb2 := blk_grown hbV.out hgr (fun e => HM.out.ne (Option.some.inj e)); have HB2 := Aside0.mk hb2; have hm2 : V2.cell? ⟨b, 1, none⟩ = some (.slice (some ⟨g, 0, none⟩) hs.length c) := (blk_cell hb2 1).trans rfl; have hfz2 := blk_frozen hb2 1; clear hr hg hgr hb2)
  go_end0
  have hl1 : (hs.take k ++ Holes.rest (x1, x2) (e1, e2) ++ hs.drop (k + 1)).length = k + 0 + (hs.length - (k + 1)) := by rw [List.length_append, List.length_append, RL.out, List.length_take, List.length_drop, Nat.min_eq_left (Nat.le_of_lt HK.out)]
  have hl2 : cellsE (hs.take k ++ Holes.rest (x1, x2) (e1, e2) ++ hs.drop (k + 1)) = (cellsE hs).take (k * 2) ++ (([]) ++ (cellsE hs).drop ((k + 1) * 2)) := by rw [cellsE_app, cellsE_app, RS.out, cellsE_take, cellsE_drop, List.append_assoc]
  have hgV : w.heap.size ≤ _ := HMV.out.below.size
  refine ⟨rfl, g', c', ⟨?_, ?_, HM.out.pos⟩, ?_, ((Moved.of_below HMV.out.below).trans (Moved.of_grown HGR.out) (.inl rfl)).trans (Moved.set 1 _) (.inl rfl)⟩
  · rw [hl1]
    exact blk_put HB2.out 1 _ rfl
  · rw [hl1, hl2]
    refine HR2.out.far (g' := b) ⟨rfl, rfl, rfl, by simp [World.setCell], fun q _ hq => Below.heap_setCell _ _ _ _ (fun e => hq (by rw [e]))⟩ ?_
    rintro rfl
    obtain ⟨cur, h1, _⟩ := HR2.out.ex
    have h2 := HB2.out
    rw [h1] at h2
    injection h2 with h2
    injection h2 with _ h2
    cases h2
  · rcases HG2.out with e | e
    · exact .inl e
    · exact .inr (Nat.le_trans hgV e)
set_option maxHeartbeats 16000000 in
set_option maxRecDepth 100000 in
theorem cuts_01 (b g c k : Nat) (n : Int) (hs : List Ext) (e1 e2 x1 x2 : Int) (w : World) (h : MapAt w b g c n hs) (hk : k < hs.length) (hx : hs[k] = (x1, x2)) (he : Sm e1 e2) (hx2 : Sm x1 x2) (hlen : hs.length ≤ 10000) (ha : ¬ x1 < e1) (hb : e1 + e2 < x1 + x2) :
    Calls Try.prog 33 #[.pointer (some ⟨b, 0, none⟩), .int .i64 (k : Int), .agg #[.int .i64 e1, .int .i64 e2]] w fun r w' => r = .returned (.tuple #[]) ∧ Left_ w b g n (hs.take k ++ Holes.rest (x1, x2) (e1, e2) ++ hs.drop (k + 1)) w' := by
  have hm0 : w.cell? ⟨b, 1, none⟩ = some (.slice (some ⟨g, 0, none⟩) hs.length c) := (blk_cell h.hd 1).trans rfl
  have HM := Aside0.mk h
  have hr := h.row.ext k hk
  rw [hx] at hr
  obtain ⟨hr0, hr1⟩ := hr
  have hk0 : (k : Int) < (hs.length : Int) := by omega
  have HK := Aside0.mk hk
  have HL := Aside0.mk hlen
  have hbl := h.lt.1
  have hgl := h.lt.2
  have HE := Aside0.mk he
  have HX := Aside0.mk hx2
  have hk1 := wrap_succ (k := k) (by omega)
  have hk2 := wrap_succ' (k := k) (by omega)
  have hk3 : k + 1 ≤ hs.length := hk
  have hk4 : hs.length + 1 ≤ 1000000 := by omega
  have HK3 := Aside0.mk hk3
  have HK4 := Aside0.mk hk4
  clear hk3 hk4
  have hw1 : wrap64 (e1 - x1) = e1 - x1 := by unfold Sm at he hx2; unfold wrap64; omega
  have hw2 : wrap64 (x1 + x2 - (e1 + e2)) = x1 + x2 - (e1 + e2) := by unfold Sm at he hx2; unfold wrap64; omega
  have hw3 : IntKind.i64.wrap (e1 - x1) = e1 - x1 := by unfold Sm at he hx2; rw [IntKind.wrap_i64]; omega
  have hw4 : IntKind.i64.wrap (x1 + x2 - (e1 + e2)) = x1 + x2 - (e1 + e2) := by unfold Sm at he hx2; rw [IntKind.wrap_i64]; omega
  have RS : Aside0 (cellsE (Holes.rest (x1, x2) (e1, e2)) = [.int .i64 (e1 + e2), .int .i64 (x1 + x2 - (e1 + e2))]) := ⟨by unfold Holes.rest; rw [if_neg ha, if_pos hb]; rfl⟩
  have RL : Aside0 ((Holes.rest (x1, x2) (e1, e2)).length = 1) := ⟨by unfold Holes.rest; rw [if_neg ha, if_pos hb]; rfl⟩
  have hA : decide (x1 < e1) = false := decide_eq_false ha
  have hB : decide (e1 + e2 < x1 + x2) = true := decide_eq_true hb
  obtain ⟨i0, hi0, hz0, hzs, hzb⟩ := info_parts info31
  clear h hx he hx2 ha hb hk hlen
  go_enter Try.func33, Try.ntmps33
  go_wp2_with (fail)
  refine wp_letter (Mid w e1 e2 x1 x2 (.slice none 0 0) 0 []) (Mid.start w e1 e2 x1 x2) ?_
  intro w5 hmid
  have HM5 := Aside0.mk hmid
  clear hmid
  first | go_region_held3 (fun w' => w'.cell? ⟨w.heap.size, 0, none⟩ = some (.int .i64 e1) ∧ w'.cell? ⟨w.heap.size, 1, none⟩ = some (.int .i64 e2) ∧ w'.cell? ⟨w.heap.size + 1, 0, none⟩ = some (.int .i64 x1) ∧ w'.cell? ⟨w.heap.size + 1, 1, none⟩ = some (.int .i64 x2) ∧ Mid w e1 e2 x1 x2 (.slice none 0 0) 0 ([]) w')
    (first | exact ⟨HM5.out.c0, HM5.out.c1, HM5.out.c2, HM5.out.c3, HM5.out.then (below_drew1 (Below.refl _ _))⟩ | assumption | (obtain ⟨_, _, _, _, s4⟩ := ‹(World.cell? _ _ = some _) ∧ _ ∧ _ ∧ _ ∧ Mid _ _ _ _ _ _ _ _ _›; exact ⟨(s4.then hb).c0, (s4.then hb).c1, (s4.then hb).c2, (s4.then hb).c3, s4.then hb⟩))
    (first | (go_at_call 27; refine (end_calls _ _ _ (by first | exact HE.out | exact HX.out)).mono ?_; rintro e w8 ⟨rfl, hb⟩)) | fail
  obtain ⟨_, _, _, _, hmid⟩ := ‹(World.cell? _ _ = some _) ∧ _ ∧ _ ∧ _ ∧ Mid _ _ _ _ _ _ _ _ _›
  have HMV := Aside0.mk hmid
  clear hmid
  go_wp2_with (fail)
  have HOW := Aside0.mk (own_below31 HMV.out.own (below_drew1 (Below.refl _ _)))
  have HNW := Aside0.mk HMV.out.new
  first | go_region_held3 (fun w' => w'.cell? ⟨w.heap.size, 0, none⟩ = some (.int .i64 e1) ∧ w'.cell? ⟨w.heap.size, 1, none⟩ = some (.int .i64 e2) ∧ w'.cell? ⟨w.heap.size + 1, 0, none⟩ = some (.int .i64 x1) ∧ w'.cell? ⟨w.heap.size + 1, 1, none⟩ = some (.int .i64 x2) ∧ Mid w e1 e2 x1 x2 (.slice none 0 0) 0 [] w')
    (first | exact ⟨HMV.out.c0, HMV.out.c1, HMV.out.c2, HMV.out.c3, HMV.out.nil.then (below_drew1 (Below.refl _ _))⟩ | assumption | (obtain ⟨_, _, _, _, s4⟩ := ‹(World.cell? _ _ = some _) ∧ _ ∧ _ ∧ _ ∧ Mid _ _ _ _ _ _ _ _ _›; first | exact ⟨(s4.then hb).c0, (s4.then hb).c1, (s4.then hb).c2, (s4.then hb).c3, s4.then hb⟩ | exact ⟨(s4.then (below_alloc (Below.refl _ _) _)).c0, (s4.then (below_alloc (Below.refl _ _) _)).c1, (s4.then (below_alloc (Below.refl _ _) _)).c2, (s4.then (below_alloc (Below.refl _ _) _)).c3, s4.then (below_alloc (Below.refl _ _) _)⟩ | exact ⟨(s4.grown hg6 HNW.out).c0, (s4.grown hg6 HNW.out).c1, (s4.grown hg6 HNW.out).c2, (s4.grown hg6 HNW.out).c3, s4.grown hg6 HNW.out⟩))
    (first | (go_at_call 27; refine (end_calls _ _ _ (by first | exact HE.out | exact HX.out)).mono ?_; rintro e w8 ⟨rfl, hb⟩; replace HOW := Aside0.mk (own_below31 HOW.out hb)) | (refine append_step rfl _ _ rfl (.slice none 0 0) 0 ([]) rfl (own_alloc31 HOW.out _) ⟨_, 0, none⟩ 1 1 [.int .i64 (e1 + e2), .int .i64 (x1 + x2 - (e1 + e2))] rfl rfl ?hnews (by simp [Value.oneCell']) (by decide) ?_; (case hnews => intro j u hj; rw [add_plain, new_cell _ _ _ _ rfl]; simpa using hj); intro v6 w9 hown6 hg6 _ hat6; have HO6 := Aside0.mk hown6; have HN6 : Aside0 (∀ q, v6.ownBlock = some q → w.heap.size + 2 ≤ q) := ⟨fun q hq => by rcases hat6 with e | e; exact HNW.out q (e ▸ hq); (obtain ⟨_, _, _, _, s4⟩ := ‹(World.cell? _ _ = some _) ∧ _ ∧ _ ∧ _ ∧ Mid _ _ _ _ _ _ _ _ _›; rw [e] at hq; have h_ := Option.some.inj hq; rw [← h_]; exact s4.size)⟩; clear hown6 hat6)) | fail
  clear HMV
  obtain ⟨_, _, _, _, hmid⟩ := ‹(World.cell? _ _ = some _) ∧ _ ∧ _ ∧ _ ∧ Mid _ _ _ _ _ _ _ _ _›
  have HMV : Aside0 (Mid w e1 e2 x1 x2 v6 1 ([.int .i64 (e1 + e2), .int .i64 (x1 + x2 - (e1 + e2))]) _) := ⟨⟨hmid.c0, hmid.c1, hmid.c2, hmid.c3, hmid.below, HO6.out, HN6.out⟩⟩
  clear hmid
  obtain ⟨ao, vc, hv, harg⟩ := arg_of_own (w := w) (g := g) HMV.out.own (by simp [Value.oneCell']) hgl (fun q hq => Nat.le_trans (Nat.le_add_right _ 2) (HMV.out.new q hq))
  subst hv
  have HARG := Aside0.mk harg
  clear harg
  have hmV := pw_cell_below HMV.out.below hm0
  have hbV := Aside0.mk (blk_below HM.out.hd HMV.out.below)
  go_wp2_with (go_at_call 30; refine (replace_row g hs.length c k (k + 1) 1 _ _ (cellsE hs) ([.int .i64 (e1 + e2), .int .i64 (x1 + x2 - (e1 + e2))]) _ (HM.out.row.below HMV.out.below) HARG.out (Nat.le_succ k) HK3.out (fun h => absurd h (Nat.ne_of_lt (Nat.lt_succ_self k))) HK4.out).mono ?_; rintro e V2 ⟨g', c', rfl, hr, hg, hgr⟩; have HR2 := Aside0.mk hr; have HG2 := Aside0.mk hg; have HGR := Aside0.mk hgr; have hb2 := blk_grown hbV.out hgr (fun e => HM.out.ne (Option.some.inj e)); have HB2 := Aside0.mk hb2; have hm2 : V2.cell? ⟨b, 1, none⟩ = some (.slice (some ⟨g, 0, none⟩) hs.length c) := (blk_cell hb2 1).trans rfl; have hfz2 := blk_frozen hb2 1; clear hr hg hgr hb2)
  go_end0
  have hl1 : (hs.take k ++ Holes.rest (x1, x2) (e1, e2) ++ hs.drop (k + 1)).length = k + 1 + (hs.length - (k + 1)) := by rw [List.length_append, List.length_append, RL.out, List.length_take, List.length_drop, Nat.min_eq_left (Nat.le_of_lt HK.out)]
  have hl2 : cellsE (hs.take k ++ Holes.rest (x1, x2) (e1, e2) ++ hs.drop (k + 1)) = (cellsE hs).take (k * 2) ++ (([.int .i64 (e1 + e2), .int .i64 (x1 + x2 - (e1 + e2))]) ++ (cellsE hs).drop ((k + 1) * 2)) := by rw [cellsE_app, cellsE_app, RS.out, cellsE_take, cellsE_drop, List.append_assoc]
  have hgV : w.heap.size ≤ _ := HMV.out.below.size
  refine ⟨rfl, g', c', ⟨?_, ?_, HM.out.pos⟩, ?_, ((Moved.of_below HMV.out.below).trans (Moved.of_grown HGR.out) (.inl rfl)).trans (Moved.set 1 _) (.inl rfl)⟩
  · rw [hl1]
    exact blk_put HB2.out 1 _ rfl
  · rw [hl1, hl2]
    refine HR2.out.far (g' := b) ⟨rfl, rfl, rfl, by simp [World.setCell], fun q _ hq => Below.heap_setCell _ _ _ _ (fun e => hq (by rw [e]))⟩ ?_
    rintro rfl
    obtain ⟨cur, h1, _⟩ := HR2.out.ex
    have h2 := HB2.out
    rw [h1] at h2
    injection h2 with h2
    injection h2 with _ h2
    cases h2
  · rcases HG2.out with e | e
    · exact .inl e
    · exact .inr (Nat.le_trans hgV e)
theorem cuts_calls (b g c k : Nat) (n : Int) (hs : List Ext) (e1 e2 x1 x2 : Int) (w : World) (h : MapAt w b g c n hs) (hk : k < hs.length) (hx : hs[k] = (x1, x2)) (he : Sm e1 e2) (hx2 : Sm x1 x2) (hlen : hs.length ≤ 10000) :
    Calls Try.prog 33 #[.pointer (some ⟨b, 0, none⟩), .int .i64 (k : Int), .agg #[.int .i64 e1, .int .i64 e2]] w fun r w' => r = .returned (.tuple #[]) ∧ Left_ w b g n (hs.take k ++ Holes.rest (x1, x2) (e1, e2) ++ hs.drop (k + 1)) w' := by
  by_cases ha : x1 < e1
  · by_cases hb : e1 + e2 < x1 + x2
    · exact cuts_11 b g c k n hs e1 e2 x1 x2 w h hk hx he hx2 hlen ha hb
    · exact cuts_10 b g c k n hs e1 e2 x1 x2 w h hk hx he hx2 hlen ha hb
  · by_cases hb : e1 + e2 < x1 + x2
    · exact cuts_01 b g c k n hs e1 e2 x1 x2 w h hk hx he hx2 hlen ha hb
    · exact cuts_00 b g c k n hs e1 e2 x1 x2 w h hk hx he hx2 hlen ha hb
end Go.Proofs.Ytdchljjhajbehaa.Ex
