/- The map of layer 5 in memory: its struct's block and its holes' row; the little functions. -/
import Derived.Test.YtdchljjhajbehaaEE
import Derived.Test.YtdchljjhajbehaaEJ
import Derived.Test.YtdchljjhajbehaaPrint
import Derived.WalkKit
import Derived.Deep.RegionHeld3
namespace Go.Proofs.Ytdchljjhajbehaa.Ex
open Go.RowKit Go.Proofs.Ytdchljjhajbehaa.Print Go.Proofs.YtdchljjhajbehaaW.PrintWords Go.Proofs.YtdchljjhajbehaaW.PrintLast Go.Proofs.YtdchljjhajbehaaW.PrintMore Go.Proofs.Ytdchljjhajbehaa.Holes
set_option linter.unusedVariables false
set_option linter.unusedSimpArgs false
/-- the cells of extents one behind the other -/
def cellsE : List Ext → List Value
  | [] => []
  | h :: hs => .int .i64 h.1 :: .int .i64 h.2 :: cellsE hs
theorem cellsE_length : ∀ hs : List Ext, (cellsE hs).length = hs.length * 2
  | [] => rfl
  | h :: hs => by simp only [cellsE, List.length_cons, cellsE_length hs]; omega
theorem cellsE_app : ∀ a b : List Ext, cellsE (a ++ b) = cellsE a ++ cellsE b
  | [], b => rfl
  | h :: a, b => by simp only [List.cons_append, cellsE, cellsE_app a b]
theorem cellsE_take : ∀ (hs : List Ext) (k : Nat), (cellsE hs).take (k * 2) = cellsE (hs.take k)
  | [], k => by simp [cellsE]
  | h :: hs, 0 => rfl
  | h :: hs, k + 1 => by
    rw [show (k + 1) * 2 = k * 2 + 1 + 1 by omega]
    simp only [cellsE, List.take_succ_cons, cellsE_take hs k]
theorem cellsE_drop : ∀ (hs : List Ext) (k : Nat), (cellsE hs).drop (k * 2) = cellsE (hs.drop k)
  | [], k => by simp [cellsE]
  | h :: hs, 0 => rfl
  | h :: hs, k + 1 => by
    rw [show (k + 1) * 2 = k * 2 + 1 + 1 by omega]
    simp only [cellsE, List.drop_succ_cons, cellsE_drop hs k]
theorem cellsE_one : ∀ hs : List Ext, ∀ v ∈ cellsE hs, v.oneCell' = true
  | [], v, h => absurd h List.not_mem_nil
  | h :: hs, v, hv => by
    rcases List.mem_cons.1 hv with rfl | hv
    · rfl
    rcases List.mem_cons.1 hv with rfl | hv
    · rfl
    exact cellsE_one hs v hv
theorem cellsE_get : ∀ (hs : List Ext) (k : Nat) (hk : k < hs.length), (cellsE hs)[k * 2]? = some (.int .i64 hs[k].1) ∧ (cellsE hs)[k * 2 + 1]? = some (.int .i64 hs[k].2)
  | h :: hs, 0, _ => ⟨rfl, rfl⟩
  | h :: hs, k + 1, hk => by
    have := cellsE_get hs k (by simpa using hk)
    rw [show (k + 1) * 2 = k * 2 + 1 + 1 by omega]
    simpa [cellsE] using this
/-- a row of extents read at a place -/
theorem Row.ext {W : World} {g n c : Nat} {hs : List Ext} (h : Row W g n c (cellsE hs)) (k : Nat) (hk : k < hs.length) : W.cell? ⟨g, k * 2, none⟩ = some (.int .i64 hs[k].1) ∧ W.cell? ⟨g, k * 2 + 1, none⟩ = some (.int .i64 hs[k].2) :=
  ⟨h.cell (cellsE_get hs k hk).1, h.cell (cellsE_get hs k hk).2⟩
theorem Row.elen {W : World} {g n c : Nat} {hs : List Ext} (h : Row W g n c (cellsE hs)) : hs.length = n := by
  have := h.len
  rw [cellsE_length] at this
  omega
/-- a map of n blocks at block b, its holes in the row at block g -/
structure MapAt (W : World) (b g c : Nat) (n : Int) (hs : List Ext) : Prop where
  hd : W.heap[b]? = some (.cells #[.int .i64 n, .slice (some ⟨g, 0, none⟩) hs.length c] 57 (0, 0))
  row : Row W g hs.length c (cellsE hs)
  pos : 0 < n
theorem MapAt.ne {W : World} {b g c : Nat} {n : Int} {hs : List Ext} (h : MapAt W b g c n hs) : b ≠ g := by
  rintro rfl
  obtain ⟨cur, h1, _⟩ := h.row.ex
  have := h.hd
  rw [h1] at this
  injection this with this
  injection this with _ this
  cases this
theorem MapAt.far {W W1 : World} {b g c : Nat} {n : Int} {hs : List Ext} (h : MapAt W b g c n hs) (hb : W1.heap[b]? = W.heap[b]?) (hg : W1.heap[g]? = W.heap[g]?) : MapAt W1 b g c n hs := by
  obtain ⟨cur, h1, h2, h3⟩ := h.row.ex
  exact ⟨hb.trans h.hd, ⟨⟨cur, hg.trans h1, h2, h3⟩, h.row.le, h.row.max, h.row.one⟩, h.pos⟩
theorem MapAt.below {W W1 : World} {b g c : Nat} {n : Int} {hs : List Ext} (h : MapAt W b g c n hs) (hw : Below W.heap.size W W1) : MapAt W1 b g c n hs := h.far (hw.block b (blk_lt h.hd)) (hw.block g h.row.lt)
theorem MapAt.lt {W : World} {b g c : Nat} {n : Int} {hs : List Ext} (h : MapAt W b g c n hs) : b < W.heap.size ∧ g < W.heap.size := ⟨blk_lt h.hd, h.row.lt⟩
theorem Row.below {W W1 : World} {g n c : Nat} {xs : List Value} (h : Row W g n c xs) (hw : Below W.heap.size W W1) : Row W1 g n c xs := by
  obtain ⟨cur, h1, h2, h3⟩ := h.ex
  exact ⟨⟨cur, (hw.block g (blk_lt h1)).trans h1, h2, h3⟩, h.le, h.max, h.one⟩
set_option maxHeartbeats 4000000 in
theorem given_calls (b : Nat) (n : Int) (u : Value) (w : World) (h : w.heap[b]? = some (.cells #[.int .i64 n, u] 57 (0, 0))) (hn : 0 < n) :
    Calls Try.prog 31 #[.pointer (some ⟨b, 0, none⟩)] w fun e w' => e = .returned (.bool true) ∧ w' = w := by
  have h0 : w.cell? ⟨b, 0, none⟩ = some (.int .i64 n) := (blk_cell h 0).trans rfl
  have hn' : (0 : Int) < n := hn
  clear h
  go_enter Try.func31, Try.ntmps31
  go_wp2
  go_ret
  exact ⟨rfl, rfl⟩
set_option maxHeartbeats 4000000 in
theorem given_nil (w : World) : Calls Try.prog 31 #[.pointer none] w fun e w' => e = .returned (.bool false) ∧ w' = w := by
  go_enter Try.func31, Try.ntmps31
  go_wp2
  go_ret
  exact ⟨rfl, rfl⟩
set_option maxHeartbeats 4000000 in
theorem given_zero (b : Nat) (u : Value) (w : World) (h : w.heap[b]? = some (.cells #[.int .i64 0, u] 57 (0, 0))) :
    Calls Try.prog 31 #[.pointer (some ⟨b, 0, none⟩)] w fun e w' => e = .returned (.bool false) ∧ w' = w := by
  have h0 : w.cell? ⟨b, 0, none⟩ = some (.int .i64 0) := (blk_cell h 0).trans rfl
  clear h
  go_enter Try.func31, Try.ntmps31
  go_wp2
  go_ret
  exact ⟨rfl, rfl⟩
set_option maxHeartbeats 4000000 in
theorem fits_calls (cb : Nat) (count x y : Int) (w : World) (h : w.cell? ⟨cb, 0, none⟩ = some (.int .i64 count)) (hc : cb < w.heap.size) :
    Calls Try.prog 32 #[.agg #[.int .i64 x, .int .i64 y], .pointer (some ⟨cb, 0, none⟩)] w fun e w' => e = .returned (.bool (decide (count ≤ y))) ∧ Below w.heap.size w w' := by
  go_enter Try.func32, Try.ntmps32
  go_wp2
  go_ret
  exact ⟨rfl, (Below.refl _ _).alloc (Nat.le_refl _) _⟩
set_option maxHeartbeats 4000000 in
theorem behind_calls (cb : Nat) (e1 x y : Int) (w : World) (h : w.cell? ⟨cb, 0, none⟩ = some (.int .i64 e1)) (hc : cb < w.heap.size) :
    Calls Try.prog 29 #[.agg #[.int .i64 x, .int .i64 y], .pointer (some ⟨cb, 0, none⟩)] w fun e w' => e = .returned (.bool (decide (e1 < x))) ∧ Below w.heap.size w w' := by
  go_enter Try.func29, Try.ntmps29
  go_wp2
  go_ret
  exact ⟨rfl, (Below.refl _ _).alloc (Nat.le_refl _) _⟩
/-- small numbers: their sum is no overflow -/
def Sm (x y : Int) : Prop := -1000000 ≤ x ∧ x ≤ 1000000 ∧ -1000000 ≤ y ∧ y ≤ 1000000
theorem end_calls (x y : Int) (w : World) (h : Sm x y) : Calls Try.prog 27 #[.agg #[.int .i64 x, .int .i64 y]] w fun e w' => e = .returned (.int .i64 (x + y)) ∧ Below w.heap.size w w' := by
  refine extent_end.calls x y (x + y) w ?_
  unfold extent_end.f
  unfold Sm at h
  rw [show wrap64 (x + y) = x + y by unfold wrap64; omega]
section
variable {P : Program} {ops : Array Oper} {Q : Exit → Act → World → Prop} {S : World → Prop}
/-- an operation of a region that draws, taken first: it yields in every world that meets S -/
theorem take_op {fuel : Nat} {listed : Array Bool} {a : Act} {w : World} (i : Nat) (N : Option Tmp) (v : Value) {oi : Oper} (hi : ops[i]? = some oi) (hd : oi.dst = N) (hs : Region.noSelect ops = true) (hf : Region.free .any ops listed i = true) (hr : (Region.ready .any ops listed).contains i = true)
    (hQ : ∀ c a w, Q (.panic c) (a.put oi.dst v) w → Q (.panic c) a w) (hw : Region.wanted oi (yielded ops a.tmps) = true) (hy : ∀ w, S w → (execOp a.eval oi).run P w = .ok (.value v) w) (hS : S w)
    (h : wpAnyH P .any ops Q S fuel (listed.setIfInBounds i true) (a.put N v) w) : wpAnyH P .any ops Q S (fuel + 1) listed a w := by
  subst hd
  exact wpAnyH_take hi hs hf hr hQ (.inl ⟨hw, hy⟩) hS h
/-- one whose guard is false, passed by -/
theorem skip_op {fuel : Nat} {listed : Array Bool} {a : Act} {w : World} (i : Nat) (N : Option Tmp) {oi : Oper} (hi : ops[i]? = some oi) (hd : oi.dst = N) (hs : Region.noSelect ops = true) (hf : Region.free .any ops listed i = true) (hr : (Region.ready .any ops listed).contains i = true)
    (hQ : ∀ c a w, Q (.panic c) (a.put oi.dst undef) w → Q (.panic c) a w) (hw : Region.wanted oi (yielded ops a.tmps) = false) (hS : S w)
    (h : wpAnyH P .any ops Q S fuel (listed.setIfInBounds i true) (a.put N undef) w) : wpAnyH P .any ops Q S (fuel + 1) listed a w := by
  subst hd
  exact wpAnyH_take hi hs hf hr hQ (.inr ⟨hw, rfl⟩) hS h
end
set_option maxHeartbeats 8000000 in
set_option maxRecDepth 100000 in
theorem over_calls (cb : Nat) (e1 e2 x y : Int) (w : World) (h : w.heap[cb]? = some (.cells #[.int .i64 e1, .int .i64 e2] 31 (0, 0))) (he : Sm e1 e2) (hx : Sm x y) :
    Calls Try.prog 26 #[.agg #[.int .i64 x, .int .i64 y], .pointer (some ⟨cb, 0, none⟩)] w fun e w' => e = .returned (.bool (decide (x < e1 + e2 ∧ e1 < x + y))) ∧ Below w.heap.size w w' := by
  have hc := blk_lt h
  have k0 : (w.alloc (.cells #[.int .i64 x, .int .i64 y] 31)).cell? ⟨cb, 0, none⟩ = some (.int .i64 e1) := (blk_cell (blk_alloc h _) 0).trans rfl
  have k1 : (w.alloc (.cells #[.int .i64 x, .int .i64 y] 31)).cell? ⟨cb, 1, none⟩ = some (.int .i64 e2) := (blk_cell (blk_alloc h _) 1).trans rfl
  have k2 : (w.alloc (.cells #[.int .i64 x, .int .i64 y] 31)).cell? ⟨w.heap.size, 0, none⟩ = some (.int .i64 x) := (blk_cell (heap_alloc_new w _) 0).trans rfl
  have k3 : (w.alloc (.cells #[.int .i64 x, .int .i64 y] 31)).cell? ⟨w.heap.size, 1, none⟩ = some (.int .i64 y) := (blk_cell (heap_alloc_new w _) 1).trans rfl
  clear h
  have HE := Aside0.mk he
  have HX := Aside0.mk hx
  have k4 : Below w.heap.size w (w.alloc (.cells #[.int .i64 x, .int .i64 y] 31)) := (Below.refl _ _).alloc (Nat.le_refl _) _
  by_cases hd : x < e1 + e2
  · have hd' : decide (x < e1 + e2) = true := decide_eq_true hd
    have HD := Aside0.mk hd
    clear hd
    go_enter Try.func26, Try.ntmps26
    go_wp2
    first | go_region_held3 (fun w' => w'.cell? ⟨cb, 0, none⟩ = some (.int .i64 e1) ∧ w'.cell? ⟨cb, 1, none⟩ = some (.int .i64 e2) ∧ w'.cell? ⟨w.heap.size, 0, none⟩ = some (.int .i64 x) ∧ w'.cell? ⟨w.heap.size, 1, none⟩ = some (.int .i64 y) ∧ Below w.heap.size w w')
      (first | exact ⟨k0, k1, k2, k3, k4.drew⟩ | assumption | (obtain ⟨s0, s1, s2, s3, s4⟩ := ‹(World.cell? _ _ = some _) ∧ _ ∧ _ ∧ _ ∧ _›; exact ⟨pw_cell_below hb s0, pw_cell_below hb s1, pw_cell_below hb s2, pw_cell_below hb s3, below_then s4 s4.size hb⟩))
      (first | (go_at_call 27; refine (end_calls _ _ _ (by first | exact HE.out | exact HX.out)).mono ?_; rintro e w8 ⟨rfl, hb⟩)) | fail
    all_goals
      obtain ⟨_, _, _, _, hB⟩ := ‹(World.cell? _ _ = some _) ∧ _ ∧ _ ∧ _ ∧ Below _ _ _›
      go_wp2
      go_ret
      exact ⟨by first | (simp [HD.out]; done) | (have := HD.out; simp; omega), hB⟩
  · have hd' : decide (x < e1 + e2) = false := decide_eq_false hd
    have HD := Aside0.mk hd
    clear hd
    go_enter Try.func26, Try.ntmps26
    go_wp2
    refine wp_region_held_drew (S := (fun w' => w'.cell? ⟨cb, 0, none⟩ = some (.int .i64 e1) ∧ w'.cell? ⟨cb, 1, none⟩ = some (.int .i64 e2) ∧ w'.cell? ⟨w.heap.size, 0, none⟩ = some (.int .i64 x) ∧ w'.cell? ⟨w.heap.size, 1, none⟩ = some (.int .i64 y) ∧ Below w.heap.size w w')) (by kernel_rfl) ⟨k0, k1, k2, k3, k4.drew⟩ (fun hHeld => ?_)
    clear k0 k1 k2 k3 k4
    refine take_op 0 (some 4) (.pointer (some ⟨w.heap.size, 0, none⟩)) rfl rfl (by kernel_rfl) (by kernel_rfl) (by kernel_rfl) (fun _ _ _ h => h) (by rfl) (by intro w hSw; obtain ⟨s0, s1, s2, s3, s4⟩ := hSw; go_simp) (by assumption) ?_
    simp only [Act.put, List.setIfInBounds_toArray, List.set_cons_zero, List.set_cons_succ]
    refine take_op 1 (some 5) (.int .i64 x) rfl rfl (by kernel_rfl) (by kernel_rfl) (by kernel_rfl) (fun _ _ _ h => h) (by rfl) (by intro w hSw; obtain ⟨s0, s1, s2, s3, s4⟩ := hSw; go_simp) (by assumption) ?_
    simp only [Act.put, List.setIfInBounds_toArray, List.set_cons_zero, List.set_cons_succ]
    refine take_op 2 (some 6) (.agg #[.int .i64 e1, .int .i64 e2]) rfl rfl (by kernel_rfl) (by kernel_rfl) (by kernel_rfl) (fun _ _ _ h => h) (by rfl) (by intro w hSw; obtain ⟨s0, s1, s2, s3, s4⟩ := hSw; go_simp) (by assumption) ?_
    simp only [Act.put, List.setIfInBounds_toArray, List.set_cons_zero, List.set_cons_succ]
    refine wpAnyH_ready (rs := [3]) (by kernel_rfl) (by simp) (AllReadyH.cons rfl (fun K hK => ?_) AllReadyH.nil)
    go_simp
    go_at_call 27
    refine (end_calls _ _ _ HE.out).mono ?_
    rintro e w8 ⟨rfl, hb⟩
    have HB8 := Aside0.mk hb
    clear hb
    refine hK.out _ _ ?_ (fun hHeld => ?_)
    · obtain ⟨s0, s1, s2, s3, s4⟩ := hHeld
      exact ⟨pw_cell_below HB8.out s0, pw_cell_below HB8.out s1, pw_cell_below HB8.out s2, pw_cell_below HB8.out s3, below_then s4 s4.size HB8.out⟩
    clear hK K
    refine take_op 4 (some 8) (.bool false) rfl rfl (by kernel_rfl) (by kernel_rfl) (by kernel_rfl) (fun _ _ _ h => h) (by rfl) (by intro w hSw; obtain ⟨s0, s1, s2, s3, s4⟩ := hSw; go_simp) (by assumption) ?_
    simp only [Act.put, List.setIfInBounds_toArray, List.set_cons_zero, List.set_cons_succ]
    refine take_op 5 (some 9) (.bool false) rfl rfl (by kernel_rfl) (by kernel_rfl) (by kernel_rfl) (fun _ _ _ h => h) (by rfl) (by intro w hSw; obtain ⟨s0, s1, s2, s3, s4⟩ := hSw; go_simp) (by assumption) ?_
    simp only [Act.put, List.setIfInBounds_toArray, List.set_cons_zero, List.set_cons_succ]
    refine skip_op 6 (some 10) rfl rfl (by kernel_rfl) (by kernel_rfl) (by kernel_rfl) (fun _ _ _ h => h) (by rfl) (by assumption) ?_
    simp only [Act.put, List.setIfInBounds_toArray, List.set_cons_zero, List.set_cons_succ]
    refine skip_op 7 (some 11) rfl rfl (by kernel_rfl) (by kernel_rfl) (by kernel_rfl) (fun _ _ _ h => h) (by rfl) (by assumption) ?_
    simp only [Act.put, List.setIfInBounds_toArray, List.set_cons_zero, List.set_cons_succ]
    refine skip_op 8 (some 12) rfl rfl (by kernel_rfl) (by kernel_rfl) (by kernel_rfl) (fun _ _ _ h => h) (by rfl) (by assumption) ?_
    simp only [Act.put, List.setIfInBounds_toArray, List.set_cons_zero, List.set_cons_succ]
    refine skip_op 9 (some 13) rfl rfl (by kernel_rfl) (by kernel_rfl) (by kernel_rfl) (fun _ _ _ h => h) (by rfl) (by assumption) ?_
    simp only [Act.put, List.setIfInBounds_toArray, List.set_cons_zero, List.set_cons_succ]
    refine skip_op 10 (some 14) rfl rfl (by kernel_rfl) (by kernel_rfl) (by kernel_rfl) (fun _ _ _ h => h) (by rfl) (by assumption) ?_
    simp only [Act.put, List.setIfInBounds_toArray, List.set_cons_zero, List.set_cons_succ]
    refine take_op 11 (some 15) (.bool false) rfl rfl (by kernel_rfl) (by kernel_rfl) (by kernel_rfl) (fun _ _ _ h => h) (by rfl) (by intro w hSw; obtain ⟨s0, s1, s2, s3, s4⟩ := hSw; go_simp) (by assumption) ?_
    simp only [Act.put, List.setIfInBounds_toArray, List.set_cons_zero, List.set_cons_succ]
    refine take_op 12 (some 3) (.bool false) rfl rfl (by kernel_rfl) (by kernel_rfl) (by kernel_rfl) (fun _ _ _ h => h) (by rfl) (by intro w hSw; obtain ⟨s0, s1, s2, s3, s4⟩ := hSw; go_simp) (by assumption) ?_
    simp only [Act.put, List.setIfInBounds_toArray, List.set_cons_zero, List.set_cons_succ]
    refine wpAnyH_done (by kernel_rfl) ?_ _
    obtain ⟨_, _, _, _, hB⟩ := hHeld
    clear HB8
    go_wp2
    go_ret
    exact ⟨by first | (simp [HD.out]; done) | (have := HD.out; simp; omega), hB⟩
set_option maxHeartbeats 8000000 in
set_option maxRecDepth 100000 in
theorem holds_calls (cb : Nat) (e1 e2 x y : Int) (w : World) (h : w.heap[cb]? = some (.cells #[.int .i64 e1, .int .i64 e2] 31 (0, 0))) (he : Sm e1 e2) (hx : Sm x y) :
    Calls Try.prog 37 #[.agg #[.int .i64 x, .int .i64 y], .pointer (some ⟨cb, 0, none⟩)] w fun e w' => e = .returned (.bool (decide (x ≤ e1 ∧ e1 + e2 ≤ x + y))) ∧ Below w.heap.size w w' := by
  have hc := blk_lt h
  have k0 : (w.alloc (.cells #[.int .i64 x, .int .i64 y] 31)).cell? ⟨cb, 0, none⟩ = some (.int .i64 e1) := (blk_cell (blk_alloc h _) 0).trans rfl
  have k1 : (w.alloc (.cells #[.int .i64 x, .int .i64 y] 31)).cell? ⟨cb, 1, none⟩ = some (.int .i64 e2) := (blk_cell (blk_alloc h _) 1).trans rfl
  have k2 : (w.alloc (.cells #[.int .i64 x, .int .i64 y] 31)).cell? ⟨w.heap.size, 0, none⟩ = some (.int .i64 x) := (blk_cell (heap_alloc_new w _) 0).trans rfl
  have k3 : (w.alloc (.cells #[.int .i64 x, .int .i64 y] 31)).cell? ⟨w.heap.size, 1, none⟩ = some (.int .i64 y) := (blk_cell (heap_alloc_new w _) 1).trans rfl
  clear h
  have HE := Aside0.mk he
  have HX := Aside0.mk hx
  have k4 : Below w.heap.size w (w.alloc (.cells #[.int .i64 x, .int .i64 y] 31)) := (Below.refl _ _).alloc (Nat.le_refl _) _
  by_cases hd : x ≤ e1
  · have hd' : decide (x ≤ e1) = true := decide_eq_true hd
    have HD := Aside0.mk hd
    clear hd
    go_enter Try.func37, Try.ntmps37
    go_wp2
    first | go_region_held3 (fun w' => w'.cell? ⟨cb, 0, none⟩ = some (.int .i64 e1) ∧ w'.cell? ⟨cb, 1, none⟩ = some (.int .i64 e2) ∧ w'.cell? ⟨w.heap.size, 0, none⟩ = some (.int .i64 x) ∧ w'.cell? ⟨w.heap.size, 1, none⟩ = some (.int .i64 y) ∧ Below w.heap.size w w')
      (first | exact ⟨k0, k1, k2, k3, k4.drew⟩ | assumption | (obtain ⟨s0, s1, s2, s3, s4⟩ := ‹(World.cell? _ _ = some _) ∧ _ ∧ _ ∧ _ ∧ _›; exact ⟨pw_cell_below hb s0, pw_cell_below hb s1, pw_cell_below hb s2, pw_cell_below hb s3, below_then s4 s4.size hb⟩))
      (first | (go_at_call 27; refine (end_calls _ _ _ (by first | exact HE.out | exact HX.out)).mono ?_; rintro e w8 ⟨rfl, hb⟩)) | fail
    all_goals
      obtain ⟨_, _, _, _, hB⟩ := ‹(World.cell? _ _ = some _) ∧ _ ∧ _ ∧ _ ∧ Below _ _ _›
      go_wp2
      go_ret
      exact ⟨by first | (simp [HD.out]; done) | (have := HD.out; simp; omega), hB⟩
  · have hd' : decide (x ≤ e1) = false := decide_eq_false hd
    have HD := Aside0.mk hd
    clear hd
    go_enter Try.func37, Try.ntmps37
    go_wp2
    go_quiet (fail)
    go_wp2
    go_ret
    exact ⟨by first | (simp [HD.out]; done) | (have := HD.out; simp; omega), pw_below_drewN k4 _⟩
end Go.Proofs.Ytdchljjhajbehaa.Ex
