-- Written by the session's own xprint (over the kit's print program): functions, contracts.
import Derived.Test.YtkbblkfbgpohkaaPrint0
namespace Go.Proofs.Ytkbblkfbgpohkaa.Print
open Go.RowKit Go.Proofs.YtkbblkfbgpohkaaW.PrintWords Go.Proofs.YtkbblkfbgpohkaaW.PrintLast Go.Proofs.YtkbblkfbgpohkaaW.PrintMore
attribute [local go_sem] max2_int min2_int max_two min_two max_three min_three max_four min_four   -- for this text's walks alone
set_option linter.unusedVariables false
set_option linter.unusedSimpArgs false

/-! ### peristylelaw12_num: function 15 -/
def peristylelaw12_num.f (a0 : Int) : Option (Int × Int × ByteArray) := some (1, a0, (⟨#[]⟩ : ByteArray))
set_option maxHeartbeats 8000000 in
set_option maxRecDepth 100000 in
theorem peristylelaw12_num.calls (a0 : Int) (r1 : Int) (r2 : Int) (r3 : ByteArray) (w : World) (h : peristylelaw12_num.f a0 = some (r1, r2, r3)) :
    Calls Try.prog 15 #[.int .i64 a0] w fun e w' => e = .returned (.agg #[.int .i64 r1, .int .i64 r2, .string r3]) ∧ Below w.heap.size w w' := by
  have hu32 := Try.underlying32
  have HB := Aside0.mk (Below.refl w.heap.size w)
  have H : (some (1, a0, (⟨#[]⟩ : ByteArray))) = some (r1, r2, r3) := h
  clear h
  simp only [Option.some.injEq, Prod.mk.injEq] at H
  obtain ⟨rfl, rfl, rfl⟩ := H
  go_enter Try.func15, Try.ntmps15
  go_wp2_with (first | ((with_reducible refine gate_dst (N := 2) rfl ?_); refine box_event ?hg (N := 2) ?hd (cs := #[.int .i64 0, .int .i64 0, .string (⟨#[]⟩ : ByteArray)]) (t := 32) ?hr ?_; (case hd => rfl); (case hg => rfl); (case hr => first | (go_simp; done) | (go_simp; rfl)); intro gb101 hg w2 hbox hb; have n0_ := Aside0.mk (below_step (by repeat (first | (with_reducible first | exact HB.out | apply below_alloc | apply pw_below_drewN | apply below_drew1) | exact HB.out)) hb); have n1_ := Aside0.mk (hbox); have n2_ := Aside0.mk ((by rw [hg]; exact (below_size (by repeat (first | (with_reducible first | exact HB.out | apply below_alloc | apply pw_below_drewN | apply below_drew1) | exact HB.out))) : w.heap.size ≤ gb101)); have n3_ := Aside0.mk ((by rw [hg]; exact (below_size (by repeat (first | (with_reducible first | exact HB.out | apply below_alloc | apply pw_below_drewN | apply below_drew1) | exact HB.out))) : w.heap.size ≤ gb101)); clear HB; have HB := n0_; have BK101 := n1_; have GW101 := n2_; have GE101 := n3_; clear n0_ n1_ n2_ n3_; clear hb hbox hg; have hcz3_0 : w2.cell? ⟨gb101, 0, none⟩ = some (.int .i64 0) := (blk_cell BK101.out 0).trans rfl; have hcz3_1 : w2.cell? ⟨gb101, 1, none⟩ = some (.int .i64 0) := (blk_cell BK101.out 1).trans rfl; have hcz3_2 : w2.cell? ⟨gb101, 2, none⟩ = some (.string (⟨#[]⟩ : ByteArray)) := (blk_cell BK101.out 2).trans rfl; have hfz3_0 := blk_frozen BK101.out 0; have hfz3_1 := blk_frozen BK101.out 1; have hfz3_2 := blk_frozen BK101.out 2) | ((with_reducible refine gate_store (t := 32) (p := 2) rfl ?_); refine store_event (t := 32) (p := 2) (v := ?vo_w4) (w1 := (((w2.setCell ⟨gb101, 0, none⟩ (.int .i64 1)).setCell ⟨gb101, 1, none⟩ (.int .i64 a0)).setCell ⟨gb101, 2, none⟩ (.string (⟨#[]⟩ : ByteArray)))) ?hg ?ho ?hn ?hr ?_; (case ho => rfl); (case hg => rfl); (case hn => rfl); (case hr => first | (go_simp; done) | (go_simp; rfl)); intro w4 hw; have n0_ : Aside0 (w4.heap[gb101]? = some (.cells #[.int .i64 1, .int .i64 a0, .string (⟨#[]⟩ : ByteArray)] 32 (0, 0))) := ⟨(by rw [hw]; exact (by (with_reducible repeat (first | refine blk_drewN ?_ _ | refine blk_drew ?_ | refine blk_alloc ?_ _)); refine blk_put (cs := #[.int .i64 1, .int .i64 a0, .string (⟨#[]⟩ : ByteArray)]) ?_ 2 _ rfl; (with_reducible repeat (first | refine blk_drewN ?_ _ | refine blk_drew ?_ | refine blk_alloc ?_ _)); refine blk_put (cs := #[.int .i64 1, .int .i64 0, .string (⟨#[]⟩ : ByteArray)]) ?_ 1 _ rfl; (with_reducible repeat (first | refine blk_drewN ?_ _ | refine blk_drew ?_ | refine blk_alloc ?_ _)); refine blk_put (cs := #[.int .i64 0, .int .i64 0, .string (⟨#[]⟩ : ByteArray)]) ?_ 0 _ rfl; (with_reducible repeat (first | refine blk_drewN ?_ _ | refine blk_drew ?_ | refine blk_alloc ?_ _)); exact BK101.out))⟩; have n1_ : Aside0 (Below w.heap.size w w4) := ⟨(by rw [hw]; exact (by repeat (first | (with_reducible first | exact HB.out | apply below_alloc | apply pw_below_drewN | apply below_drew1 | refine below_set ?_ GE101.out) | exact HB.out)))⟩; clear hw; clear BK101; clear HB; have BK101 := n0_; have HB := n1_; clear n0_ n1_))
  refine bodyPost_ret (results_cell_row rfl _ _ gb101 32 #[.int .i64 1, .int .i64 a0, .string (⟨#[]⟩ : ByteArray)] (0, 0) _ rfl (by (with_reducible repeat (first | refine blk_drewN ?_ _ | refine blk_drew ?_ | refine blk_alloc ?_ _)); exact BK101.out) Try.underlying32 rfl (by kernel_rfl)) rfl ?_
  exact ⟨by first | rfl | (simp [errW_none, errW_some] <;> rfl) | (simp [*, errW_none, errW_some] <;> rfl), by repeat (first | (with_reducible first | exact HB.out | apply below_alloc | apply pw_below_drewN | apply below_drew1 | refine below_set ?_ GE101.out) | exact HB.out)⟩

/-! ### api_Cell_17: function 17 (a contract of the session's own) -/
def api_Cell_17.f (l0 : List S32) : Option (List S32) := if l0.length ≤ 2000000000000 then some l0 else none
set_option maxHeartbeats 1600000 in
theorem api_Cell_17.calls (A0 : Option Addr) (c0 : Nat) (l0 : List S32) (r : List S32) (w : World) (hr0 : k32.C w A0 l0.length l0) (hc0 : l0.length ≤ c0) (h : api_Cell_17.f l0 = some r) :
    Calls Try.prog 17 #[.slice A0 l0.length c0] w fun e w' => ∃ v0_ : Value, e = .returned v0_ ∧ k32.R 32 w' w.heap.size (fun _ => True) v0_ r ∧ Below w.heap.size w w' := by
  have hl : l0.length ≤ 2000000000000 := by
    unfold api_Cell_17.f at h
    split at h
    · assumption
    · exact absurd h (by simp)
  obtain rfl : l0 = r := by
    unfold api_Cell_17.f at h
    rw [if_pos hl] at h
    exact Option.some.inj h
  have HR := Aside0.mk hr0
  have HC := Aside0.mk hc0
  have HL := Aside0.mk hl
  clear hr0 hc0 hl h
  go_enter Try.func17, Try.ntmps17
  rcases A0 with _ | ad
  · have h0 : l0 = [] := by
      have := HR.out.2.2
      rcases l0 with _ | ⟨x, l⟩
      · rfl
      · obtain ⟨ad, he, _⟩ := this (by simp)
        exact absurd he (by simp)
    subst h0
    have hE := Go.Lib.run_eql_slice_nil_nil (P := Try.prog) w (t := 22) (e := 32) 0 c0 Try.underlying22
    go_wp2
    go_ret
    exact ⟨_, rfl, Kd.R_nil _ _ _ _ _, Below.refl _ _⟩
  · have hE := Go.Lib.run_eql_slice_some_nil (P := Try.prog) w (t := 22) (e := 32) ad l0.length c0 Try.underlying22
    go_wp2_with (first | ((with_reducible refine gate_dst (N := 5) rfl ?_); refine Kd.R_lit k32 (w0 := w) w.heap.size 32 rfl (N := 5) rfl (xs := []) (inner := []) (ok := fun _ => True) (okp := fun _ => True) (by first | rfl | (go_simp; done) | (go_simp; rfl)) (Reps.none _ _) (fun _ _ => trivial) trivial (Below.refl _ _) (Nat.le_refl _) (by simp) ?_; intro v5 w1 ho5 hb hg_ hnew_; have HO5 := Aside0.mk ho5; have HB := Aside0.mk hb; clear ho5 hb hg_ hnew_; obtain ⟨Ao5, co5, eo5⟩ := Kd.R_slice HO5.out; subst eo5) | ((with_reducible refine gate_builtin (b := .append) (xs := #[.tmp 5, .tmp 6]) rfl ?_); at_builtin; refine Kd.R_append_rows k32 (w0 := w) w.heap.size rfl (.tmp 5) (.tmp 6) 22 32 _ _ rfl Try.underlying22 info32 rfl (by decide) (by omega) _ [] l0 _ _ _ (fun _ => True) (fun _ => False) rfl rfl HO5.out (Kd.C_below HR.out HB.out) (fun _ _ h => h) (fun _ h => h.elim) (fun _ _ => trivial) HB.out (below_size HB.out) (by have := HL.out; simp; omega) ?_; intro v7 w2 ho7 hb7 hg_ hat_; have HO7 := Aside0.mk ho7; have HB7 := Aside0.mk hb7; clear ho7 hb7 hg_ hat_))
    go_ret
    exact ⟨_, rfl, by simpa using HO7.out, HB7.out⟩


/-! ### nulls_null: function 19 -/
def nulls_null.f (a0_0 : Int) (a0_1 : Int) (a0_2 : ByteArray) : Option (Bool) := some (a0_0 == 0)
set_option maxHeartbeats 8000000 in
set_option maxRecDepth 100000 in
theorem nulls_null.calls (a0_0 : Int) (a0_1 : Int) (a0_2 : ByteArray) (r : Bool) (w : World) (h : nulls_null.f a0_0 a0_1 a0_2 = some r) :
    Calls Try.prog 19 #[.agg #[.int .i64 a0_0, .int .i64 a0_1, .string a0_2]] w fun e w' => e = .returned (.bool r) ∧ Below w.heap.size w w' := by
  have hu32 := Try.underlying32
  have HB := Aside0.mk (Below.refl w.heap.size w)
  have H : (some (a0_0 == 0)) = some r := h
  clear h
  obtain rfl := Option.some.inj H
  go_enter Try.func19, Try.ntmps19
  go_wp2_with (first | ((with_reducible refine gate_dst (N := 1) rfl ?_); refine box_event ?hg (N := 1) ?hd (cs := #[.int .i64 a0_0, .int .i64 a0_1, .string a0_2]) (t := 32) ?hr ?_; (case hd => rfl); (case hg => rfl); (case hr => first | (go_simp; done) | (go_simp; rfl)); intro gb102 hg w2 hbox hb; have n0_ := Aside0.mk (below_step (by repeat (first | (with_reducible first | exact HB.out | apply below_alloc | apply pw_below_drewN | apply below_drew1) | exact HB.out)) hb); have n1_ := Aside0.mk (hbox); have n2_ := Aside0.mk ((by rw [hg]; exact (below_size (by repeat (first | (with_reducible first | exact HB.out | apply below_alloc | apply pw_below_drewN | apply below_drew1) | exact HB.out))) : w.heap.size ≤ gb102)); have n3_ := Aside0.mk ((by rw [hg]; exact (below_size (by repeat (first | (with_reducible first | exact HB.out | apply below_alloc | apply pw_below_drewN | apply below_drew1) | exact HB.out))) : w.heap.size ≤ gb102)); clear HB; have HB := n0_; have BK102 := n1_; have GW102 := n2_; have GE102 := n3_; clear n0_ n1_ n2_ n3_; clear hb hbox hg; have hcz3_0 : w2.cell? ⟨gb102, 0, none⟩ = some (.int .i64 a0_0) := (blk_cell BK102.out 0).trans rfl; have hcz3_1 : w2.cell? ⟨gb102, 1, none⟩ = some (.int .i64 a0_1) := (blk_cell BK102.out 1).trans rfl; have hcz3_2 : w2.cell? ⟨gb102, 2, none⟩ = some (.string a0_2) := (blk_cell BK102.out 2).trans rfl; have hfz3_0 := blk_frozen BK102.out 0; have hfz3_1 := blk_frozen BK102.out 1; have hfz3_2 := blk_frozen BK102.out 2))
  go_ret
  exact ⟨by first | rfl | (simp [errW_none, errW_some] <;> rfl) | (simp [*, errW_none, errW_some] <;> rfl), by repeat (first | (with_reducible first | exact HB.out | apply below_alloc | apply pw_below_drewN | apply below_drew1 | refine below_set ?_ GE102.out) | exact HB.out)⟩

/-! ### nulls_Split_1: function 18 -/
def nulls_Split_1.f (a0_0 : Int) (a0_1 : Int) (a0_2 : ByteArray) : Option (Bool) := (nulls_null.f a0_0 a0_1 a0_2).bind fun t104 => (some t104)
set_option maxHeartbeats 8000000 in
set_option maxRecDepth 100000 in
theorem nulls_Split_1.calls (a0_0 : Int) (a0_1 : Int) (a0_2 : ByteArray) (r : Bool) (w : World) (h : nulls_Split_1.f a0_0 a0_1 a0_2 = some r) :
    Calls Try.prog 18 #[.agg #[.int .i64 a0_0, .int .i64 a0_1, .string a0_2]] w fun e w' => e = .returned (.bool r) ∧ Below w.heap.size w w' := by
  have hu32 := Try.underlying32
  have HB := Aside0.mk (Below.refl w.heap.size w)
  have H : ((nulls_null.f a0_0 a0_1 a0_2).bind fun t104 => (some t104)) = some r := h
  clear h
  replace H := Option.bind_eq_some_iff.mp H
  obtain ⟨t104, A20, H⟩ := H
  replace H : (some t104) = some r := H
  have A2 := Aside0.mk A20
  clear A20
  obtain rfl := Option.some.inj H
  go_enter Try.func18, Try.ntmps18
  go_wp2_with (first | ((with_reducible refine gate_dst (N := 1) rfl ?_); refine box_event ?hg (N := 1) ?hd (cs := #[.int .i64 a0_0, .int .i64 a0_1, .string a0_2]) (t := 32) ?hr ?_; (case hd => rfl); (case hg => rfl); (case hr => first | (go_simp; done) | (go_simp; rfl)); intro gb103 hg w3 hbox hb; have n0_ := Aside0.mk (below_step (by repeat (first | (with_reducible first | exact HB.out | apply below_alloc | apply pw_below_drewN | apply below_drew1) | exact HB.out)) hb); have n1_ := Aside0.mk (hbox); have n2_ := Aside0.mk ((by rw [hg]; exact (below_size (by repeat (first | (with_reducible first | exact HB.out | apply below_alloc | apply pw_below_drewN | apply below_drew1) | exact HB.out))) : w.heap.size ≤ gb103)); have n3_ := Aside0.mk ((by rw [hg]; exact (below_size (by repeat (first | (with_reducible first | exact HB.out | apply below_alloc | apply pw_below_drewN | apply below_drew1) | exact HB.out))) : w.heap.size ≤ gb103)); clear HB; have HB := n0_; have BK103 := n1_; have GW103 := n2_; have GE103 := n3_; clear n0_ n1_ n2_ n3_; clear hb hbox hg; have hcz4_0 : w3.cell? ⟨gb103, 0, none⟩ = some (.int .i64 a0_0) := (blk_cell BK103.out 0).trans rfl; have hcz4_1 : w3.cell? ⟨gb103, 1, none⟩ = some (.int .i64 a0_1) := (blk_cell BK103.out 1).trans rfl; have hcz4_2 : w3.cell? ⟨gb103, 2, none⟩ = some (.string a0_2) := (blk_cell BK103.out 2).trans rfl; have hfz4_0 := blk_frozen BK103.out 0; have hfz4_1 := blk_frozen BK103.out 1; have hfz4_2 := blk_frozen BK103.out 2) | ((with_reducible refine gate_callee (f := 19) rfl ?_); refine goesL_ (some 4) rfl rfl Try.func19 (by kernel_rfl) rfl #[.agg #[.int .i64 a0_0, .int .i64 a0_1, .string a0_2]] rfl (by (try simp only [List.map_toArray, List.map_cons, List.map_nil]); first | done | rfl | (simp only [List.length_drop, List.length_take]; rfl)) ?_; (with_reducible refine (nulls_null.calls a0_0 a0_1 a0_2 t104 _ A2.out).mono ?_); rintro e w5 ⟨rfl, hb⟩; refine ⟨_, rfl, ?_⟩; have n0_ := Aside0.mk (blk_below (g := gb103) (o := .cells #[.int .i64 a0_0, .int .i64 a0_1, .string a0_2] 32 (0, 0)) (by (with_reducible repeat (first | refine blk_drewN ?_ _ | refine blk_drew ?_ | refine blk_alloc ?_ _)); exact BK103.out) hb); have n1_ := Aside0.mk (below_step (by repeat (first | (with_reducible first | exact HB.out | apply below_alloc | apply pw_below_drewN | apply below_drew1 | refine below_set ?_ GE103.out) | exact HB.out)) hb); clear BK103; clear HB; have BK103 := n0_; have HB := n1_; clear n0_ n1_; (try clear hb); (try clear hb2); (try clear hk); (try clear hi)))
  go_ret
  exact ⟨by first | rfl | (simp [errW_none, errW_some] <;> rfl) | (simp [*, errW_none, errW_some] <;> rfl), by repeat (first | (with_reducible first | exact HB.out | apply below_alloc | apply pw_below_drewN | apply below_drew1 | refine below_set ?_ GE103.out) | exact HB.out)⟩

/-! ### api_Cell_25_fn18: function 25 -/
def api_Cell_25_fn18.l0 : Nat → List (S32) → Int → Int → Option (Int)
  | 0, _, _, _ => none
  | k + 1, x0, x7, x8 => if x8 < x7 then (if 0 ≤ x8 then (if x8 < (x0.length : Int) then ((nulls_Split_1.f ((rd_T32 x0 x8).f0) ((rd_T32 x0 x8).f1) ((rd_T32 x0 x8).f2)).bind fun t106 => (if t106 = true then (some x8) else (api_Cell_25_fn18.l0 k x0 x7 (wrap64 (x8 + 1))))) else (none)) else (none)) else (some (-1))
def api_Cell_25_fn18.f (k : Nat) (l0 : List (S32))  : Option (Int) := api_Cell_25_fn18.l0 k l0 (l0.length : Int) 0
theorem api_Cell_25_fn18.l0_succ (k : Nat) (x0 : List (S32)) (x7 : Int) (x8 : Int) : api_Cell_25_fn18.l0 (k + 1) x0 x7 x8 = (if x8 < x7 then (if 0 ≤ x8 then (if x8 < (x0.length : Int) then ((nulls_Split_1.f ((rd_T32 x0 x8).f0) ((rd_T32 x0 x8).f1) ((rd_T32 x0 x8).f2)).bind fun t106 => (if t106 = true then (some x8) else (api_Cell_25_fn18.l0 k x0 x7 (wrap64 (x8 + 1))))) else (none)) else (none)) else (some (-1))) := by
  simp only [api_Cell_25_fn18.l0]
theorem api_Cell_25_fn18.mono_l : ∀ k, (∀ y0 y1 y2, LeO (api_Cell_25_fn18.l0 k y0 y1 y2) (api_Cell_25_fn18.l0 (k + 1) y0 y1 y2))
  | 0 => fun _ _ _ r h => by simp [api_Cell_25_fn18.l0] at h
  | k + 1 => by
    have ih0 := api_Cell_25_fn18.mono_l k
    · intro y0 y1 y2
      unfold api_Cell_25_fn18.l0
      repeat' first
      | (with_reducible exact ih0 _ _ _)
      | (with_reducible exact LeO.refl _)
      | (with_reducible exact LeO.none _)
      | (with_reducible refine LeO.ite ?_ ?_)
      | (with_reducible refine LeO.bind ?_ (fun _ => ?_))
      | exact ih0 _ _ _
      | exact LeO.none _
      | refine LeO.ite ?_ ?_
      | refine LeO.bind ?_ (fun _ => ?_)
theorem api_Cell_25_fn18.mono : ∀ a0 k, LeO (api_Cell_25_fn18.f k a0) (api_Cell_25_fn18.f (k + 1) a0) := by
  intro a0 k
  have ih0 := api_Cell_25_fn18.mono_l k
  unfold api_Cell_25_fn18.f
  repeat' first
      | (with_reducible exact ih0 _ _ _)
      | (with_reducible exact LeO.refl _)
      | (with_reducible exact LeO.none _)
      | (with_reducible refine LeO.ite ?_ ?_)
      | (with_reducible refine LeO.bind ?_ (fun _ => ?_))
      | exact ih0 _ _ _
      | exact LeO.none _
      | refine LeO.ite ?_ ?_
      | refine LeO.bind ?_ (fun _ => ?_)
set_option maxHeartbeats 8000000 in
set_option maxRecDepth 100000 in
theorem api_Cell_25_fn18.calls (k : Nat) (A0 : Option Addr) (c0 : Nat) (l0 : List (S32))  (r : Int) (w : World) (hr0 : Kd.C k32 w A0 l0.length l0) (hc0 : l0.length ≤ c0) (h : api_Cell_25_fn18.f k l0 = some r) :
    Calls Try.prog 25 #[.slice A0 l0.length c0, .func (.func 18) #[] #[]] w fun e w' => e = .returned (.int .i64 r) ∧ Below w.heap.size w w' := by
  have hu32 := Try.underlying32
  have HR0 := Aside0.mk hr0
  have HC0 := Aside0.mk hc0
  clear hr0 hc0
  have HB := Aside0.mk (Below.refl w.heap.size w)
  have H : (api_Cell_25_fn18.l0 k l0 (l0.length : Int) 0) = some r := h
  clear h
  have H' := Aside0.mk H
  clear H
  go_enter Try.func25, Try.ntmps25
  go_wp2
  go_loopg [8] k (fun kq v8 w' => ∃ (x8_1 : Int), v8 = .int .i64 x8_1 ∧ Aside0 (api_Cell_25_fn18.l0 kq l0 (l0.length : Int) x8_1 = some r) ∧ Aside0 (kq ≤ k) ∧ Aside0 (Below w.heap.size w w'))
  case atStart => exact ⟨(0), (by first | rfl | (simp; done) | (simp [*]; done)), H', ⟨Nat.le_refl _⟩, ⟨by repeat (first | (with_reducible first | exact HB.out | apply below_alloc | apply pw_below_drewN | apply below_drew1) | exact HB.out)⟩⟩
  case round =>
    clear H'
    try clear c2
    try clear p2
    obtain ⟨x8_1, rfl, HA, HK1, HB⟩ := hrel
    cases gk with
    | zero => exact absurd HA.out (by simp [api_Cell_25_fn18.l0])
    | succ k1 =>
      have H := HA.out
      clear HA
      simp only [api_Cell_25_fn18.l0] at H
      by_cases c3 : x8_1 < (l0.length : Int)
      · rw [if_pos c3] at H
        have c3b0 : decide (x8_1 < (l0.length : Int)) = true := decide_eq_true c3
        clear c3
        by_cases c4 : 0 ≤ x8_1
        · rw [if_pos c4] at H
          have c4b0 : decide (0 ≤ x8_1) = true := decide_eq_true c4
          clear c4
          by_cases c5 : x8_1 < (l0.length : Int)
          · rw [if_pos c5] at H
            have c5b0 : decide (x8_1 < (l0.length : Int)) = true := decide_eq_true c5
            clear c5
            replace H := Option.bind_eq_some_iff.mp H
            obtain ⟨t106, A60, H⟩ := H
            replace H : (if t106 = true then (some x8_1) else (api_Cell_25_fn18.l0 k1 l0 (l0.length : Int) (wrap64 (x8_1 + 1)))) = some r := H
            have A6 := Aside0.mk A60
            clear A60
            by_cases c7 : t106 = true
            · subst c7
              have H1 : (some x8_1) = some r := by rw [if_pos rfl] at H; exact H
              clear H
              have H := H1
              clear H1
              obtain rfl := Option.some.inj H
              have p105 : 0 ≤ (x8_1 : Int) := of_decide_eq_true (by first | (with_reducible assumption) | assumption)
              have q105 : x8_1 < (l0.length : Int) := of_decide_eq_true (by first | (with_reducible assumption) | assumption)
              obtain ⟨ad105, e105, hx105_0, hx105_1, hx105_2⟩ := at_T32 HR0.out x8_1 p105 q105
              cases e105
              replace hx105_0 := (HB.out.cell (World.block_lt_of_cell? w _ hx105_0)).trans hx105_0
              replace hx105_1 := (HB.out.cell (World.block_lt_of_cell? w _ hx105_1)).trans hx105_1
              replace hx105_2 := (HB.out.cell (World.block_lt_of_cell? w _ hx105_2)).trans hx105_2
              replace p105 := eq_true p105
              replace q105 := eq_true q105
              go_wp2_with (first | ((with_reducible refine gate_list ?_); refine gate_value rfl ?_; refine goesV_ (some 16) rfl rfl Try.func18 (by kernel_rfl) rfl #[.agg #[.int .i64 ((rd_T32 l0 x8_1).f0), .int .i64 ((rd_T32 l0 x8_1).f1), .string ((rd_T32 l0 x8_1).f2)]] rfl (by first | rfl | simp) (by (try simp only [List.map_toArray, List.map_cons, List.map_nil]); first | done | rfl | (simp only [List.length_drop, List.length_take]; rfl)) ?_; (with_reducible refine (nulls_Split_1.calls ((rd_T32 l0 x8_1).f0) ((rd_T32 l0 x8_1).f1) ((rd_T32 l0 x8_1).f2) true _ A6.out).mono ?_); rintro e w8 ⟨rfl, hb⟩; refine ⟨_, rfl, ?_⟩; have n0_ := Aside0.mk (below_step (by repeat (first | (with_reducible first | exact HB.out | apply below_alloc | apply pw_below_drewN | apply below_drew1) | exact HB.out)) hb); clear HB; have HB := n0_; clear n0_; (try clear hb); (try clear hb2); (try clear hk); (try clear hi)))
              go_ret
              exact ⟨by first | rfl | (simp [errW_none, errW_some] <;> rfl) | (simp [*, errW_none, errW_some] <;> rfl), by repeat (first | (with_reducible first | exact HB.out | apply below_alloc | apply pw_below_drewN | apply below_drew1) | exact HB.out)⟩
            · replace c7 := Bool.eq_false_iff.mpr c7
              subst c7
              have H1 : (api_Cell_25_fn18.l0 k1 l0 (l0.length : Int) (wrap64 (x8_1 + 1))) = some r := by rw [if_neg (show ¬ (false = true) by decide)] at H; exact H
              clear H
              have H := H1
              clear H1
              have H' := Aside0.mk H
              clear H
              have p105 : 0 ≤ (x8_1 : Int) := of_decide_eq_true (by first | (with_reducible assumption) | assumption)
              have q105 : x8_1 < (l0.length : Int) := of_decide_eq_true (by first | (with_reducible assumption) | assumption)
              obtain ⟨ad105, e105, hx105_0, hx105_1, hx105_2⟩ := at_T32 HR0.out x8_1 p105 q105
              cases e105
              replace hx105_0 := (HB.out.cell (World.block_lt_of_cell? w _ hx105_0)).trans hx105_0
              replace hx105_1 := (HB.out.cell (World.block_lt_of_cell? w _ hx105_1)).trans hx105_1
              replace hx105_2 := (HB.out.cell (World.block_lt_of_cell? w _ hx105_2)).trans hx105_2
              replace p105 := eq_true p105
              replace q105 := eq_true q105
              go_wp2_with (first | ((with_reducible refine gate_list ?_); refine gate_value rfl ?_; refine goesV_ (some 16) rfl rfl Try.func18 (by kernel_rfl) rfl #[.agg #[.int .i64 ((rd_T32 l0 x8_1).f0), .int .i64 ((rd_T32 l0 x8_1).f1), .string ((rd_T32 l0 x8_1).f2)]] rfl (by first | rfl | simp) (by (try simp only [List.map_toArray, List.map_cons, List.map_nil]); first | done | rfl | (simp only [List.length_drop, List.length_take]; rfl)) ?_; (with_reducible refine (nulls_Split_1.calls ((rd_T32 l0 x8_1).f0) ((rd_T32 l0 x8_1).f1) ((rd_T32 l0 x8_1).f2) false _ A6.out).mono ?_); rintro e w9 ⟨rfl, hb⟩; refine ⟨_, rfl, ?_⟩; have n0_ := Aside0.mk (below_step (by repeat (first | (with_reducible first | exact HB.out | apply below_alloc | apply pw_below_drewN | apply below_drew1) | exact HB.out)) hb); clear HB; have HB := n0_; clear n0_; (try clear hb); (try clear hb2); (try clear hk); (try clear hi)))
              go_roundg k1
              case measure => have := HK1.out; omega
              case rel => exact ⟨(wrap64 (x8_1 + 1)), (by first | rfl | (simp; done) | (simp [*]; done)), H', ⟨by have := HK1.out; omega⟩, ⟨by repeat (first | (with_reducible first | exact HB.out | apply below_alloc | apply pw_below_drewN | apply below_drew1) | exact HB.out)⟩⟩
          · rw [if_neg c5] at H
            exact absurd H (by simp)
        · rw [if_neg c4] at H
          exact absurd H (by simp)
      · rw [if_neg c3] at H
        have c3b0 : decide (x8_1 < (l0.length : Int)) = false := decide_eq_false c3
        clear c3
        obtain rfl := Option.some.inj H
        go_wp2
        go_ret
        exact ⟨by first | rfl | (simp [errW_none, errW_some] <;> rfl) | (simp [*, errW_none, errW_some] <;> rfl), by repeat (first | (with_reducible first | exact HB.out | apply below_alloc | apply pw_below_drewN | apply below_drew1) | exact HB.out)⟩

/-! ### api_Cell_16_fn18: function 16 (a contract of the session's own) -/
def api_Cell_16_fn18.gone (x : S32) : Bool := x.f0 == 0
def api_Cell_16_fn18.keep (l : List S32) : List S32 := l.filter (fun x => !api_Cell_16_fn18.gone x)
def api_Cell_16_fn18.f (l0 : List S32) : Option (List S32) := if l0.length ≤ 2000000000000 then some (api_Cell_16_fn18.keep l0) else none
theorem api_Cell_16_fn18.at_end (l : List S32) : api_Cell_25_fn18.l0 1 l (l.length : Int) (l.length : Int) = some (-1) := by
  rw [api_Cell_25_fn18.l0_succ, if_neg (by omega)]
theorem api_Cell_16_fn18.finds (l : List S32) (hl : l.length ≤ 2000000000000) : ∀ (d i : Nat), i + d = l.length → (∀ j, (h : j < l.length) → j < i → api_Cell_16_fn18.gone l[j] = false) →
    (api_Cell_25_fn18.l0 (d + 1) l (l.length : Int) (i : Int) = some (-1) ∧ ∀ j, (h : j < l.length) → api_Cell_16_fn18.gone l[j] = false) ∨
    ∃ i0, ∃ h : i0 < l.length, api_Cell_25_fn18.l0 (d + 1) l (l.length : Int) (i : Int) = some (i0 : Int) ∧ api_Cell_16_fn18.gone l[i0] = true ∧ ∀ j, (h : j < l.length) → j < i0 → api_Cell_16_fn18.gone l[j] = false
  | 0, i, h, hb => by
    obtain rfl : i = l.length := by omega
    exact .inl ⟨api_Cell_16_fn18.at_end l, fun j hj => hb j hj hj⟩
  | d + 1, i, h, hb => by
    have hi : i < l.length := by omega
    have hrd : rd_T32 l (i : Int) = l[i] := by simp [rd_T32, List.getD_eq_getElem?_getD, hi]
    have hc : nulls_Split_1.f (rd_T32 l (i : Int)).f0 (rd_T32 l (i : Int)).f1 (rd_T32 l (i : Int)).f2 = some (api_Cell_16_fn18.gone l[i]) := by rw [hrd]; rfl
    rw [api_Cell_25_fn18.l0_succ, if_pos (by omega), if_pos (by omega), if_pos (by omega), hc]
    simp only [Option.bind_some]
    by_cases hg : api_Cell_16_fn18.gone l[i] = true
    · rw [if_pos hg]
      exact .inr ⟨i, hi, rfl, hg, hb⟩
    · rw [if_neg hg, show wrap64 ((i : Int) + 1) = ((i + 1 : Nat) : Int) by unfold wrap64; omega]
      refine api_Cell_16_fn18.finds l hl d (i + 1) (by omega) (fun j hj hlt => ?_)
      by_cases e : j = i
      · subst e; simpa using hg
      · exact hb j hj (by omega)
/-- how the row stands while it goes: its first i are those kept of the first j, from j on it is as it was -/
def api_Cell_16_fn18.St (l L : List S32) (i j : Nat) : Prop := L.length = l.length ∧ i < j ∧ j ≤ l.length ∧ L.take i = api_Cell_16_fn18.keep (l.take j) ∧ L.drop j = l.drop j
theorem api_Cell_16_fn18.St.start {l : List S32} {i0 : Nat} (h : i0 < l.length) (hg : api_Cell_16_fn18.gone l[i0] = true) (hb : ∀ j, (h : j < l.length) → j < i0 → api_Cell_16_fn18.gone l[j] = false) : api_Cell_16_fn18.St l l i0 (i0 + 1) := by
  refine ⟨rfl, by omega, by omega, ?_, rfl⟩
  unfold api_Cell_16_fn18.keep
  rw [List.take_succ_eq_append_getElem h, List.filter_append, List.filter_cons_of_neg (by simp [hg]), List.filter_nil, List.append_nil]
  refine (List.filter_eq_self.2 (fun a ha => ?_)).symm
  obtain ⟨m, hm, rfl⟩ := List.getElem_of_mem ha
  rw [List.getElem_take, hb m (by rw [List.length_take] at hm; omega) (by rw [List.length_take] at hm; omega)]
  rfl
theorem api_Cell_16_fn18.St.at_ {l L : List S32} {i j : Nat} (h : api_Cell_16_fn18.St l L i j) (hj : j < l.length) : rd_T32 L (j : Int) = l[j] := by
  obtain ⟨h1, h2, h3, h4, h5⟩ := h
  have : (L.drop j)[0]? = (l.drop j)[0]? := by rw [h5]
  rw [List.getElem?_drop, List.getElem?_drop, Nat.add_zero, List.getElem?_eq_getElem hj] at this
  simp [rd_T32, List.getD_eq_getElem?_getD, this]
theorem api_Cell_16_fn18.St.skip {l L : List S32} {i j : Nat} (h : api_Cell_16_fn18.St l L i j) (hj : j < l.length) (hg : api_Cell_16_fn18.gone (rd_T32 L (j : Int)) = true) : api_Cell_16_fn18.St l L i (j + 1) := by
  rw [h.at_ hj] at hg
  obtain ⟨h1, h2, h3, h4, h5⟩ := h
  refine ⟨h1, by omega, by omega, ?_, by rw [← List.drop_drop, h5, List.drop_drop]⟩
  rw [h4]
  unfold api_Cell_16_fn18.keep
  rw [List.take_succ_eq_append_getElem hj, List.filter_append, List.filter_cons_of_neg (by simp [hg]), List.filter_nil, List.append_nil]
theorem api_Cell_16_fn18.St.put {l L : List S32} {i j : Nat} (h : api_Cell_16_fn18.St l L i j) (hj : j < l.length) (hg : api_Cell_16_fn18.gone (rd_T32 L (j : Int)) = false) : api_Cell_16_fn18.St l (L.set i (rd_T32 L (j : Int))) (i + 1) (j + 1) := by
  rw [h.at_ hj] at hg ⊢
  obtain ⟨h1, h2, h3, h4, h5⟩ := h
  refine ⟨by rw [List.length_set, h1], by omega, by omega, ?_, ?_⟩
  · have hi : i < (L.set i l[j]).length := by rw [List.length_set]; omega
    rw [List.take_succ_eq_append_getElem hi, List.getElem_set_self, List.take_set_of_le (Nat.le_refl _), h4]
    unfold api_Cell_16_fn18.keep
    rw [List.take_succ_eq_append_getElem hj, List.filter_append, List.filter_cons_of_pos (by simp [hg]), List.filter_nil]
  · rw [List.drop_set_of_lt (by omega), ← List.drop_drop, h5, List.drop_drop]
theorem api_Cell_16_fn18.St.done {l L : List S32} {i j : Nat} (h : api_Cell_16_fn18.St l L i j) (hj : ¬ j < l.length) : L.take i = api_Cell_16_fn18.keep l := by
  obtain ⟨h1, h2, h3, h4, h5⟩ := h
  rw [h4, List.take_of_length_le (by omega)]
theorem api_Cell_16_fn18.keep_all {l : List S32} (hall : ∀ j, (h : j < l.length) → api_Cell_16_fn18.gone l[j] = false) : api_Cell_16_fn18.keep l = l := by
  unfold api_Cell_16_fn18.keep
  refine List.filter_eq_self.2 (fun a ha => ?_)
  obtain ⟨m, hm, rfl⟩ := List.getElem_of_mem ha
  rw [hall m hm]
  rfl
theorem api_Cell_16_fn18.zero : (Try.prog.info? 32).map (fun i => (i.zero, i.size)) = some (some (.agg #[.int .i64 0, .int .i64 0, .string ByteArray.empty]), 3) := by kernel_rfl
theorem api_Cell_16_fn18.size : (Try.prog.info? 32).map (·.size) = some 3 := by kernel_rfl
set_option maxHeartbeats 1600000 in
theorem api_Cell_16_fn18.calls (P0_ : Nat → Prop) (u : Value) (l0 : List S32) (r : List S32) (w0 w : World) (hB : Below w0.heap.size w0 w) (ho0 : Kd.R k32 32 w w0.heap.size P0_ u l0) (h : api_Cell_16_fn18.f l0 = some r) :
    Calls Try.prog 16 #[u, .func (.func 18) #[] #[]] w fun e w' => ∃ v0_ : Value, e = .returned v0_ ∧ Kd.R k32 32 w' w0.heap.size (fun k_ => (P0_ k_ ∨ w.heap.size ≤ k_)) v0_ r ∧ Below w0.heap.size w0 w' ∧ Kept w w' (fun k_ => P0_ k_) := by
  have hl : l0.length ≤ 2000000000000 := by
    unfold api_Cell_16_fn18.f at h
    split at h
    · assumption
    · exact absurd h (by simp)
  obtain rfl : api_Cell_16_fn18.keep l0 = r := by
    unfold api_Cell_16_fn18.f at h
    rw [if_pos hl] at h
    exact Option.some.inj h
  clear h
  have hu32 := Try.underlying32
  have HL := Aside0.mk hl
  have HW := Aside0.mk hB
  have HR := Aside0.mk ho0
  obtain ⟨A, c, rfl, hlc, hC⟩ := Kd.R_reads ho0
  rcases api_Cell_16_fn18.finds l0 hl l0.length 0 (by omega) (fun j h hlt => absurd hlt (Nat.not_lt_zero j)) with ⟨hf, hall⟩ | ⟨i0, hi0, hf, hgone, hbefore⟩
  · have HK : Aside0 (api_Cell_16_fn18.keep l0 = l0) := ⟨api_Cell_16_fn18.keep_all hall⟩
    have A1 := Aside0.mk (show api_Cell_25_fn18.f (l0.length + 1) l0 = some (-1) from hf)
    have A2 := Aside0.mk hC
    have A3 := Aside0.mk hlc
    clear hf hall hC hlc ho0 hB hl
    go_enter Try.func16, Try.ntmps16
    go_wp2_with (first | ((with_reducible refine gate_callee (f := 25) rfl ?_); refine goesL_ (some 10) rfl rfl Try.func25 (by kernel_rfl) rfl #[.slice A l0.length c, .func (.func 18) #[] #[]] rfl (by (try simp only [List.map_toArray, List.map_cons, List.map_nil]); first | done | rfl) ?_; (with_reducible refine (api_Cell_25_fn18.calls (l0.length + 1) A c l0 (-1) _ A2.out A3.out A1.out).mono ?_); rintro e w8 ⟨rfl, hb⟩; refine ⟨_, rfl, ?_⟩; have HB8 := Aside0.mk hb; clear hb))
    go_ret
    exact ⟨_, rfl, by rw [HK.out]; exact Kd.R_mono (Kd.R_below HR.out HB8.out) (fun _ hk => .inl hk), below_then HW.out HW.out.size HB8.out, Kept.of_below HB8.out _⟩
  · obtain ⟨g, cap, he, hbg, hlt, cells, hcells⟩ := Kd.R_form ho0 (by omega)
    injection he with he1 he2 he3
    subst he1; subst he3
    have A1 := Aside0.mk (show api_Cell_25_fn18.f (l0.length + 1) l0 = some (i0 : Int) from hf)
    have A2 := Aside0.mk hC
    have A3 := Aside0.mk hlc
    have A4 := Aside0.mk (api_Cell_16_fn18.St.start hi0 hgone hbefore)
    have AG := Aside0.mk hbg
    have AI := Aside0.mk hi0
    have hne : ((i0 : Int) == -1) = false := by first | (simp; done) | (simp; omega)
    clear hf hC hlc ho0 hB hl hgone hbefore hlt hcells he2 hi0
    go_enter Try.func16, Try.ntmps16
    go_wp2_with (first | ((with_reducible refine gate_callee (f := 25) rfl ?_); refine goesL_ (some 10) rfl rfl Try.func25 (by kernel_rfl) rfl #[.slice (some ⟨g, 0, none⟩) l0.length c, .func (.func 18) #[] #[]] rfl (by (try simp only [List.map_toArray, List.map_cons, List.map_nil]); first | done | rfl) ?_; (with_reducible refine (api_Cell_25_fn18.calls (l0.length + 1) _ c l0 (i0 : Int) _ A2.out A3.out A1.out).mono ?_); rintro e w8 ⟨rfl, hb⟩; refine ⟨_, rfl, ?_⟩; have HB8 := Aside0.mk hb; clear hb))
    have HO := Aside0.mk (Kd.R_mono (ok' := fun k_ => P0_ k_ ∨ w.heap.size ≤ k_) (Kd.R_below HR.out HB8.out) (fun _ hk => .inl hk))
    have HB := Aside0.mk (below_then HW.out HW.out.size HB8.out)
    have HK := Aside0.mk (Kept.of_below HB8.out (fun k_ => P0_ k_))
    have HG := Aside0.mk (HR.out.1 g (by simp [Value.ownBlock]))
    clear HB8 A2
    go_loopw [5, 6] (fun v5 v6 wr => ∃ (L : List S32) (i j : Nat) (ii jj : Int), Aside0 (api_Cell_16_fn18.St l0 L i j) ∧ Aside0 (ii = (i : Int)) ∧ Aside0 (jj = (j : Int)) ∧ v5 = .int .i64 ii ∧ v6 = .int .i64 jj ∧ Aside0 (Kd.R k32 32 wr w0.heap.size (fun k_ => P0_ k_ ∨ w.heap.size ≤ k_) (.slice (some ⟨g, 0, none⟩) l0.length c) L) ∧ Aside0 (Below w0.heap.size w0 wr) ∧ Aside0 (Kept w wr (fun k_ => P0_ k_))) (fun _ v6 _ => l0.length - (intOf v6).toNat)
    case atStart => exact ⟨l0, i0, i0 + 1, (i0 : Int), wrap64 ((i0 : Int) + 1), A4, ⟨rfl⟩, ⟨by have := HL.out; have := AI.out; unfold wrap64; omega⟩, by first | rfl | (simp; done), by first | rfl | (unfold wrap64; go_num), HO, HB, HK⟩
    case round =>
      obtain ⟨L, i, j, ii, jj, HS, HII, HJJ, rfl, rfl, HO2, HB2, HK2⟩ := hrel
      by_cases hlt : jj < (l0.length : Int)
      · have hj0 : (0 : Int) ≤ jj := by have := HJJ.out; omega
        have HI0 := Aside0.mk (show (0 : Int) ≤ ii by have := HII.out; omega)
        have HI1 := Aside0.mk (show ii < (l0.length : Int) by have := HII.out; have := HJJ.out; have := HS.out.2.1; omega)
        have hI0 := HI0.out
        have hI1 := HI1.out
        have HJ := Aside0.mk (show j < l0.length by have := HJJ.out; omega)
        obtain ⟨ad, he, hx0, hx1, hx2⟩ := at_T32 (Kd.R_reads' HO2.out).2.2 jj hj0 (by rw [HS.out.1]; exact hlt)
        obtain rfl := Option.some.inj he
        obtain ⟨v, hv⟩ : ∃ v, v = rd_T32 L jj := ⟨_, rfl⟩
        rw [← hv] at hx0 hx1 hx2
        have HV : Aside0 (v = rd_T32 L (j : Int)) := ⟨by rw [hv, HJJ.out]⟩
        clear hv he
        simp only [add_plain] at hx0 hx1 hx2
        cases hg : api_Cell_16_fn18.gone v
        · have HQ : Aside0 (nulls_Split_1.f v.f0 v.f1 v.f2 = some false) := ⟨by rw [← hg]; rfl⟩
          have HGV := Aside0.mk hg
          clear hg
          go_wp2_with (first | ((with_reducible refine gate_dst (N := 7) rfl ?_); refine arr_alloc (w0 := wr) wr.heap.size rfl 32 rfl #[.int .i64 0, .int .i64 0, .string ByteArray.empty] 3 api_Cell_16_fn18.zero (Below.refl _ _) (Nat.le_refl _) ?_; intro b w1 hb1 hbb hbs HB1 hbs1 hgr1) | ((with_reducible refine gate_store (t := 32) (p := 7) rfl ?_); refine arr_store (w0 := wr) wr.heap.size rfl 32 _ _ rfl b _ #[.int .i64 v.f0, .int .i64 v.f1, .string v.f2] rfl rfl hb1 api_Cell_16_fn18.size rfl (by simp [Value.oneCell']) HB1 hbb ?_; intro w2 hb2 HB2' hbs2 hgr2; have hy0 : w2.cell? ⟨b, 0, none⟩ = some (.int .i64 v.f0) := (by have z_ := blk_cell hb2 0; simpa using z_); have hy1 : w2.cell? ⟨b, 1, none⟩ = some (.int .i64 v.f1) := (by have z_ := blk_cell hb2 1; simpa using z_); have hy2 : w2.cell? ⟨b, 2, none⟩ = some (.string v.f2) := (by have z_ := blk_cell hb2 2; simpa using z_); have HX2 := Aside0.mk HB2'; clear hb1 hbb hbs HB1 hbs1 hgr1 hb2 HB2' hbs2 hgr2) | ((with_reducible refine gate_list ?_); refine gate_value rfl ?_; refine goesV_ (some 28) rfl rfl Try.func18 (by kernel_rfl) rfl #[.agg #[.int .i64 v.f0, .int .i64 v.f1, .string v.f2]] rfl (by first | rfl | simp) (by (try simp only [List.map_toArray, List.map_cons, List.map_nil]); first | done | rfl) ?_; (with_reducible refine (nulls_Split_1.calls v.f0 v.f1 v.f2 false _ HQ.out).mono ?_); rintro e w3 ⟨rfl, hb3⟩; refine ⟨_, rfl, ?_⟩; have hz0 := (hb3.cell (World.block_lt_of_cell? w2 _ hy0)).trans hy0; have hz1 := (hb3.cell (World.block_lt_of_cell? w2 _ hy1)).trans hy1; have hz2 := (hb3.cell (World.block_lt_of_cell? w2 _ hy2)).trans hy2; have HX3 := Aside0.mk (below_then HX2.out HX2.out.size hb3); clear hb3 hy0 hy1 hy2; have HO3 := Aside0.mk (Kd.R_below HO2.out HX3.out); have HB3 := Aside0.mk (below_then HB2.out HB2.out.size HX3.out); have HK3 := Aside0.mk (Kept.below HK2.out HX3.out); obtain ⟨cc, hcl, _, hcc, _⟩ := Kd.R_elem HO3.out z32 ii HI0.out HI1.out; have HCL := Aside0.mk hcl; have HCC := Aside0.mk hcc; clear hcl hcc HO2 HB2 HK2 HX2 HX3) | ((with_reducible refine gate_store (t := 32) (p := 33) rfl ?_); refine Kd.R_store k32 (w0 := w0) w0.heap.size rfl rfl 32 _ _ rfl 32 ii 0 L v (.agg #[.int .i64 v.f0, .int .i64 v.f1, .string v.f2]) [.int .i64 v.f0, .int .i64 v.f1, .string v.f2] cc _ (fun _ => False) (by first | rfl | (simp [add_plain]; done)) rfl rfl rfl api_Cell_16_fn18.size (by simp [Value.oneCell']) HO3.out HI0.out HI1.out HCL.out HCC.out (by rw [show k32.sz = 3 from rfl]; simp) (by rw [List.take_zero, List.nil_append, List.drop_of_length_le (by rw [HCL.out]; exact Nat.le_refl _), List.append_nil]; exact k32_mkM _ _ _ v) (fun _ h => h.elim) HB3.out ?_; intro w4 ho4 hb4 hg4; have HO4 := Aside0.mk ho4; have HB4 := Aside0.mk hb4; have HK4 := Aside0.mk (Kept.of_grown hg4 HK3.out (fun k hk => by injection hk with hk; subst hk; exact .inl HG.out)); clear ho4 hb4 hg4))
          go_roundw
          case rel => exact ⟨L.set ii.toNat v, i + 1, j + 1, wrap64 (ii + 1), wrap64 (jj + 1), ⟨by rw [HII.out, Int.toNat_natCast, HV.out]; exact HS.out.put HJ.out (by rw [← HV.out]; exact HGV.out)⟩, ⟨by have := HII.out; have := HL.out; have := HI1.out; unfold wrap64; omega⟩, ⟨by have := HJJ.out; have := HL.out; have := HJ.out; unfold wrap64; omega⟩, by first | rfl | (simp; done) | (unfold wrap64; go_num), by first | rfl | (simp; done) | (unfold wrap64; go_num), HO4, HB4, HK4⟩
          case measure => have := HJJ.out; have := HL.out; have := HJ.out; first | (show l0.length - (wrap64 (jj + 1)).toNat < l0.length - jj.toNat; unfold wrap64; omega) | (simp [intOf]; unfold wrap64; omega)
        · have HQ : Aside0 (nulls_Split_1.f v.f0 v.f1 v.f2 = some true) := ⟨by rw [← hg]; rfl⟩
          have HGV := Aside0.mk hg
          clear hg
          go_wp2_with (first | ((with_reducible refine gate_dst (N := 7) rfl ?_); refine arr_alloc (w0 := wr) wr.heap.size rfl 32 rfl #[.int .i64 0, .int .i64 0, .string ByteArray.empty] 3 api_Cell_16_fn18.zero (Below.refl _ _) (Nat.le_refl _) ?_; intro b w1 hb1 hbb hbs HB1 hbs1 hgr1) | ((with_reducible refine gate_store (t := 32) (p := 7) rfl ?_); refine arr_store (w0 := wr) wr.heap.size rfl 32 _ _ rfl b _ #[.int .i64 v.f0, .int .i64 v.f1, .string v.f2] rfl rfl hb1 api_Cell_16_fn18.size rfl (by simp [Value.oneCell']) HB1 hbb ?_; intro w2 hb2 HB2' hbs2 hgr2; have hy0 : w2.cell? ⟨b, 0, none⟩ = some (.int .i64 v.f0) := (by have z_ := blk_cell hb2 0; simpa using z_); have hy1 : w2.cell? ⟨b, 1, none⟩ = some (.int .i64 v.f1) := (by have z_ := blk_cell hb2 1; simpa using z_); have hy2 : w2.cell? ⟨b, 2, none⟩ = some (.string v.f2) := (by have z_ := blk_cell hb2 2; simpa using z_); have HX2 := Aside0.mk HB2'; clear hb1 hbb hbs HB1 hbs1 hgr1 hb2 HB2' hbs2 hgr2) | ((with_reducible refine gate_list ?_); refine gate_value rfl ?_; refine goesV_ (some 28) rfl rfl Try.func18 (by kernel_rfl) rfl #[.agg #[.int .i64 v.f0, .int .i64 v.f1, .string v.f2]] rfl (by first | rfl | simp) (by (try simp only [List.map_toArray, List.map_cons, List.map_nil]); first | done | rfl) ?_; (with_reducible refine (nulls_Split_1.calls v.f0 v.f1 v.f2 true _ HQ.out).mono ?_); rintro e w3 ⟨rfl, hb3⟩; refine ⟨_, rfl, ?_⟩; have hz0 := (hb3.cell (World.block_lt_of_cell? w2 _ hy0)).trans hy0; have hz1 := (hb3.cell (World.block_lt_of_cell? w2 _ hy1)).trans hy1; have hz2 := (hb3.cell (World.block_lt_of_cell? w2 _ hy2)).trans hy2; have HX3 := Aside0.mk (below_then HX2.out HX2.out.size hb3); clear hb3 hy0 hy1 hy2))
          go_roundw
          case rel => exact ⟨L, i, j + 1, ii, wrap64 (jj + 1), ⟨HS.out.skip HJ.out (by rw [← HV.out]; exact HGV.out)⟩, HII, ⟨by have := HJJ.out; have := HL.out; have := HJ.out; unfold wrap64; omega⟩, by first | rfl | (simp; done) | (unfold wrap64; go_num), by first | rfl | (simp; done) | (unfold wrap64; go_num), ⟨Kd.R_below HO2.out HX3.out⟩, ⟨below_then HB2.out HB2.out.size HX3.out⟩, ⟨Kept.below HK2.out HX3.out⟩⟩
          case measure => have := HJJ.out; have := HL.out; have := HJ.out; first | (show l0.length - (wrap64 (jj + 1)).toNat < l0.length - jj.toNat; unfold wrap64; omega) | (simp [intOf]; unfold wrap64; omega)
      · have HD : Aside0 (L.take ii.toNat = api_Cell_16_fn18.keep l0) := ⟨by rw [HII.out, Int.toNat_natCast]; exact HS.out.done (by have := HJJ.out; omega)⟩
        have hI0 : (0 : Int) ≤ ii := by have := HII.out; omega
        have hI1 : ii < (l0.length : Int) := by have := HII.out; have := HS.out.2.1; have := HS.out.2.2.1; omega
        have hI2 : ii ≤ (l0.length : Int) := Int.le_of_lt hI1
        obtain ⟨i1, hi1, _, hsz1, _⟩ := info_parts info32
        have hcutA := cut_from (P := Try.prog) 22 32 .i64 Try.underlying22 hi1 3 hsz1 (some ⟨g, 0, none⟩) l0.length c ii hI0 hI2
        have hcutB := cut_to (P := Try.prog) 22 32 .i64 Try.underlying22 hi1 (some ⟨g, 0, none⟩) l0.length c ii hI0 hI2 A3.out
        rw [if_neg (show ¬ c = ii.toNat by have := A3.out; omega)] at hcutA
        simp only [Option.map_some, add_plain] at hcutA
        obtain ⟨cur, hh, hcs⟩ := Kd.R_block HO2.out
        have HH := Aside0.mk hh
        have HS1 := Aside0.mk (show ii.toNat * 3 + (l0.length - ii.toNat) * 3 ≤ cur.size by rw [hcs, show k32.sz = 3 from rfl, ← Nat.add_mul]; exact Nat.mul_le_mul_right _ (by have := A3.out; omega))
        have HS2 := Aside0.mk (show ii.toNat * 3 + (l0.length - ii.toNat) * 3 ≤ c * k32.sz by rw [show k32.sz = 3 from rfl, ← Nat.add_mul]; exact Nat.mul_le_mul_right _ (by have := A3.out; omega))
        have HS3 := Aside0.mk (show 0 < l0.length - ii.toNat by omega)
        have HS4 := Aside0.mk (show ii.toNat ≤ L.length by rw [HS.out.1]; omega)
        clear hi1 hsz1 hh hcs
        obtain ⟨vs, hvs, hclr⟩ := run_clear_row (P := Try.prog) (ty := 0) (c := c - ii.toNat) (q := ii.toNat * 3) (n := l0.length - ii.toNat) (t := 22) (e := 32) Try.underlying22 api_Cell_16_fn18.zero rfl (by decide) (by simp [Value.oneCell', Value.cells]) HH.out HS3.out HS1.out
        have HVS := Aside0.mk hvs
        clear hvs
        go_wp2
        go_ret
        have hb := Kd.R_beyond (Kd.R_take HO2.out HS4.out) (ii.toNat * 3) vs (Nat.le_refl _) (by rw [HVS.out]; exact HS2.out)
        refine ⟨_, rfl, ?_, HB2.out.grown hb.2 HB2.out.size (fun k hk => by injection hk with hk; subst hk; exact AG.out), Kept.of_grown hb.2 HK2.out (fun k hk => by injection hk with hk; subst hk; exact .inl HG.out)⟩
        rw [← HD.out]
        exact hb.1


/-! ### bits_Width: function 34 -/
def bits_Width.l0 : Nat → Int → Int → Int → Option (Int)
  | 0, _, _, _ => none
  | k + 1, x3, x4, x5 => if x5 > 0 then (if 0 ≤ x5 then (if (shr .u64 x3 x5) > 0 then (bits_Width.l0 k (shr .u64 x3 x5) (wrap64 (x4 + x5)) (wrap64 (Int.tdiv x5 2))) else (bits_Width.l0 k x3 x4 (wrap64 (Int.tdiv x5 2)))) else (none)) else (some (wrap64 (x4 + (wrap64 (x3)))))
def bits_Width.f (k : Nat) (a0 : Int) : Option (Int) := bits_Width.l0 k (IntKind.u64.wrap (a0)) 0 32
theorem bits_Width.l0_succ (k : Nat) (x3 : Int) (x4 : Int) (x5 : Int) : bits_Width.l0 (k + 1) x3 x4 x5 = (if x5 > 0 then (if 0 ≤ x5 then (if (shr .u64 x3 x5) > 0 then (bits_Width.l0 k (shr .u64 x3 x5) (wrap64 (x4 + x5)) (wrap64 (Int.tdiv x5 2))) else (bits_Width.l0 k x3 x4 (wrap64 (Int.tdiv x5 2)))) else (none)) else (some (wrap64 (x4 + (wrap64 (x3)))))) := by
  simp only [bits_Width.l0]
theorem bits_Width.mono_l : ∀ k, (∀ y0 y1 y2, LeO (bits_Width.l0 k y0 y1 y2) (bits_Width.l0 (k + 1) y0 y1 y2))
  | 0 => fun _ _ _ r h => by simp [bits_Width.l0] at h
  | k + 1 => by
    have ih0 := bits_Width.mono_l k
    · intro y0 y1 y2
      unfold bits_Width.l0
      repeat' first
      | (with_reducible exact ih0 _ _ _)
      | (with_reducible exact LeO.refl _)
      | (with_reducible exact LeO.none _)
      | (with_reducible refine LeO.ite ?_ ?_)
      | (with_reducible refine LeO.bind ?_ (fun _ => ?_))
      | exact ih0 _ _ _
      | exact LeO.none _
      | refine LeO.ite ?_ ?_
      | refine LeO.bind ?_ (fun _ => ?_)
theorem bits_Width.mono : ∀ a0 k, LeO (bits_Width.f k a0) (bits_Width.f (k + 1) a0) := by
  intro a0 k
  have ih0 := bits_Width.mono_l k
  unfold bits_Width.f
  repeat' first
      | (with_reducible exact ih0 _ _ _)
      | (with_reducible exact LeO.refl _)
      | (with_reducible exact LeO.none _)
      | (with_reducible refine LeO.ite ?_ ?_)
      | (with_reducible refine LeO.bind ?_ (fun _ => ?_))
      | exact ih0 _ _ _
      | exact LeO.none _
      | refine LeO.ite ?_ ?_
      | refine LeO.bind ?_ (fun _ => ?_)
set_option maxHeartbeats 8000000 in
set_option maxRecDepth 100000 in
theorem bits_Width.calls (k : Nat) (a0 : Int) (r : Int) (w : World) (h : bits_Width.f k a0 = some r) :
    Calls Try.prog 34 #[.int .i64 a0] w fun e w' => e = .returned (.int .i64 r) ∧ Drawn0 w w' := by
  have H : (bits_Width.l0 k (IntKind.u64.wrap (a0)) 0 32) = some r := h
  clear h
  have H' := Aside0.mk H
  clear H
  go_enter Try.func34, Try.ntmps34
  go_wp2
  go_loopg [3, 4, 5] k (fun kq v3 v4 v5 w' => ∃ (x3_1 : Int) (x4_1 : Int) (x5_1 : Int), v3 = .int .u64 x3_1 ∧ v4 = .int .i64 x4_1 ∧ v5 = .int .i64 x5_1 ∧ Aside0 (bits_Width.l0 kq x3_1 x4_1 x5_1 = some r) ∧ Aside0 (kq ≤ k) ∧ Drawn0 w w')
  case atStart => exact ⟨(IntKind.u64.wrap (a0)), (0), (32), (by first | rfl | (simp; done) | (simp [*]; done)), (by first | rfl | (simp; done) | (simp [*]; done)), (by first | rfl | (simp; done) | (simp [*]; done)), H', ⟨Nat.le_refl _⟩, by repeat (first | exact Drawn0.refl _ | apply Drawn0.step)⟩
  case round =>
    clear H'
    obtain ⟨x3_1, x4_1, x5_1, rfl, rfl, rfl, HA, HK1, ⟨m1, rfl⟩⟩ := hrel
    cases gk with
    | zero => exact absurd HA.out (by simp [bits_Width.l0])
    | succ k1 =>
      have H := HA.out
      clear HA
      simp only [bits_Width.l0] at H
      by_cases c2 : x5_1 > 0
      · rw [if_pos c2] at H
        have c2b0 : decide (0 < x5_1) = true := decide_eq_true c2
        clear c2
        by_cases c3 : 0 ≤ x5_1
        · rw [if_pos c3] at H
          have c3b0 := eq_true c3
          have c3b1 : decide (0 ≤ x5_1) = true := decide_eq_true c3
          clear c3
          obtain ⟨ji4, hji4⟩ : ∃ j_ : Int, (shr .u64 x3_1 x5_1) = j_ := ⟨_, rfl⟩
          replace H : (if (ji4) > 0 then (bits_Width.l0 k1 ji4 (wrap64 (x4_1 + x5_1)) (wrap64 (Int.tdiv x5_1 2))) else (bits_Width.l0 k1 x3_1 x4_1 (wrap64 (Int.tdiv x5_1 2)))) = some r := by first | (rw [hji4] at H; exact H) | (simp only [hji4] at H ⊢; exact H)
          have hji4_ : (x3_1 / 2 ^ min x5_1.toNat 64) = ji4 := hji4
          have hji4z : x5_1 ≤ 64 → (x3_1 / 2 ^ x5_1.toNat) = ji4 := shr_small hji4
          by_cases c5 : (ji4) > 0
          · rw [if_pos c5] at H
            have c5b0 : decide (0 < (ji4)) = true := decide_eq_true c5
            clear c5
            have c6b0 := eq_true (of_decide_eq_true (by first | (with_reducible assumption) | assumption) : 0 ≤ x5_1)
            have H' := Aside0.mk H
            clear H
            go_wp2
            go_roundg k1
            case measure => have := HK1.out; omega
            case rel => exact ⟨(ji4), (wrap64 (x4_1 + x5_1)), (wrap64 (Int.tdiv x5_1 2)), (by first | rfl | (simp; done) | (simp only [← hji4] <;> (first | rfl | simp)) | (simp [*]; done)), (by first | rfl | (simp; done) | (simp [*]; done)), (by first | rfl | (simp; done) | (simp [*]; done)), H', ⟨by have := HK1.out; omega⟩, by repeat (first | exact Drawn0.refl _ | apply Drawn0.step)⟩
          · rw [if_neg c5] at H
            have c5b0 : decide (0 < (ji4)) = false := decide_eq_false c5
            clear c5
            have H' := Aside0.mk H
            clear H
            go_wp2
            go_roundg k1
            case measure => have := HK1.out; omega
            case rel => exact ⟨(x3_1), (x4_1), (wrap64 (Int.tdiv x5_1 2)), (by first | rfl | (simp; done) | (simp [*]; done)), (by first | rfl | (simp; done) | (simp [*]; done)), (by first | rfl | (simp; done) | (simp [*]; done)), H', ⟨by have := HK1.out; omega⟩, by repeat (first | exact Drawn0.refl _ | apply Drawn0.step)⟩
        · rw [if_neg c3] at H
          exact absurd H (by simp)
      · rw [if_neg c2] at H
        have c2b0 : decide (0 < x5_1) = false := decide_eq_false c2
        clear c2
        obtain rfl := Option.some.inj H
        go_wp2
        go_ret
        exact ⟨by first | rfl | (unfold wrap64; rfl) | (simp; done) | (simp [*]; done), by repeat (first | exact Drawn0.refl _ | apply Drawn0.step)⟩

/-! ### pack_Width: function 26 -/
def pack_Width.l0 : Nat → Int → List Int → Int → Int → Option (Int)
  | 0, _, _, _, _ => none
  | k + 1, x3, x6, x7, x8 => if x8 < x7 then (if 0 ≤ x8 then (if x8 < (x6.length : Int) then (pack_Width.l0 k (Go.bits .or .i64 x3 (rd x6 x8)) x6 x7 (wrap64 (x8 + 1))) else (none)) else (none)) else ((bits_Width.f k x3).bind fun t108 => (some t108))
def pack_Width.f (k : Nat) (l0 : List Int) : Option (Int) := pack_Width.l0 k 0 l0 (l0.length : Int) 0
theorem pack_Width.l0_succ (k : Nat) (x3 : Int) (x6 : List Int) (x7 : Int) (x8 : Int) : pack_Width.l0 (k + 1) x3 x6 x7 x8 = (if x8 < x7 then (if 0 ≤ x8 then (if x8 < (x6.length : Int) then (pack_Width.l0 k (Go.bits .or .i64 x3 (rd x6 x8)) x6 x7 (wrap64 (x8 + 1))) else (none)) else (none)) else ((bits_Width.f k x3).bind fun t108 => (some t108))) := by
  simp only [pack_Width.l0]
theorem pack_Width.mono_l : ∀ k, (∀ y0 y1 y2 y3, LeO (pack_Width.l0 k y0 y1 y2 y3) (pack_Width.l0 (k + 1) y0 y1 y2 y3))
  | 0 => fun _ _ _ _ r h => by simp [pack_Width.l0] at h
  | k + 1 => by
    have ih0 := pack_Width.mono_l k
    · intro y0 y1 y2 y3
      unfold pack_Width.l0
      repeat' first
      | (with_reducible exact ih0 _ _ _ _)
      | (with_reducible exact bits_Width.mono _ _)
      | (with_reducible exact LeO.refl _)
      | (with_reducible exact LeO.none _)
      | (with_reducible refine LeO.ite ?_ ?_)
      | (with_reducible refine LeO.bind ?_ (fun _ => ?_))
      | exact ih0 _ _ _ _
      | exact bits_Width.mono _ _
      | exact LeO.none _
      | refine LeO.ite ?_ ?_
      | refine LeO.bind ?_ (fun _ => ?_)
theorem pack_Width.mono : ∀ a0 k, LeO (pack_Width.f k a0) (pack_Width.f (k + 1) a0) := by
  intro a0 k
  have ih0 := pack_Width.mono_l k
  unfold pack_Width.f
  repeat' first
      | (with_reducible exact ih0 _ _ _ _)
      | (with_reducible exact bits_Width.mono _ _)
      | (with_reducible exact LeO.refl _)
      | (with_reducible exact LeO.none _)
      | (with_reducible refine LeO.ite ?_ ?_)
      | (with_reducible refine LeO.bind ?_ (fun _ => ?_))
      | exact ih0 _ _ _ _
      | exact bits_Width.mono _ _
      | exact LeO.none _
      | refine LeO.ite ?_ ?_
      | refine LeO.bind ?_ (fun _ => ?_)
set_option maxHeartbeats 8000000 in
set_option maxRecDepth 100000 in
theorem pack_Width.calls (k : Nat) (A0 : Option Addr) (c0 : Nat) (l0 : List Int) (r : Int) (w : World) (hr0 : Kd.C (Kd.int .i64) w A0 l0.length l0) (hc0 : l0.length ≤ c0) (h : pack_Width.f k l0 = some r) :
    Calls Try.prog 26 #[.slice A0 l0.length c0] w fun e w' => e = .returned (.int .i64 r) ∧ Drawn0 w w' := by
  have HR0 := Aside0.mk hr0
  have HC0 := Aside0.mk hc0
  clear hr0 hc0
  have H : (pack_Width.l0 k 0 l0 (l0.length : Int) 0) = some r := h
  clear h
  have H' := Aside0.mk H
  clear H
  go_enter Try.func26, Try.ntmps26
  go_wp2
  go_loopg [3, 8] k (fun kq v3 v8 w' => ∃ (x3_1 : Int) (x8_1 : Int), v3 = .int .i64 x3_1 ∧ v8 = .int .i64 x8_1 ∧ Aside0 (pack_Width.l0 kq x3_1 l0 (l0.length : Int) x8_1 = some r) ∧ Aside0 (kq ≤ k) ∧ Drawn0 w w')
  case atStart => exact ⟨(0), (0), (by first | rfl | (simp; done) | (simp [*]; done)), (by first | rfl | (simp; done) | (simp [*]; done)), H', ⟨Nat.le_refl _⟩, by repeat (first | exact Drawn0.refl _ | apply Drawn0.step)⟩
  case round =>
    clear H'
    obtain ⟨x3_1, x8_1, rfl, rfl, HA, HK1, ⟨m1, rfl⟩⟩ := hrel
    cases gk with
    | zero => exact absurd HA.out (by simp [pack_Width.l0])
    | succ k1 =>
      have H := HA.out
      clear HA
      simp only [pack_Width.l0] at H
      by_cases c2 : x8_1 < (l0.length : Int)
      · rw [if_pos c2] at H
        have c2b0 : decide (x8_1 < (l0.length : Int)) = true := decide_eq_true c2
        clear c2
        by_cases c3 : 0 ≤ x8_1
        · rw [if_pos c3] at H
          have c3b0 : decide (0 ≤ x8_1) = true := decide_eq_true c3
          clear c3
          by_cases c4 : x8_1 < (l0.length : Int)
          · rw [if_pos c4] at H
            have c4b0 : decide (x8_1 < (l0.length : Int)) = true := decide_eq_true c4
            clear c4
            have H' := Aside0.mk H
            clear H
            have p107 : 0 ≤ (x8_1 : Int) := of_decide_eq_true (by first | (with_reducible assumption) | assumption)
            have q107 : x8_1 < (l0.length : Int) := of_decide_eq_true (by first | (with_reducible assumption) | assumption)
            obtain ⟨ad107, e107, hx107_0⟩ := Kd.at_int HR0.out x8_1 p107 q107
            cases e107
            replace p107 := eq_true p107
            replace q107 := eq_true q107
            go_wp2
            go_roundg k1
            case measure => have := HK1.out; omega
            case rel => exact ⟨(Go.bits .or .i64 x3_1 (rd l0 x8_1)), (wrap64 (x8_1 + 1)), (by first | rfl | (simp; done) | (simp [*]; done)), (by first | rfl | (simp; done) | (simp [*]; done)), H', ⟨by have := HK1.out; omega⟩, by repeat (first | exact Drawn0.refl _ | apply Drawn0.step)⟩
          · rw [if_neg c4] at H
            exact absurd H (by simp)
        · rw [if_neg c3] at H
          exact absurd H (by simp)
      · rw [if_neg c2] at H
        have c2b0 : decide (x8_1 < (l0.length : Int)) = false := decide_eq_false c2
        clear c2
        replace H := Option.bind_eq_some_iff.mp H
        obtain ⟨t108, A50, H⟩ := H
        replace H : (some t108) = some r := H
        have A5 := Aside0.mk A50
        clear A50
        obtain rfl := Option.some.inj H
        go_wp2_with (first | ((with_reducible refine gate_callee (f := 34) rfl ?_); refine goesL_ (some 17) rfl rfl Try.func34 (by kernel_rfl) rfl #[.int .i64 x3_1] rfl (by (try simp only [List.map_toArray, List.map_cons, List.map_nil]); first | done | rfl | (simp only [List.length_drop, List.length_take]; rfl)) ?_; (with_reducible refine (bits_Width.calls k1 x3_1 t108 _ A5.out).mono ?_); rintro e w' ⟨rfl, ⟨nd, rfl⟩⟩; refine ⟨_, rfl, ?_⟩))
        go_ret
        exact ⟨by first | rfl | (unfold wrap64; rfl) | (simp; done) | (simp [*]; done), by repeat (first | exact Drawn0.refl _ | apply Drawn0.step)⟩

/-! ### pack_Bytes: function 27 -/
def pack_Bytes.f (a0 : Int) (a1 : Int) : Option (Int) := if a0 < 1 then (some 0) else (if a0 > 65536 then (some 0) else (if a1 < 1 then (some 0) else (if a1 > 64 then (some 0) else (some ((wrap64 ((wrap64 (a0 * a1)) + 7)) / 8)))))
set_option maxHeartbeats 8000000 in
set_option maxRecDepth 100000 in
theorem pack_Bytes.calls (a0 : Int) (a1 : Int) (r : Int) (w : World) (h : pack_Bytes.f a0 a1 = some r) :
    Calls Try.prog 27 #[.int .i64 a0, .int .i64 a1] w fun e w' => e = .returned (.int .i64 r) ∧ Drawn0 w w' := by
  have H : (if a0 < 1 then (some 0) else (if a0 > 65536 then (some 0) else (if a1 < 1 then (some 0) else (if a1 > 64 then (some 0) else (some ((wrap64 ((wrap64 (a0 * a1)) + 7)) / 8)))))) = some r := h
  clear h
  by_cases c3 : a0 < 1
  · rw [if_pos c3] at H
    have c3b0 : decide (a0 < 1) = true := decide_eq_true c3
    clear c3
    obtain rfl := Option.some.inj H
    go_enter Try.func27, Try.ntmps27
    go_wp2
    go_ret
    exact ⟨by first | rfl | (unfold wrap64; rfl) | (simp; done) | (simp [*]; done), by repeat (first | exact Drawn0.refl _ | apply Drawn0.step)⟩
  · rw [if_neg c3] at H
    have c3b0 : decide (a0 < 1) = false := decide_eq_false c3
    clear c3
    by_cases c4 : a0 > 65536
    · rw [if_pos c4] at H
      have c4b0 : decide (65536 < a0) = true := decide_eq_true c4
      clear c4
      obtain rfl := Option.some.inj H
      go_enter Try.func27, Try.ntmps27
      go_wp2
      go_ret
      exact ⟨by first | rfl | (unfold wrap64; rfl) | (simp; done) | (simp [*]; done), by repeat (first | exact Drawn0.refl _ | apply Drawn0.step)⟩
    · rw [if_neg c4] at H
      have c4b0 : decide (65536 < a0) = false := decide_eq_false c4
      clear c4
      by_cases c5 : a1 < 1
      · rw [if_pos c5] at H
        have c5b0 : decide (a1 < 1) = true := decide_eq_true c5
        clear c5
        obtain rfl := Option.some.inj H
        go_enter Try.func27, Try.ntmps27
        go_wp2
        go_ret
        exact ⟨by first | rfl | (unfold wrap64; rfl) | (simp; done) | (simp [*]; done), by repeat (first | exact Drawn0.refl _ | apply Drawn0.step)⟩
      · rw [if_neg c5] at H
        have c5b0 : decide (a1 < 1) = false := decide_eq_false c5
        clear c5
        by_cases c6 : a1 > 64
        · rw [if_pos c6] at H
          have c6b0 : decide (64 < a1) = true := decide_eq_true c6
          clear c6
          obtain rfl := Option.some.inj H
          go_enter Try.func27, Try.ntmps27
          go_wp2
          go_ret
          exact ⟨by first | rfl | (unfold wrap64; rfl) | (simp; done) | (simp [*]; done), by repeat (first | exact Drawn0.refl _ | apply Drawn0.step)⟩
        · rw [if_neg c6] at H
          have c6b0 : decide (64 < a1) = false := decide_eq_false c6
          clear c6
          obtain rfl := Option.some.inj H
          go_enter Try.func27, Try.ntmps27
          go_wp2
          go_ret
          exact ⟨by first | rfl | (unfold wrap64; rfl) | (simp; done) | (simp [*]; done), by repeat (first | exact Drawn0.refl _ | apply Drawn0.step)⟩

/-! ### bits_Mask: function 28 -/
def bits_Mask.f (a0 : Int) : Option (Int) := if a0 ≤ 0 then (some 0) else (if a0 ≥ 64 then (some (-1)) else (if 0 ≤ a0 then (some (wrap64 (IntKind.u64.wrap ((shl .u64 1 a0) - 1)))) else (none)))
set_option maxHeartbeats 8000000 in
set_option maxRecDepth 100000 in
theorem bits_Mask.calls (a0 : Int) (r : Int) (w : World) (h : bits_Mask.f a0 = some r) :
    Calls Try.prog 28 #[.int .i64 a0] w fun e w' => e = .returned (.int .i64 r) ∧ Drawn0 w w' := by
  have H : (if a0 ≤ 0 then (some 0) else (if a0 ≥ 64 then (some (-1)) else (if 0 ≤ a0 then (some (wrap64 (IntKind.u64.wrap ((shl .u64 1 a0) - 1)))) else (none)))) = some r := h
  clear h
  by_cases c2 : a0 ≤ 0
  · rw [if_pos c2] at H
    have c2b0 : decide (a0 ≤ 0) = true := decide_eq_true c2
    clear c2
    obtain rfl := Option.some.inj H
    go_enter Try.func28, Try.ntmps28
    go_wp2
    go_ret
    exact ⟨by first | rfl | (unfold wrap64; rfl) | (simp; done) | (simp [*]; done), by repeat (first | exact Drawn0.refl _ | apply Drawn0.step)⟩
  · rw [if_neg c2] at H
    have c2b0 : decide (a0 ≤ 0) = false := decide_eq_false c2
    clear c2
    by_cases c3 : a0 ≥ 64
    · rw [if_pos c3] at H
      have c3b0 : decide (64 ≤ a0) = true := decide_eq_true c3
      clear c3
      obtain rfl := Option.some.inj H
      go_enter Try.func28, Try.ntmps28
      go_wp2
      go_ret
      exact ⟨by first | rfl | (unfold wrap64; rfl) | (simp; done) | (simp [*]; done), by repeat (first | exact Drawn0.refl _ | apply Drawn0.step)⟩
    · rw [if_neg c3] at H
      have c3b0 : decide (64 ≤ a0) = false := decide_eq_false c3
      clear c3
      by_cases c4 : 0 ≤ a0
      · rw [if_pos c4] at H
        have c4b0 := eq_true c4
        have c4b1 : decide (0 ≤ a0) = true := decide_eq_true c4
        clear c4
        obtain ⟨ji5, hji5⟩ : ∃ j_ : Int, (shl .u64 1 a0) = j_ := ⟨_, rfl⟩
        replace H : (some (wrap64 (IntKind.u64.wrap ((ji5) - 1)))) = some r := by first | (rw [hji5] at H; exact H) | (simp only [hji5] at H ⊢; exact H)
        have hji5_ : (IntKind.u64.wrap (1 * 2 ^ min a0.toNat 64)) = ji5 := hji5
        have hji5z : a0 ≤ 64 → (IntKind.u64.wrap (1 * 2 ^ a0.toNat)) = ji5 := shl_small hji5
        have hji5u : (IntKind.u64.wrap (2 ^ min a0.toNat 64)) = ji5 := by have h_ := hji5_; rw [Int.one_mul] at h_; exact h_
        have hji5v : a0 ≤ 64 → (IntKind.u64.wrap (2 ^ a0.toNat)) = ji5 := fun hle_ => by have h_ := hji5z hle_; rw [Int.one_mul] at h_; exact h_
        obtain rfl := Option.some.inj H
        go_enter Try.func28, Try.ntmps28
        go_wp2
        go_ret
        exact ⟨by first | rfl | (unfold wrap64; rfl) | (simp; done) | (simp only [← hji5] <;> (first | rfl | simp)) | (simp [*]; done), by repeat (first | exact Drawn0.refl _ | apply Drawn0.step)⟩
      · rw [if_neg c4] at H
        exact absurd H (by simp)

end Go.Proofs.Ytkbblkfbgpohkaa.Print
