-- Functions and laws: texts of the session's own and of the kit's print program, joined; what nothing names is left out.
import Derived.Test.YtjgmdjieandemaaGreatKA
import Derived.Test.YtjgmdjieandemaaGreatKW
import Derived.Test.YtjgmdjieandemaaGreatKB
import Derived.Test.YtjgmdjieandemaaGreatKR
section
namespace Go.Proofs.YtjgmdjieandemaaGreat.Print
open Go.RowKit Go.Proofs.YtjgmdjieandemaaGreatW.PrintWords Go.Proofs.YtjgmdjieandemaaGreatW.PrintLast Go.Proofs.YtjgmdjieandemaaGreatW.PrintMore
attribute [local go_sem] max2_int min2_int max_two min_two max_three min_three max_four min_four   -- for this text's walks alone
set_option linter.unusedVariables false
set_option linter.unusedSimpArgs false
/-! ### span_both_fn88: function 87 (a contract of the session's own) -/
section
attribute [local go_sem] Oper.semAt_some
def span_both_fn88.go : List S98 → List S64 → Option (List S64)
  | [], o => some o
  | x :: xs, o => (span_And_1.f x.f0.f0 x.f0.f1 x.f1 x.f2).bind fun t => if t = true then ((span_adds.f o x.f0.f0 x.f0.f1).bind fun o2 => span_both_fn88.go xs o2) else span_both_fn88.go xs o
def span_both_fn88.f (k : Nat) (l0 l1 : List S64) : Option (List S64 × Int) := (span_May.f k l0).bind fun a => if a = true then ((span_May.f k l1).bind fun b => if b = true then ((span_parts_1.f k l0 l1).bind fun xs => (span_both_fn88.go xs []).bind fun o => some (o, 0)) else some (([] : List S64), 1)) else some (([] : List S64), 1)
theorem span_both_fn88.go_snoc : ∀ (pre : List S98) (x : S98) (o : List S64), span_both_fn88.go (pre ++ [x]) o = (span_both_fn88.go pre o).bind fun o1 => (span_And_1.f x.f0.f0 x.f0.f1 x.f1 x.f2).bind fun t => if t = true then span_adds.f o1 x.f0.f0 x.f0.f1 else some o1 := by
 intro pre
 induction pre with
 | nil =>
   intro x o
   simp only [List.nil_append, span_both_fn88.go, Option.bind_some]
   congr 1; funext t; split
   ·cases span_adds.f o x.f0.f0 x.f0.f1 <;> rfl
   ·rfl
 | cons y ys ih =>
   intro x o
   simp only [List.cons_append, span_both_fn88.go]
   rw [Option.bind_assoc]
   congr 1; funext t; split
   ·rw [Option.bind_assoc]; congr 1; funext o2; exact ih x o2
   ·exact ih x o
theorem span_both_fn88.go_pre : ∀ (pre rest : List S98) (o r : List S64), span_both_fn88.go (pre ++ rest) o = some r → ∃ o1, span_both_fn88.go pre o = some o1 := by
 intro pre
 induction pre with
 | nil => intro rest o r h; exact ⟨o, rfl⟩
 | cons y ys ih =>
   intro rest o r h
   simp only [List.cons_append, span_both_fn88.go] at h ⊢
   obtain ⟨t, ht, h⟩ := Option.bind_eq_some_iff.mp h
   rw [ht]; simp only [Option.bind_some]
   split at h
   ·rename_i hq
    obtain ⟨o2, ho, h⟩ := Option.bind_eq_some_iff.mp h
    rw [if_pos hq, ho]; exact ih rest o2 r h
   ·rename_i hq
    rw [if_neg hq]; exact ih rest o r h
set_option maxHeartbeats 4000000 in
set_option maxRecDepth 100000 in
theorem span_both_fn88.calls (k : Nat) (A0 : Option Addr) (c0 : Nat) (l0 : List (S64)) (A1 : Option Addr) (c1 : Nat) (l1 : List (S64)) (r1 : List S64) (r2 : Int) (w : World) (hr0 : Kd.C k64 w A0 l0.length l0) (hc0 : l0.length ≤ c0) (hr1 : Kd.C k64 w A1 l1.length l1) (hc1 : l1.length ≤ c1) (h : span_both_fn88.f k l0 l1 = some (r1, r2)) :
    Calls Tryz.prog 87 #[.slice A0 l0.length c0, .slice A1 l1.length c1, .func (.func 88) #[] #[]] w fun e w' => ∃ v0_ : Value, e = .returned (.tuple #[v0_, .int .i64 r2]) ∧ Kd.R k64 64 w' w.heap.size (fun _ => True) v0_ r1 ∧ Below w.heap.size w w' := by
 have hmf : ∀ (fn : Fn) (first cap : Array Value) (w : World), (Instr.makeFunc fn first cap).run Tryz.prog w = .ok (.func fn first cap) w := fun _ _ _ _ => rfl
 have hu55 := Tryz.underlying98
 have hu43 := Tryz.underlying64
 have hu24 := Tryz.underlying22
 have HR0 := Aside0.mk hr0
 have HC0 := Aside0.mk hc0
 clear hr0 hc0
 have HR1 := Aside0.mk hr1
 have HC1 := Aside0.mk hc1
 clear hr1 hc1
 have HB := Aside0.mk (Below.refl w.heap.size w)
 have H := h
 clear h
 unfold span_both_fn88.f at H
 obtain ⟨a, A1_, H⟩ := Option.bind_eq_some_iff.mp H
 refine (callsIn_wide (n := 4)).1 ?_
 refine callsIn_of_wp_marks Tryz.func87 rfl trivial ?_ rfl
 simp only [Tryz.ntmps87, List.size_toArray, List.length_cons, List.length_nil, Nat.reduceAdd, Nat.reduceSub, Array.replicate_succ, Array.replicate_zero, List.push_toArray, List.append_toArray, List.nil_append, List.cons_append]
 refine wpIn_wide.2 ?_
 cases a with
 | false =>
   simp only [Bool.false_eq_true, if_false, Option.some.injEq, Prod.mk.injEq] at H
   obtain ⟨rfl, rfl⟩ := H
   have H1 := Aside0.mk A1_
   clear A1_
   go_wp2_with (first | ((with_reducible refine gate_dst (N := 5) rfl ?_); refine box_event ?hg (N := 5) ?hd (cs := #[.func (.func 88) #[] #[]]) (t := 99) ?hr ?_; (case hd => rfl); (case hg => rfl); (case hr => (go_simp; done)); intro gi hg w3 hbox hb; have n0_ := Aside0.mk (below_step HB.out hb); have n1_ := Aside0.mk hbox; have n2_ := Aside0.mk ((by rw [hg]; exact Nat.le_refl _) : w.heap.size ≤ gi); clear HB; have HB := n0_; have BKi := n1_; have GEi := n2_; clear n0_ n1_ n2_ hb hbox hg) | ((with_reducible refine gate_callee (f := 41) rfl ?_); refine gL 11 Tryz.func41 #[.slice A0 l0.length c0] ?_; (with_reducible refine (span_May.calls _ _ _ l0 false _ ?side1 ?side2 H1.out).mono ?_); (case side1 => exact (Kd.C_below HR0.out HB.out)); (case side2 => exact HC0.out); rintro e w4 ⟨rfl, hb⟩; refine ⟨_, rfl, ?_⟩; have n0_ := Aside0.mk (below_step HB.out hb); have n1_ := Aside0.mk (blk_below BKi.out hb); clear HB BKi hb; have HB := n0_; have BKi := n1_; clear n0_ n1_))
   exact ⟨_, results_list (rs := [.tmp 6, .tmp 7]) rfl (by simp) (.tmp (.tmp .nil)), _, rfl, Kd.R_nil _ _ _ _ _, HB.out⟩
 | true =>
   rw [if_pos rfl] at H
   obtain ⟨b, A2_, H⟩ := Option.bind_eq_some_iff.mp H
   cases b with
   | false =>
     simp only [Bool.false_eq_true, if_false, Option.some.injEq, Prod.mk.injEq] at H
     obtain ⟨rfl, rfl⟩ := H
     have H1 := Aside0.mk A1_
     have H2 := Aside0.mk A2_
     clear A1_ A2_
     go_wp2_with (first | ((with_reducible refine gate_dst (N := 5) rfl ?_); refine box_event ?hg (N := 5) ?hd (cs := #[.func (.func 88) #[] #[]]) (t := 99) ?hr ?_; (case hd => rfl); (case hg => rfl); (case hr => (go_simp; done)); intro gi hg w3 hbox hb; have n0_ := Aside0.mk (below_step HB.out hb); have n1_ := Aside0.mk hbox; have n2_ := Aside0.mk ((by rw [hg]; exact Nat.le_refl _) : w.heap.size ≤ gi); clear HB; have HB := n0_; have BKi := n1_; have GEi := n2_; clear n0_ n1_ n2_ hb hbox hg) | ((with_reducible refine gate_callee (f := 41) rfl ?_); refine gL 11 Tryz.func41 #[.slice A0 l0.length c0] ?_; (with_reducible refine (span_May.calls _ _ _ l0 true _ ?side1 ?side2 H1.out).mono ?_); (case side1 => exact (Kd.C_below HR0.out HB.out)); (case side2 => exact HC0.out); rintro e w4 ⟨rfl, hb⟩; refine ⟨_, rfl, ?_⟩; have n0_ := Aside0.mk (below_step HB.out hb); have n1_ := Aside0.mk (blk_below BKi.out hb); clear HB BKi hb; have HB := n0_; have BKi := n1_; clear n0_ n1_) | (go_at_call 41; (with_reducible refine (span_May.calls _ _ _ l1 false _ ?side1 ?side2 H2.out).mono ?_); (case side1 => exact (Kd.C_below HR1.out HB.out)); (case side2 => exact HC1.out); rintro e w5 ⟨rfl, hb⟩; have n0_ := Aside0.mk (below_step HB.out hb); have n1_ := Aside0.mk (blk_below BKi.out hb); clear HB BKi hb; have HB := n0_; have BKi := n1_; clear n0_ n1_))
     exact ⟨_, results_list (rs := [.tmp 6, .tmp 7]) rfl (by simp) (.tmp (.tmp .nil)), _, rfl, Kd.R_nil _ _ _ _ _, HB.out⟩
   | true =>
     rw [if_pos rfl] at H
     obtain ⟨xs, A3_, H⟩ := Option.bind_eq_some_iff.mp H
     obtain ⟨o, A4_, H⟩ := Option.bind_eq_some_iff.mp H
     simp only [Option.some.injEq, Prod.mk.injEq] at H
     obtain ⟨rfl, rfl⟩ := H
     have H1 := Aside0.mk A1_
     have H2 := Aside0.mk A2_
     have H3 := Aside0.mk A3_
     have H4 := Aside0.mk A4_
     clear A1_ A2_ A3_ A4_
     go_wp2_with (first | ((with_reducible refine gate_dst (N := 5) rfl ?_); refine box_event ?hg (N := 5) ?hd (cs := #[.func (.func 88) #[] #[]]) (t := 99) ?hr ?_; (case hd => rfl); (case hg => rfl); (case hr => (go_simp; done)); intro gi hg w3 hbox hb; have n0_ := Aside0.mk (below_step HB.out hb); have n1_ := Aside0.mk hbox; have n2_ := Aside0.mk ((by rw [hg]; exact Nat.le_refl _) : w.heap.size ≤ gi); clear HB; have HB := n0_; have BKi := n1_; have GEi := n2_; clear n0_ n1_ n2_ hb hbox hg) | ((with_reducible refine gate_callee (f := 41) rfl ?_); refine gL 11 Tryz.func41 #[.slice A0 l0.length c0] ?_; (with_reducible refine (span_May.calls _ _ _ l0 true _ ?side1 ?side2 H1.out).mono ?_); (case side1 => exact (Kd.C_below HR0.out HB.out)); (case side2 => exact HC0.out); rintro e w4 ⟨rfl, hb⟩; refine ⟨_, rfl, ?_⟩; have n0_ := Aside0.mk (below_step HB.out hb); have n1_ := Aside0.mk (blk_below BKi.out hb); clear HB BKi hb; have HB := n0_; have BKi := n1_; clear n0_ n1_) | (go_at_call 41; (with_reducible refine (span_May.calls _ _ _ l1 true _ ?side1 ?side2 H2.out).mono ?_); (case side1 => exact (Kd.C_below HR1.out HB.out)); (case side2 => exact HC1.out); rintro e w5 ⟨rfl, hb⟩; have n0_ := Aside0.mk (below_step HB.out hb); have n1_ := Aside0.mk (blk_below BKi.out hb); clear HB BKi hb; have HB := n0_; have BKi := n1_; clear n0_ n1_) | ((with_reducible refine gate_dst (N := 8) rfl ?_); refine box_event ?hg (N := 8) ?hd (cs := #[.slice none 0 0]) (t := 22) ?hr ?_; (case hd => rfl); (case hg => rfl); (case hr => (go_simp; done)); intro go_ hg w6 hbox hb; have n0_ := Aside0.mk (below_step HB.out hb); have n1_ := Aside0.mk (blk_below BKi.out hb); have n2_ := Aside0.mk hbox; have n3_ := Aside0.mk ((by rw [hg]; exact below_size HB.out) : w.heap.size ≤ go_); have n4_ := Aside0.mk ((by rw [hg]; exact Nat.ne_of_lt (blk_lt BKi.out)) : gi ≠ go_); clear HB BKi; have HB := n0_; have BKi := n1_; have BKo := n2_; have GEo := n3_; have NBio := n4_; clear n0_ n1_ n2_ n3_ n4_ hb hbox hg) | ((with_reducible refine gate_dst (N := 2) rfl ?_); refine box_event ?hg (N := 2) ?hd (cs := #[.slice A0 l0.length c0]) (t := 22) ?hr ?_; (case hd => rfl); (case hg => rfl); (case hr => (go_simp; done)); intro ga hg w7 hbox hb; have n0_ := Aside0.mk (below_step HB.out hb); have n1_ := Aside0.mk (blk_below BKi.out hb); have n2_ := Aside0.mk (blk_below BKo.out hb); have n3_ := Aside0.mk hbox; have n4_ := Aside0.mk ((by rw [hg]; exact below_size HB.out) : w.heap.size ≤ ga); have n5_ := Aside0.mk ((by rw [hg]; exact Nat.ne_of_lt (blk_lt BKi.out)) : gi ≠ ga); have n6_ := Aside0.mk ((by rw [hg]; exact Nat.ne_of_lt (blk_lt BKo.out)) : go_ ≠ ga); clear HB BKi BKo; have HB := n0_; have BKi := n1_; have BKo := n2_; have BKa := n3_; have GEa := n4_; have NBia := n5_; have NBoa := n6_; clear n0_ n1_ n2_ n3_ n4_ n5_ n6_ hb hbox hg) | ((with_reducible refine gate_dst (N := 3) rfl ?_); refine box_event ?hg (N := 3) ?hd (cs := #[.slice A1 l1.length c1]) (t := 22) ?hr ?_; (case hd => rfl); (case hg => rfl); (case hr => (go_simp; done)); intro gb hg w8 hbox hb; have n0_ := Aside0.mk (below_step HB.out hb); have n1_ := Aside0.mk (blk_below BKi.out hb); have n2_ := Aside0.mk (blk_below BKo.out hb); have n3_ := Aside0.mk (blk_below BKa.out hb); have n4_ := Aside0.mk hbox; have n5_ := Aside0.mk ((by rw [hg]; exact below_size HB.out) : w.heap.size ≤ gb); have n6_ := Aside0.mk ((by rw [hg]; exact Nat.ne_of_lt (blk_lt BKi.out)) : gi ≠ gb); have n7_ := Aside0.mk ((by rw [hg]; exact Nat.ne_of_lt (blk_lt BKo.out)) : go_ ≠ gb); have n8_ := Aside0.mk ((by rw [hg]; exact Nat.ne_of_lt (blk_lt BKa.out)) : ga ≠ gb); clear HB BKi BKo BKa; have HB := n0_; have BKi := n1_; have BKo := n2_; have BKa := n3_; have BKb := n4_; have GEb := n5_; have NBib := n6_; have NBob := n7_; have NBab := n8_; clear n0_ n1_ n2_ n3_ n4_ n5_ n6_ n7_ n8_ hb hbox hg) | go_in)
     have HC0' := HC0
     have HC1' := HC1
     refine (wpIn_wide (n := 4)).1 ?_
     refine XR.wp_range (α := S98) (w0 := w) (by decide) (gf := 127) (lb := #[.pointer (some ⟨ga, 0, none⟩), .pointer (some ⟨gb, 0, none⟩)]) rfl (enters_of Tryz.func127 (by kernel_rfl) rfl)
       (span_parts_1.iter k A0 c0 l0 A1 c1 l1 xs w w8 ga gb HR0.out HC0'.out HR1.out HC1'.out HB.out BKa.out BKb.out GEa.out GEb.out NBab.out H3.out)
       (by rintro k_ (rfl | rfl); exact blk_lt BKa.out; exact blk_lt BKb.out) (fun _ => rfl)
       (fun G_ pre X => ∃ (o1 : List S64) (v : Value), span_both_fn88.go pre [] = some o1 ∧ X.heap[go_]? = some (.cells #[v] 22 (0, 0)) ∧ Kd.R k64 64 X w.heap.size (fun k_ => w.heap.size ≤ k_ ∧ (k_ ≠ gi ∧ k_ ≠ go_ ∧ k_ ≠ ga ∧ k_ ≠ gb ∧ k_ ≠ w8.heap.size ∧ k_ ≠ w8.heap.size + 1 ∧ ¬ G_ k_)) v o1 ∧ X.heap[gi]? = some (.cells #[.func (.func 88) #[] #[]] 99 (0, 0)) ∧ Below w.heap.size w X)
       (fun _ _ _ => False)
       ?hI ?hIG (fun _ _ _ _ h _ => h) ?hIB ?hIp (fun _ _ _ _ _ h _ _ _ => h) ?h0
       (fun Y x a' Z => a' = { tmps := #[.slice A0 l0.length c0, .slice A1 l1.length c1, .func (.func 88) #[] #[], undef, undef, .pointer (some ⟨gi, 0, none⟩), .slice none 0 0, .int .i64 0, .pointer (some ⟨go_, 0, none⟩), .pointer (some ⟨Y.heap.size, 0, none⟩), .slice A0 l0.length c0, .bool true, .bool false, .bool false, .slice A1 l1.length c1, .bool true, .bool false, .bool false, .slice A0 l0.length c0, .slice A1 l1.length c1, .func (.func 127) #[] #[.pointer (some ⟨ga, 0, none⟩), .pointer (some ⟨gb, 0, none⟩)], .agg #[.int .i64 x.f0.f0, .int .i64 x.f0.f1, .bool x.f1, .bool x.f2], undef, undef, undef, undef, undef, undef, undef, undef], defers := [] } ∧ Z.heap[Y.heap.size]? = some (.cells #[.int .i64 x.f0.f0, .int .i64 x.f0.f1, .bool x.f1, .bool x.f2] 98 (0, 0)))
       ?hAx ?assign ?body ?done ?stop
     case hI =>
       rintro G_ pre X Y ⟨o1, v, hg, ho, hr, hi, hb⟩ hXY
       exact ⟨o1, v, hg, blk_below ho hXY, Kd.R_below hr hXY, blk_below hi hXY, below_step hb hXY⟩
     case hIG =>
       rintro G_ G2_ pre X ⟨o1, v, hg, ho, hr, hi, hb⟩ hG
       refine ⟨o1, v, hg, ho, Kd.R_mono (Kd.R_tight rfl hr) (fun k_ hk => ?_), hi, hb⟩
       have hq := hr.1 k_ hk.symm
       have hlt := Kd.R_lt hr k_ hk.symm
       exact ⟨hq.1, hq.2.1, hq.2.2.1, hq.2.2.2.1, hq.2.2.2.2.1, hq.2.2.2.2.2.1, hq.2.2.2.2.2.2.1, fun h2 => (hG k_ h2).elim hq.2.2.2.2.2.2.2 (fun z => by omega)⟩
     case hIB =>
       rintro G_ pre X ⟨o1, v, hg, ho, hr, hi, hb⟩
       exact hb
     case hIp =>
       rintro G_ pre X l o2 ⟨o1, v, hg, ho, hr, hi, hb⟩ hl hl2 hlt
       have hio : l ≠ gi := by have := blk_lt BKi.out; omega
       have hoo : l ≠ go_ := by have := blk_lt BKo.out; omega
       refine ⟨o1, v, hg, (World.putObj_heap_other (Ne.symm hoo)).trans ho, ?_, (World.putObj_heap_other (Ne.symm hio)).trans hi, XR.below_putObj hb (by have := HB.out.size; omega) hlt o2⟩
       exact Kd.R_step hr (fun k_ hk _ => World.putObj_heap_other (by have h5 := hk.2.2.2.2.2.1; have h6 := hk.2.2.2.2.2.2.1; omega))
     case h0 => exact ⟨[], _, rfl, BKo.out, Kd.R_nil _ _ _ _ _, BKi.out, HB.out⟩
     case hAx =>
       rintro Y x a' Z l o2 ⟨rfl, hz⟩ hl hl2 hlt
       exact ⟨rfl, (World.putObj_heap_other (by omega)).trans hz⟩
     case assign =>
       intro G_ pre x Y hI hsz
       gi_wp2
       exact ⟨(Below.refl _ Y).alloc (Nat.le_refl _) _, trivial, World.alloc_heap_new Y _⟩
     case body =>
       rintro G_ pre x rest Y Z a' hx hGY ⟨o1, v, hg, ho, hr, hi, hb⟩ hsX hYZ ⟨rfl, hz⟩
       have hsY : Y.heap.size < Z.heap.size := blk_lt hz
       have hlgo : go_ < w8.heap.size := blk_lt BKo.out
       have hsn := span_both_fn88.go_snoc pre x []
       rw [hg] at hsn
       simp only [Option.bind_some] at hsn
       obtain ⟨o2, ho2⟩ := span_both_fn88.go_pre (pre ++ [x]) rest [] _ (by have h4 := H4.out; rw [hx] at h4; simpa using h4)
       rw [ho2] at hsn
       obtain ⟨t, ht, hs⟩ := Option.bind_eq_some_iff.mp hsn.symm
       have c1 : Z.cell? ⟨gi, 0, none⟩ = some (.func (.func 88) #[] #[]) := (blk_cell hi 0).trans rfl
       have c2 : Z.cell? ⟨Y.heap.size, 0, none⟩ = some (.int .i64 x.f0.f0) := (blk_cell hz 0).trans rfl
       have c3 : Z.cell? ⟨Y.heap.size, 1, none⟩ = some (.int .i64 x.f0.f1) := (blk_cell hz 1).trans rfl
       have c4 : Z.cell? ⟨Y.heap.size, 2, none⟩ = some (.bool x.f1) := (blk_cell hz 2).trans rfl
       have c5 : Z.cell? ⟨Y.heap.size, 3, none⟩ = some (.bool x.f2) := (blk_cell hz 3).trans rfl
       cases t with
       | false =>
         simp only [Bool.false_eq_true, if_false, Option.some.injEq] at hs
         subst hs
         gi_wp2_with (refine ⟨trivial, ?_⟩; gi_at_call 88; refine (CallsIn.inRound (w8.heap.size + 1) (callsIn_wide.2 (span_And_1.calls _ _ _ _ false Z ht))).mono ?_; rintro e w9 ⟨rfl, hb9⟩)
         exact ⟨⟨_, v, ho2, blk_below ho hb9, Kd.R_below hr hb9, blk_below hi hb9, below_step hb hb9⟩, hb9.size, fun k_ hk _ => hb9.block k_ hk⟩
       | true =>
         simp only [if_true] at hs
         gi_wp2_with (first | (refine ⟨trivial, ?_⟩; gi_at_call 88; refine (CallsIn.inRound (w8.heap.size + 1) (callsIn_wide.2 (span_And_1.calls _ _ _ _ true Z ht))).mono ?_; rintro e w9 ⟨rfl, hb9⟩; have d2 : w9.cell? ⟨Y.heap.size, 0, none⟩ = some (.int .i64 x.f0.f0) := (blk_cell (blk_below hz hb9) 0).trans rfl; have d3 : w9.cell? ⟨Y.heap.size, 1, none⟩ = some (.int .i64 x.f0.f1) := (blk_cell (blk_below hz hb9) 1).trans rfl; have d6 : w9.cell? ⟨go_, 0, none⟩ = some v := (blk_cell (blk_below ho hb9) 0).trans rfl) | (refine ⟨trivial, ?_⟩; gi_at_call 79; refine (CallsIn.inRound (w8.heap.size + 1) (callsIn_wide.2 (span_adds.calls (fun k_ => some k_ = v.ownBlock) v o1 x.f0.f0 x.f0.f1 o2 w w9 (below_step hb hb9) (Kd.R_tight rfl (Kd.R_below hr hb9)) hs))).mono ?_; rintro e w10 ⟨v0, rfl, hr10, hb10, hk10⟩; have hne : ∀ k_, some k_ = v.ownBlock → k_ ≠ gi ∧ k_ ≠ go_ ∧ k_ ≠ ga ∧ k_ ≠ gb ∧ k_ ≠ w8.heap.size ∧ k_ ≠ w8.heap.size + 1 ∧ ¬ G_ k_ := fun k_ e_ => (hr.1 k_ e_.symm).2; have hlt9 : Z.heap.size ≤ w9.heap.size := hb9.size; have ho10 := (hk10.2 go_ (blk_lt (blk_below ho hb9)) (fun e_ => (hne _ e_).2.1 rfl)).trans (blk_below ho hb9); have hi10 := (hk10.2 gi (blk_lt (blk_below hi hb9)) (fun e_ => (hne _ e_).1 rfl)).trans (blk_below hi hb9); obtain ⟨Av, cv, rfl⟩ := Kd.R_slice hr10; have e6 : w10.cell? ⟨go_, 0, none⟩ = some v := (blk_cell ho10 0).trans rfl; have e7 := blk_frozen ho10 0))
         have hlgi : gi < w8.heap.size := blk_lt BKi.out
         have hlga : ga < w8.heap.size := blk_lt BKa.out
         have hlgb : gb < w8.heap.size := blk_lt BKb.out
         have hgb : Below w.heap.size w (w10.setCell ⟨go_, 0, none⟩ (.slice Av o2.length cv)) := hb10.setCell (p := ⟨go_, 0, none⟩) GEo.out _
         have hrow : Kd.R k64 64 (w10.setCell ⟨go_, 0, none⟩ (.slice Av o2.length cv)) w.heap.size (fun k_ => w.heap.size ≤ k_ ∧ (k_ ≠ gi ∧ k_ ≠ go_ ∧ k_ ≠ ga ∧ k_ ≠ gb ∧ k_ ≠ w8.heap.size ∧ k_ ≠ w8.heap.size + 1 ∧ ¬ G_ k_)) (.slice Av o2.length cv) o2 := by
           have hr11 : Kd.R k64 64 w10 w.heap.size (fun k_ => w.heap.size ≤ k_ ∧ (k_ ≠ gi ∧ k_ ≠ go_ ∧ k_ ≠ ga ∧ k_ ≠ gb ∧ k_ ≠ w8.heap.size ∧ k_ ≠ w8.heap.size + 1 ∧ ¬ G_ k_)) (.slice Av o2.length cv) o2 := by
             refine Kd.R_mono hr10 (fun k_ hk => ?_)
             rcases hk with hk | hk
             ·exact hr.1 k_ hk.symm
             ·have := HB.out.size; have := below_size hb; refine ⟨by omega, by omega, by omega, by omega, by omega, by omega, by omega, fun h2 => by have := hGY k_ h2; omega⟩
           exact Kd.R_step hr11 (fun k_ hk _ => Below.heap_setCell _ _ _ k_ (by exact hk.2.2.1))
         refine ⟨⟨o2, _, ho2, blk_put ho10 0 _ rfl, hrow, blk_far hi10 (by exact NBio.out) _, hgb⟩, ?_, ?_⟩
         ·have := hk10.1; simp; omega
         ·intro k_ hk hkeep
          have hkgo : k_ ≠ go_ := by
            rcases hkeep with (rfl | rfl) | hh | hh | hh
            ·exact Ne.symm NBoa.out
            ·exact Ne.symm NBob.out
            ·have := hGY k_ hh; omega
            ·omega
            ·omega
          have hkv : ¬ some k_ = v.ownBlock := by
            intro e_
            have hq := hne _ e_
            rcases hkeep with (rfl | rfl) | hh | hh | hh
            ·exact hq.2.2.1 rfl
            ·exact hq.2.2.2.1 rfl
            ·exact hq.2.2.2.2.2.2 hh
            ·exact hq.2.2.2.2.1 hh
            ·exact hq.2.2.2.2.2.1 hh
          rw [Below.heap_setCell _ _ _ k_ hkgo, hk10.2 k_ (by omega) hkv, hb9.block k_ hk]
     case done =>
       rintro G_ W ⟨o1, v, hg, ho, hr, hi, hb⟩ hK
       obtain rfl : o1 = o := by have h4 := H4.out; rw [hg] at h4; exact Option.some.inj h4
       have cv1 : W.cell? ⟨go_, 0, none⟩ = some v := (blk_cell ho 0).trans rfl
       go_wp2
       refine ⟨by simp, .inl ⟨_, _, rfl, run_takeDeferred hK, ?_⟩⟩
       exact ⟨_, results_list (rs := [.tmp 6, .tmp 7]) rfl (by simp) (.tmp (.tmp .nil)), v, rfl, Kd.R_mono (Kd.R_step hr (fun k_ hk _ => World.putObj_heap_other (by have h5 := hk.2.2.2.2.2.1; have h6 := hk.2.2.2.2.2.2.1; omega))) (fun _ _ => trivial), XR.below_putObj hb (by have := HB.out.size; omega) (Array.getElem?_eq_some_iff.1 hK).1 _⟩
     case stop =>
       rintro c pre W _ h _
       exact h.elim
end
/-! ### span_And: function 57 -/
def span_And.f (k : Nat) (l0 : List (S64)) (l1 : List (S64)) : Option ((List (S64)) × Int) := (span_both_fn88.f k l0 l1).bind fun bt293 => (some (bt293.1, bt293.2))
set_option maxHeartbeats 8000000 in
set_option maxRecDepth 100000 in
theorem span_And.calls (k : Nat) (A0 : Option Addr) (c0 : Nat) (l0 : List (S64)) (A1 : Option Addr) (c1 : Nat) (l1 : List (S64)) (r1 : List (S64)) (r2 : Int) (w : World) (hr0 : Kd.C k64 w A0 l0.length l0) (hc0 : l0.length ≤ c0) (hr1 : Kd.C k64 w A1 l1.length l1) (hc1 : l1.length ≤ c1) (h : span_And.f k l0 l1 = some (r1, r2)) :
  Calls Tryz.prog 57 #[.slice A0 l0.length c0, .slice A1 l1.length c1] w fun e w' => ∃ v0_ : Value, e = .returned (.tuple #[v0_, .int .i64 r2]) ∧ Kd.R k64 64 w' w.heap.size (fun _ => True) v0_ r1 ∧ Below w.heap.size w w' := by
 have HR0 := Aside0.mk hr0
 have HC0 := Aside0.mk hc0
 clear hr0 hc0
 have HR1 := Aside0.mk hr1
 have HC1 := Aside0.mk hc1
 clear hr1 hc1
 have HB := Aside0.mk (Below.refl w.heap.size w)
 have H := h
 clear h
 unfold span_And.f at H
 replace H := bd H
 obtain ⟨⟨t293, t296⟩, A3, H⟩ := H
 dsimp only at H
 simp only [Option.some.injEq, Prod.mk.injEq] at H
 obtain ⟨rfl, rfl⟩ := H
 go_enter Tryz.func57, Tryz.ntmps57
 go_wp2_with (((with_reducible refine gate_callee (f := 87) rfl ?_); refine gL 8 Tryz.func87 #[.slice A0 l0.length c0, .slice A1 l1.length c1, .func (.func 88) #[] #[]] ?_; (with_reducible refine (span_both_fn88.calls k _ _ l0 _ _ l1  t293 t296 _ ?side1 ?side2 ?side3 ?side4 A3.out).mono ?_); (case side1 => exact cx HR0.out); (case side2 => exact HC0.out); (case side3 => exact cx HR1.out); (case side4 => exact HC1.out); rintro e w4 ⟨v294, rfl, ho0, hb⟩; refine ⟨_, rfl, ?_⟩; have HO295 := Aside0.mk (Kd.R_lower ho0 (below_size (bh HB.out))); replace HB := bsa HB hb; clear hb ho0))
 go_ret2
 exact ⟨_, er, by exact HO295.out, bh HB.out⟩
/-! ### words_Spans: function 53 -/
mutual
def words_Spans.l0 : Nat → List Int → Int → Int → List (S64) → Option ((List (S64)) × Int)
 | 0, _, _, _, _ => none
 | k + 1, x19, x20, x21, x299000 => if x21 < x20 then (if 0 ≤ x21 then (if x21 < (x19.length : Int) then ((bits_Next.f k (rd x19 x21) 0).bind fun t300 => (words_Spans.l1 k x21 (rd x19 x21) t300 x19 x20 x21 x299000)) else (none)) else (none)) else (some (x299000, 0))
def words_Spans.l1 : Nat → Int → Int → Int → List Int → Int → Int → List (S64) → Option ((List (S64)) × Int)
 | 0, _, _, _, _, _, _, _ => none
 | k + 1, x16, x17, x18, x19, x20, x21, x299000 => if x18 ≥ 0 then (if (wrap64 ((x299000.length : Int) - 1)) ≥ 0 then (if 0 ≤ (wrap64 ((x299000.length : Int) - 1)) then (if (wrap64 ((x299000.length : Int) - 1)) < (x299000.length : Int) then (words_Spans.j2 k x16 x17 x18 x19 x20 x21 (wrap64 ((wrap64 (64 * x16)) + x18)) (wrap64 ((x299000.length : Int) - 1)) (((rd_T64 x299000 (wrap64 ((x299000.length : Int) - 1))).f1) == (wrap64 ((wrap64 (64 * x16)) + x18))) x299000) else (none)) else (none)) else (words_Spans.j2 k x16 x17 x18 x19 x20 x21 (wrap64 ((wrap64 (64 * x16)) + x18)) (wrap64 ((x299000.length : Int) - 1)) false x299000)) else (words_Spans.l0 k x19 x20 (wrap64 (x21 + 1)) x299000)
def words_Spans.j2 : Nat → Int → Int → Int → List Int → Int → Int → Int → Int → Bool → List (S64) → Option ((List (S64)) × Int)
 | 0, _, _, _, _, _, _, _, _, _, _ => none
 | k + 1, x16, x17, x18, x19, x20, x21, x42, x46, x60, x299000 => if x60 = true then (if 0 ≤ x46 then (if x46 < (x299000.length : Int) then ((bits_Next.f k x17 (wrap64 (x18 + 1))).bind fun t304 => (words_Spans.l1 k x16 x17 t304 x19 x20 x21 (x299000.set (x46 : Int).toNat (⟨(rd_T64 x299000 x46).f0, wrap64 (((rd_T64 x299000 x46).f1) + 1)⟩ : S64)))) else (none)) else (none)) else (if x299000.length < 8796093022208 then ((bits_Next.f k x17 (wrap64 (x18 + 1))).bind fun t308 => (words_Spans.l1 k x16 x17 t308 x19 x20 x21 (x299000 ++ [(⟨x42, wrap64 (x42 + 1)⟩ : S64)]))) else (none))
end
def words_Spans.f (k : Nat) (l0 : List Int) : Option ((List (S64)) × Int) := (words_May.f l0).bind fun t297 => (if t297 = true then (words_Spans.l0 k l0 (l0.length : Int) 0 ([] : List (S64))) else (some (([] : List (S64)), 1)))
theorem words_Spans.l0_succ (k) (a0) (a1) (a2) (a3) : type_of% (@words_Spans.l0.eq_2 a0 a1 a2 a3 k) := words_Spans.l0.eq_2 a0 a1 a2 a3 k
theorem words_Spans.l1_succ (k) (a0) (a1) (a2) (a3) (a4) (a5) (a6) : type_of% (@words_Spans.l1.eq_2 a0 a1 a2 a3 a4 a5 a6 k) := words_Spans.l1.eq_2 a0 a1 a2 a3 a4 a5 a6 k
theorem words_Spans.j2_succ (k) (a0) (a1) (a2) (a3) (a4) (a5) (a6) (a7) (a8) (a9) : type_of% (@words_Spans.j2.eq_2 a0 a1 a2 a3 a4 a5 a6 a7 a8 a9 k) := words_Spans.j2.eq_2 a0 a1 a2 a3 a4 a5 a6 a7 a8 a9 k
set_option maxHeartbeats 8000000 in
set_option maxRecDepth 100000 in
theorem words_Spans.calls (k : Nat) (A0 : Option Addr) (c0 : Nat) (l0 : List Int) (r1 : List (S64)) (r2 : Int) (w : World) (hr0 : Kd.C (Kd.int .i64) w A0 l0.length l0) (hc0 : l0.length ≤ c0) (h : words_Spans.f k l0 = some (r1, r2)) :
  Calls Tryz.prog 53 #[.slice A0 l0.length c0] w fun e w' => ∃ v0_ : Value, e = .returned (.tuple #[v0_, .int .i64 r2]) ∧ Kd.R k64 64 w' w.heap.size (fun _ => True) v0_ r1 ∧ Below w.heap.size w w' := by
 have hmf : ∀ (fn : Fn) (first cap : Array Value) (w : World), (Instr.makeFunc fn first cap).run Tryz.prog w = .ok (.func fn first cap) w := fun _ _ _ _ => rfl
 have hu64 := Tryz.underlying64
 have HR0 := Aside0.mk hr0
 have HC0 := Aside0.mk hc0
 clear hr0 hc0
 have HB := Aside0.mk (Below.refl w.heap.size w)
 have H := h
 clear h
 unfold words_Spans.f at H
 replace H := bd H
 obtain ⟨t297, A2, H⟩ := H
 replace H := ifb H
 rcases H with ⟨rfl, H⟩ | ⟨rfl, H⟩
 ·have H' := Aside0.mk H
  clear H
  go_enter Tryz.func53, Tryz.ntmps53
  go_wp2_with (first | ((with_reducible refine gate_callee (f := 80) rfl ?_); refine gL 6 Tryz.func80 #[.slice A0 l0.length c0] ?_; (with_reducible refine (words_May.calls _ _ l0 true _ ?side1 ?side2 A2.out).mono ?_); (case side1 => exact cx HR0.out); (case side2 => exact HC0.out); rintro e w' ⟨rfl, ⟨nd, rfl⟩⟩; refine ⟨_, rfl, ?_⟩) | ((with_reducible refine gate_dst (N := 4) rfl ?_); refine boxE HB 4 22 #[.slice none 0 0] ?_; clear HB; intro gb298 w4 BK298 GW298 hg hb HB; have GE298 := GW298; clear hb hg) | go_in)
  repeat ((fail))
  go_loopg [9] k (fun kq v21 w' => ∃ (x21_1 : Int) (x299000_1 : List (S64)) (u299000 : Value), v21 = .int .i64 x21_1 ∧ Aside0 (words_Spans.l0 kq l0 (l0.length : Int) x21_1 x299000_1 = some (r1, r2)) ∧ Aside0 (kq ≤ k) ∧ Aside0 (Kd.R k64 64 w' w.heap.size (fun _ => True) u299000 x299000_1) ∧ Aside0 (w'.heap[gb298]? = some (.cells #[u299000] 22 (0, 0))) ∧ Aside0 (Below w.heap.size w w'))
  case atStart => exact ⟨(0), (([] : List (S64))), (.slice none 0 0), (by rfl), H', ⟨Nat.le_refl _⟩, ⟨nl⟩, ⟨bx BK298.out⟩, ⟨bh HB.out⟩⟩
  case round =>
   clear H'
   obtain ⟨x21_1, x299000_1, u299000, rfl, HA, HK1, HO_299000, BK298, HB⟩ := hrel
   cases gk with
   | zero => exact absurd HA.out (by simp [words_Spans.l0])
   | succ k1 =>
    have H := HA.out
    clear HA
    simp only [words_Spans.l0] at H
    replace H := ifd H
    rcases H with ⟨-, c5b0, H⟩ | ⟨-, c5b0, H⟩
    ·replace H := ifn H
     obtain ⟨-, c6b0, H⟩ := H
     replace H := ifn H
     obtain ⟨-, c7b0, H⟩ := H
     replace H := bd H
     obtain ⟨t300, A8, H⟩ := H
     have H' := Aside0.mk H
     clear H
     have p299 : 0 ≤ (x21_1 : Int) := ad
     have q299 : x21_1 < (l0.length : Int) := ad
     obtain ⟨ad299, e299, hx299_0⟩ := Kd.at_int HR0.out x21_1 p299 q299
     cases e299
     replace hx299_0 := cb HB.out.cell hx299_0
     replace p299 := eq_true p299
     replace q299 := eq_true q299
     go_wp2_with (((with_reducible refine gate_callee (f := 94) rfl ?_); refine gL 15 Tryz.func94 #[.int .i64 (rd l0 x21_1), .int .i64 0] ?_; (with_reducible refine (bits_Next.calls k1 (rd l0 x21_1) 0 t300 _ A8.out).mono ?_); rintro e w9 ⟨rfl, hb⟩; refine ⟨_, rfl, ?_⟩; replace HO_299000 := rba HO_299000 hb; replace BK298 := bba BK298 hb; replace HB := bsa HB hb; clear hb))
     repeat ((fail))
     go_loopg [6] k1 (fun kq v18 w' => ∃ (x18_2 : Int) (x299000_2 : List (S64)) (u299000 : Value), v18 = .int .i64 x18_2 ∧ Aside0 (words_Spans.l1 kq x21_1 (rd l0 x21_1) x18_2 l0 (l0.length : Int) x21_1 x299000_2 = some (r1, r2)) ∧ Aside0 (kq ≤ k1) ∧ Aside0 (Kd.R k64 64 w' w.heap.size (fun _ => True) u299000 x299000_2) ∧ Aside0 (w'.heap[gb298]? = some (.cells #[u299000] 22 (0, 0))) ∧ Aside0 (Below w.heap.size w w'))
     case atStart => exact ⟨(t300), (x299000_1), (u299000), (by rfl), H', ⟨Nat.le_refl _⟩, ⟨by exact HO_299000.out⟩, ⟨bx BK298.out⟩, ⟨bh HB.out⟩⟩
     case round =>
      clear H' c5b0 c6b0 c7b0 hx299_0 p299 q299
      obtain ⟨x18_2, x299000_2, u299000, rfl, HA, HK2, HO_299000, BK298, HB⟩ := hrel
      cases gk with
      | zero => exact absurd HA.out (by simp [words_Spans.l1])
      | succ k2 =>
       have H := HA.out
       clear HA
       simp only [words_Spans.l1] at H
       replace H := ifd H
       rcases H with ⟨-, c10b0, H⟩ | ⟨-, c10b0, H⟩
       ·have HC11 := Aside0.mk H
        clear H
        obtain ⟨hcz12_0, hfz12_0⟩ := b1 BK298
        obtain ⟨Ao13, co13, eo13⟩ := Kd.R_slice HO_299000.out
        subst eo13
        go_upto_region 2 with (go_in)
        go_cut [18] (fun v60 wc => ∃ (kq : Nat) (x60_10 : Bool), v60 = .bool x60_10 ∧ Aside0 (words_Spans.j2 kq x21_1 (rd l0 x21_1) x18_2 l0 (l0.length : Int) x21_1 (wrap64 ((wrap64 (64 * x21_1)) + x18_2)) (wrap64 ((x299000_2.length : Int) - 1)) x60_10 x299000_2 = some (r1, r2)) ∧ Aside0 (kq ≤ k2) ∧ Aside0 (Kd.R k64 64 wc w.heap.size (fun _ => True) (.slice Ao13 x299000_2.length co13) x299000_2) ∧ Aside0 (wc.heap[gb298]? = some (.cells #[(.slice Ao13 x299000_2.length co13)] 22 (0, 0))) ∧ Aside0 (Below w.heap.size w wc))
        case first =>
         have H := HC11.out
         clear HC11
         replace H := ifd H
         rcases H with ⟨-, c14b0, H⟩ | ⟨-, c14b0, H⟩
         ·(skip)
          obtain ⟨ji15, hji15⟩ : ∃ j_ : Int, (wrap64 ((x299000_2.length : Int) - 1)) = j_ := ⟨_, rfl⟩
          replace H : (if 0 ≤ (ji15) then (if (ji15) < (x299000_2.length : Int) then (words_Spans.j2 k2 x21_1 (rd l0 x21_1) x18_2 l0 (l0.length : Int) x21_1 (wrap64 ((wrap64 (64 * x21_1)) + x18_2)) ji15 (((rd_T64 x299000_2 (ji15)).f1) == (wrap64 ((wrap64 (64 * x21_1)) + x18_2))) x299000_2) else (none)) else (none)) = some (r1, r2) := by (rw [hji15] at H; exact H)
          (rw [hji15] at c14b0)
          have hji15w : (IntKind.i64.wrap ((x299000_2.length : Int) - 1)) = ji15 := (i64_w _).trans hji15
          replace H := ifn H
          obtain ⟨-, c16b0, H⟩ := H
          replace H := ifn H
          obtain ⟨-, c17b0, H⟩ := H
          have H' := Aside0.mk H
          clear H
          obtain ⟨hcz18_0, hfz18_0⟩ := b1 BK298
          have p301 : 0 ≤ ((ji15) : Int) := ad
          have q301 : (ji15) < (x299000_2.length : Int) := ad
          obtain ⟨ad301, e301, hx301_0, hx301_1⟩ := at_T64 (Kd.R_reads' HO_299000.out).2.2 (ji15) p301 q301
          cases e301
          replace p301 := eq_true p301
          replace q301 := eq_true q301
          go_wp2
          go_meet
          case rel => exact ⟨_, ((((rd_T64 x299000_2 (ji15)).f1) == (wrap64 ((wrap64 (64 * x21_1)) + x18_2)))), (by rfl), (by (simp only [hji15]; exact H')), ⟨by have := HK1.out; have := HK2.out; omega⟩, ⟨by exact HO_299000.out⟩, ⟨bx BK298.out⟩, ⟨bh HB.out⟩⟩
         ·(skip)
          have H' := Aside0.mk H
          clear H
          go_wp2
          go_meet
          case rel => exact ⟨_, (false), (by rfl), H', ⟨by have := HK1.out; have := HK2.out; omega⟩, ⟨by exact HO_299000.out⟩, ⟨bx BK298.out⟩, ⟨bh HB.out⟩⟩
        case rest =>
         clear HC11 c10b0 hcz12_0 hfz12_0
         obtain ⟨kq, x60_10, rfl, HA, HJ10, HO_299000, BK298, HB⟩ := hcut
         cases kq with
         | zero => exact absurd HA.out (by simp [words_Spans.j2])
         | succ kj10 =>
          have H := HA.out
          clear HA
          simp only [words_Spans.j2] at H
          replace H := ifb H
          rcases H with ⟨rfl, H⟩ | ⟨rfl, H⟩
          ·obtain ⟨ji20, hji20⟩ : ∃ j_ : Int, (wrap64 ((x299000_2.length : Int) - 1)) = j_ := ⟨_, rfl⟩
           replace H : (if 0 ≤ (ji20) then (if (ji20) < (x299000_2.length : Int) then ((bits_Next.f kj10 (rd l0 x21_1) (wrap64 (x18_2 + 1))).bind fun t304 => (words_Spans.l1 kj10 x21_1 (rd l0 x21_1) t304 l0 (l0.length : Int) x21_1 (x299000_2.set ((ji20) : Int).toNat (⟨(rd_T64 x299000_2 (ji20)).f0, wrap64 (((rd_T64 x299000_2 (ji20)).f1) + 1)⟩ : S64)))) else (none)) else (none)) = some (r1, r2) := by (rw [hji20] at H; exact H)
           have hji20w : (IntKind.i64.wrap ((x299000_2.length : Int) - 1)) = ji20 := (i64_w _).trans hji20
           replace H := ifn H
           obtain ⟨-, c21b0, H⟩ := H
           replace H := ifn H
           obtain ⟨-, c22b0, H⟩ := H
           obtain ⟨y303, hy303⟩ : ∃ y_ : List (S64), y_ = (x299000_2.set ((ji20) : Int).toNat (⟨(rd_T64 x299000_2 (ji20)).f0, wrap64 (((rd_T64 x299000_2 (ji20)).f1) + 1)⟩ : S64)) := ⟨_, rfl⟩
           replace H : ((bits_Next.f kj10 (rd l0 x21_1) (wrap64 (x18_2 + 1))).bind fun t304 => (words_Spans.l1 kj10 x21_1 (rd l0 x21_1) t304 l0 (l0.length : Int) x21_1 y303)) = some (r1, r2) := by (rw [hy303]; with_reducible exact H)
           have Ny303 := Aside0.mk hy303
           clear hy303
           replace H := bd H
           obtain ⟨t304, A24, H⟩ := H
           have H' := Aside0.mk H
           clear H
           obtain ⟨hcz25_0, hfz25_0⟩ := b1 BK298
           have p302 : 0 ≤ ((ji20) : Int) := ad
           have q302 : (ji20) < (x299000_2.length : Int) := ad
           obtain ⟨ad302, e302, hx302_0, hx302_1⟩ := at_T64 (Kd.R_reads' HO_299000.out).2.2 (ji20) p302 q302
           cases e302
           replace p302 := eq_true p302
           replace q302 := eq_true q302
           have p23 : 0 ≤ ((ji20) : Int) := ad
           have q23 : ((ji20) : Int) < ((x299000_2.length : Int) : Int) := ad
           obtain ⟨go23, co23, eo23, gb23, gl23, cl23, HG23⟩ := Kd.R_form HO_299000.out (by omega)
           (cases eo23)
           have GB23 := Aside0.mk gb23
           have GG23 := Aside0.mk HG23
           clear gb23 gl23 HG23
           (simp only [add_plain] at hx302_0)
           (simp only [add_plain] at hx302_1)
           obtain ⟨ce23, hcl23, hM23, hcc23, hfr23⟩ := Kd.R_elem HO_299000.out z64 ((ji20) : Int) p23 q23
           obtain rfl := k64_openM hM23
           have hx23_0 : wc.cell? ⟨go23, ((ji20) : Int).toNat * 2, none⟩ = some (.int .i64 ((rd_T64 x299000_2 (ji20)).f0)) := hcc23 0 _ rfl
           have hx23_1 : wc.cell? ⟨go23, ((ji20) : Int).toNat * 2 + 1, none⟩ = some (.int .i64 ((rd_T64 x299000_2 (ji20)).f1)) := hcc23 1 _ rfl
           have hf23_0 : wc.frozen? ⟨go23, ((ji20) : Int).toNat * 2, none⟩ = false := hfr23 0
           have hf23_1 : wc.frozen? ⟨go23, ((ji20) : Int).toNat * 2 + 1, none⟩ = false := hfr23 1
           clear hcl23 hcc23 hfr23 hM23
           replace p23 := eq_true p23
           replace q23 := eq_true q23
           have HX26 := Aside0.mk (show Kd.R k64 64 wc w.heap.size (fun _ => True) (.slice (some ⟨go23, 0, none⟩) x299000_2.length co13) x299000_2 from (rx HO_299000.out))
           obtain ⟨ce26, hcl26, hM26, hcc26, hfr26⟩ := Kd.R_elem HX26.out z64 ((ji20) : Int) (of_decide_eq_true (by assumption)) (by have h_ : ((ji20) : Int) < ((x299000_2.length : Int) : Int) := of_decide_eq_true (by assumption); exact h_)
           obtain rfl := k64_openM hM26
           have HP26 := Kd.R_seg HX26.out ((ji20) : Int) (of_decide_eq_true (by assumption)) (by have h_ : ((ji20) : Int) < ((x299000_2.length : Int) : Int) := of_decide_eq_true (by assumption); exact h_) (seg := [.int .i64 (wrap64 (((rd_T64 x299000_2 (ji20)).f1) + 1))]) (j := 1) hcl26 hcc26 (show 2 ≤ 2 from by decide) (x' := (⟨(rd_T64 x299000_2 (ji20)).f0, wrap64 (((rd_T64 x299000_2 (ji20)).f1) + 1)⟩ : S64)) (k64_mkM _ _ _ (⟨(rd_T64 x299000_2 (ji20)).f0, wrap64 (((rd_T64 x299000_2 (ji20)).f1) + 1)⟩ : S64) ) (fun _ hk => hk)
           have hx26_1 := hcc26 1 _ rfl
           (simp only [show (k64).sz = 2 from rfl, Nat.mul_one, Nat.add_zero] at hx26_1)
           have hf26_1 := hfr26 1
           (simp only [show (k64).sz = 2 from rfl, Nat.mul_one, Nat.add_zero] at hf26_1)
           clear hcl26 hcc26 hfr26 hM26
           go_wp2_with (first | ((with_reducible refine gate_store (t := 3) (p := 26) rfl ?_); refine stE 3 26 (wc.setCell ⟨go23, ((ji20) : Int).toNat * 2 + 1, none⟩ (.int .i64 (wrap64 (((rd_T64 x299000_2 (ji20)).f1) + 1)))) ?_; intro w27 hw; have hg : wc.grownBy w27 (some go23) := (by rw [hw]; exact HP26.2); have hp_ : Kd.R k64 64 w27 w.heap.size (fun _ => True) (.slice (some ⟨go23, 0, none⟩) x299000_2.length co13) y303 := (by rw [hw, Ny303.out]; exact HP26.1); clear HP26; replace BK298 := Aside0.mk (blk_grown (g := gb298) (o := .cells #[.slice (some ⟨go23, 0, none⟩) x299000_2.length co13] 22 (0, 0)) (bx BK298.out) hg (Kd.R_ne HO_299000.out BK298.out (by decide))); replace HO_299000 := Aside0.mk (hp_); replace HB := Aside0.mk ((by rw [hw]; exact below_set (HB.out) GB23.out : Below w.heap.size w w27)); clear hg hw hp_) | ((with_reducible refine gate_callee (f := 94) rfl ?_); refine gL 21 Tryz.func94 #[.int .i64 (rd l0 x21_1), .int .i64 (wrap64 (x18_2 + 1))] ?_; (with_reducible refine (bits_Next.calls kj10 (rd l0 x21_1) (wrap64 (x18_2 + 1)) t304 _ A24.out).mono ?_); rintro e w28 ⟨rfl, hb⟩; refine ⟨_, rfl, ?_⟩; replace HO_299000 := rba HO_299000 hb; replace BK298 := bba BK298 hb; replace HB := bsa HB hb; clear hb))
           repeat ((fail))
           go_roundg kj10
           case measure => have := HK1.out; have := HK2.out; have := HJ10.out; omega
           case rel => exact ⟨(t304), (y303), (.slice (some ⟨go23, 0, none⟩) x299000_2.length co13), (by rfl), (by exact H'), ⟨by have := HK1.out; have := HK2.out; have := HJ10.out; omega⟩, ⟨by exact HO_299000.out⟩, ⟨bx BK298.out⟩, ⟨bh HB.out⟩⟩
          ·replace H := ifn H
           obtain ⟨c29, -, H⟩ := H
           have LMc29 := Aside0.mk c29
           clear c29
           obtain ⟨y305, hy305⟩ : ∃ y_ : List (S64), y_ = (x299000_2 ++ [(⟨(wrap64 ((wrap64 (64 * x21_1)) + x18_2)), wrap64 ((wrap64 ((wrap64 (64 * x21_1)) + x18_2)) + 1)⟩ : S64)]) := ⟨_, rfl⟩
           replace H : ((bits_Next.f kj10 (rd l0 x21_1) (wrap64 (x18_2 + 1))).bind fun t308 => (words_Spans.l1 kj10 x21_1 (rd l0 x21_1) t308 l0 (l0.length : Int) x21_1 y305)) = some (r1, r2) := by (rw [hy305]; with_reducible exact H)
           have Ny305 := Aside0.mk hy305
           clear hy305
           replace H := bd H
           obtain ⟨t308, A30, H⟩ := H
           have H' := Aside0.mk H
           clear H
           obtain ⟨hcz31_0, hfz31_0⟩ := b1 BK298
           go_wp2_with (first | ((with_reducible refine gate_builtin (b := .append) (xs := #[.tmp 27, .tmp 32]) rfl ?_); at_builtin; refine Kd.R_append k64 (w0 := w) w.heap.size rfl (.tmp 27) (.tmp 32) 22 64 (.agg #[(.int .i64 0), (.int .i64 0)]) 16 rfl Tryz.underlying22 info64 rfl (by decide) (by omega) (.slice Ao13 x299000_2.length co13) x299000_2 (⟨(wrap64 ((wrap64 (64 * x21_1)) + x18_2)), wrap64 ((wrap64 ((wrap64 (64 * x21_1)) + x18_2)) + 1)⟩ : S64) [.int .i64 (wrap64 ((wrap64 (64 * x21_1)) + x18_2)), .int .i64 (wrap64 ((wrap64 ((wrap64 (64 * x21_1)) + x18_2)) + 1))] (fun _ => True) (fun _ => False) rfl rfl ?aP (fun _ hk => hk.elim) ?aF ?aO ?aB ?aS ?aL ?_; (case aP => exact k64_mkM _ _ _ (⟨(wrap64 ((wrap64 (64 * x21_1)) + x18_2)), wrap64 ((wrap64 ((wrap64 (64 * x21_1)) + x18_2)) + 1)⟩ : S64)); (case aB => exact (bh HB.out)); (case aF => exact (fun _ _ => trivial)); (case aO => exact (rx HO_299000.out)); (case aS => exact (below_size (bh HB.out))); (case aL => have := LMc29.out; omega); intro v306 w32 ho hb hg hat; rw [← Ny305.out] at ho; have n0_ := Aside0.mk (blk_grown (g := gb298) (o := .cells #[.slice Ao13 x299000_2.length co13] 22 (0, 0)) (bx BK298.out) hg (Kd.R_ne HO_299000.out BK298.out (by decide))); have n1_ := Aside0.mk (hb); have n2_ := Aside0.mk (ho); clear BK298 HB HO_299000; have BK298 := n0_; have HB := n1_; have HO307 := n2_; clear n0_ n1_ n2_ ho hb hg hat; obtain ⟨Ao33, co33, eo33⟩ := Kd.R_slice HO307.out; subst eo33; obtain ⟨hcz34_0, hfz34_0⟩ := b1 BK298) | ((with_reducible refine gate_callee (f := 94) rfl ?_); refine gL 21 Tryz.func94 #[.int .i64 (rd l0 x21_1), .int .i64 (wrap64 (x18_2 + 1))] ?_; (with_reducible refine (bits_Next.calls kj10 (rd l0 x21_1) (wrap64 (x18_2 + 1)) t308 _ A30.out).mono ?_); rintro e w35 ⟨rfl, hb⟩; refine ⟨_, rfl, ?_⟩; replace HO307 := Aside0.mk (Kd.R_below (by exact (Kd.R_mono (Kd.R_far (p := ⟨gb298, 0, none⟩) (Kd.R_types HO307.out BK298.out (by decide)) (fun _ hk => hk.2) (.slice Ao33 y305.length co33)) (fun _ h_ => h_.1))) hb); replace BK298 := Aside0.mk (blk_below (g := gb298) (o := .cells #[.slice Ao33 y305.length co33] 22 (0, 0)) (by refine blk_put (cs := #[.slice Ao13 x299000_2.length co13]) ?_ 0 _ rfl; exact BK298.out) hb); replace HB := bsa HB hb; clear hb))
           repeat ((fail))
           go_roundg kj10
           case measure => have := HK1.out; have := HK2.out; have := HJ10.out; omega
           case rel => exact ⟨(t308), (y305), (.slice Ao33 y305.length co33), (by rfl), H', ⟨by have := HK1.out; have := HK2.out; have := HJ10.out; omega⟩, ⟨by exact HO307.out⟩, ⟨bx BK298.out⟩, ⟨bh HB.out⟩⟩
       ·have H' := Aside0.mk H
        clear H
        go_wp2
        go_roundg k2
        case measure => have := HK1.out; have := HK2.out; omega
        case rel => exact ⟨(wrap64 (x21_1 + 1)), (x299000_2), (u299000), (by rfl), H', ⟨by have := HK1.out; have := HK2.out; omega⟩, ⟨by exact HO_299000.out⟩, ⟨bx BK298.out⟩, ⟨bh HB.out⟩⟩
    ·simp only [Option.some.injEq, Prod.mk.injEq] at H
     obtain ⟨rfl, rfl⟩ := H
     obtain ⟨hcz36_0, hfz36_0⟩ := b1 BK298
     go_wp2
     repeat ((go_end0); go_wp2)
     go_ret2
     exact ⟨_, er, by exact HO_299000.out, bh HB.out⟩
 ·simp only [Option.some.injEq, Prod.mk.injEq] at H
  obtain ⟨rfl, rfl⟩ := H
  go_enter Tryz.func53, Tryz.ntmps53
  go_wp2_with (((with_reducible refine gate_callee (f := 80) rfl ?_); refine gL 6 Tryz.func80 #[.slice A0 l0.length c0] ?_; (with_reducible refine (words_May.calls _ _ l0 false _ ?side1 ?side2 A2.out).mono ?_); (case side1 => exact cx HR0.out); (case side2 => exact HC0.out); rintro e w' ⟨rfl, ⟨nd, rfl⟩⟩; refine ⟨_, rfl, ?_⟩))
  repeat ((fail))
  go_ret2
  exact ⟨_, er, nl, bh HB.out⟩
/-! ### poslist_List_Spans: function 20 -/
def poslist_List_Spans.f (k : Nat) (a0_0 : Int) (l0_1 : List (S64)) (l0_2 : List Int) (l0_3 : List Int) : Option ((List (S64))) := if a0_0 = 2 then ((words_Spans.f k l0_2).bind fun bt310 => (some bt310.1)) else (if a0_0 = 3 then ((span_Of.f k l0_3).bind fun bt314 => (some bt314.1)) else ((api_Span_42.f l0_1).bind fun t318 => (some t318)))
set_option maxHeartbeats 8000000 in
set_option maxRecDepth 100000 in
theorem poslist_List_Spans.calls (k : Nat) (a0_0 : Int) (A0_1 : Option Addr) (c0_1 : Nat) (l0_1 : List (S64)) (A0_2 : Option Addr) (c0_2 : Nat) (l0_2 : List Int) (A0_3 : Option Addr) (c0_3 : Nat) (l0_3 : List Int) (r : List (S64)) (w : World) (hr0_1 : Kd.C k64 w A0_1 l0_1.length l0_1) (hc0_1 : l0_1.length ≤ c0_1) (hr0_2 : Kd.C (Kd.int .i64) w A0_2 l0_2.length l0_2) (hc0_2 : l0_2.length ≤ c0_2) (hr0_3 : Kd.C (Kd.int .i64) w A0_3 l0_3.length l0_3) (hc0_3 : l0_3.length ≤ c0_3) (h : poslist_List_Spans.f k a0_0 l0_1 l0_2 l0_3 = some r) :
  Calls Tryz.prog 20 #[.agg #[.int .i64 a0_0, .slice A0_1 l0_1.length c0_1, .slice A0_2 l0_2.length c0_2, .slice A0_3 l0_3.length c0_3]] w fun e w' => ∃ v0_ : Value, e = .returned (v0_) ∧ Kd.R k64 64 w' w.heap.size (fun _ => True) v0_ r ∧ Below w.heap.size w w' := by
 have hu27 := Tryz.underlying27
 have HR0_1 := Aside0.mk hr0_1
 have HC0_1 := Aside0.mk hc0_1
 clear hr0_1 hc0_1
 have HR0_2 := Aside0.mk hr0_2
 have HC0_2 := Aside0.mk hc0_2
 clear hr0_2 hc0_2
 have HR0_3 := Aside0.mk hr0_3
 have HC0_3 := Aside0.mk hc0_3
 clear hr0_3 hc0_3
 have HB := Aside0.mk (Below.refl w.heap.size w)
 have H := h
 clear h
 unfold poslist_List_Spans.f at H
 replace H := ife H
 rcases H with ⟨-, c2b0, c2b1, H⟩ | ⟨c2, c2b0, c2b1, H⟩
 ·replace H := bd H
  obtain ⟨⟨t310, t311⟩, A3, H⟩ := H
  dsimp only at H
  obtain rfl := Option.some.inj H
  go_enter Tryz.func20, Tryz.ntmps20
  go_wp2_with (first | ((with_reducible refine gate_dst (N := 1) rfl ?_); refine boxE HB 1 27 #[.int .i64 a0_0, .slice A0_1 l0_1.length c0_1, .slice A0_2 l0_2.length c0_2, .slice A0_3 l0_3.length c0_3] ?_; clear HB; intro gb309 w4 BK309 GW309 hg hb HB; have GE309 := GW309; clear hb hg; obtain ⟨hcz5_0, hcz5_1, hcz5_2, hcz5_3, hfz5_0, hfz5_1, hfz5_2, hfz5_3⟩ := b4 BK309) | ((with_reducible refine gate_callee (f := 53) rfl ?_); refine gL 14 Tryz.func53 #[.slice A0_2 l0_2.length c0_2] ?_; (with_reducible refine (words_Spans.calls k _ _ l0_2 t310 t311 _ ?side1 ?side2 A3.out).mono ?_); (case side1 => exact cx (Kd.C_below HR0_2.out HB.out)); (case side2 => exact HC0_2.out); rintro e w6 ⟨v312, rfl, ho0, hb⟩; refine ⟨_, rfl, ?_⟩; have HO313 := Aside0.mk (Kd.R_lower ho0 (below_size (bh HB.out))); replace BK309 := bba BK309 hb; replace HB := bsa HB hb; clear hb ho0))
  go_ret
  exact ⟨_, er, by exact HO313.out, bh HB.out⟩
 ·replace H := ife H
  rcases H with ⟨-, c7b0, c7b1, H⟩ | ⟨c7, c7b0, c7b1, H⟩
  ·replace H := bd H
   obtain ⟨⟨t314, t315⟩, A8, H⟩ := H
   dsimp only at H
   obtain rfl := Option.some.inj H
   go_enter Tryz.func20, Tryz.ntmps20
   go_wp2_with (first | ((with_reducible refine gate_dst (N := 1) rfl ?_); refine boxE HB 1 27 #[.int .i64 a0_0, .slice A0_1 l0_1.length c0_1, .slice A0_2 l0_2.length c0_2, .slice A0_3 l0_3.length c0_3] ?_; clear HB; intro gb309 w9 BK309 GW309 hg hb HB; have GE309 := GW309; clear hb hg; obtain ⟨hcz10_0, hcz10_1, hcz10_2, hcz10_3, hfz10_0, hfz10_1, hfz10_2, hfz10_3⟩ := b4 BK309) | ((with_reducible refine gate_callee (f := 49) rfl ?_); refine gL 23 Tryz.func49 #[.slice A0_3 l0_3.length c0_3] ?_; (with_reducible refine (span_Of.calls k _ _ l0_3 t314 t315 _ ?side1 ?side2 A8.out).mono ?_); (case side1 => exact cx (Kd.C_below HR0_3.out HB.out)); (case side2 => exact HC0_3.out); rintro e w11 ⟨v316, rfl, ho0, hb⟩; refine ⟨_, rfl, ?_⟩; have HO317 := Aside0.mk (Kd.R_lower ho0 (below_size (bh HB.out))); replace BK309 := bba BK309 hb; replace HB := bsa HB hb; clear hb ho0))
   go_ret
   exact ⟨_, er, by exact HO317.out, bh HB.out⟩
  ·replace H := bd H
   obtain ⟨t318, A12, H⟩ := H
   obtain rfl := Option.some.inj H
   go_enter Tryz.func20, Tryz.ntmps20
   go_wp2_with (first | ((with_reducible refine gate_dst (N := 1) rfl ?_); refine boxE HB 1 27 #[.int .i64 a0_0, .slice A0_1 l0_1.length c0_1, .slice A0_2 l0_2.length c0_2, .slice A0_3 l0_3.length c0_3] ?_; clear HB; intro gb309 w13 BK309 GW309 hg hb HB; have GE309 := GW309; clear hb hg; obtain ⟨hcz14_0, hcz14_1, hcz14_2, hcz14_3, hfz14_0, hfz14_1, hfz14_2, hfz14_3⟩ := b4 BK309) | ((with_reducible refine gate_callee (f := 42) rfl ?_); refine gL 29 Tryz.func42 #[.slice A0_1 l0_1.length c0_1] ?_; (with_reducible refine (api_Span_42.calls _ _ l0_1 t318 _ ?side1 ?side2 A12.out).mono ?_); (case side1 => exact cx (Kd.C_below HR0_1.out HB.out)); (case side2 => exact HC0_1.out); rintro e w15 ⟨v319, rfl, ho0, hb⟩; refine ⟨_, rfl, ?_⟩; have HO320 := Aside0.mk (Kd.R_lower ho0 (below_size (bh HB.out))); replace BK309 := bba BK309 hb; replace HB := bsa HB hb; clear hb ho0))
   go_ret
   exact ⟨_, er, by exact HO320.out, bh HB.out⟩
/-! ### poslist_List_bits: function 84 -/
def poslist_List_bits.f (k : Nat) (a0_0 : Int) (l0_1 : List (S64)) (l0_2 : List Int) (l0_3 : List Int) : Option (List Int) := if a0_0 = 2 then (some l0_2) else ((poslist_List_Spans.f k a0_0 l0_1 l0_2 l0_3).bind fun t322 => ((words_Of.f k t322).bind fun bt325 => (some bt325.1)))
set_option maxHeartbeats 8000000 in
set_option maxRecDepth 100000 in
theorem poslist_List_bits.calls (k : Nat) (a0_0 : Int) (A0_1 : Option Addr) (c0_1 : Nat) (l0_1 : List (S64)) (P0_2_ : Nat → Prop) (A0_2 : Option Addr) (c0_2 : Nat) (l0_2 : List Int) (A0_3 : Option Addr) (c0_3 : Nat) (l0_3 : List Int) (r : List Int) (w : World) (hr0_1 : Kd.C k64 w A0_1 l0_1.length l0_1) (hc0_1 : l0_1.length ≤ c0_1) (hs0_2 : Kd.V (Kd.int .i64) 3 w w.heap.size (fun k_ => P0_2_ k_) (.slice A0_2 l0_2.length c0_2) l0_2) (hr0_3 : Kd.C (Kd.int .i64) w A0_3 l0_3.length l0_3) (hc0_3 : l0_3.length ≤ c0_3) (h : poslist_List_bits.f k a0_0 l0_1 l0_2 l0_3 = some r) :
  Calls Tryz.prog 84 #[.agg #[.int .i64 a0_0, .slice A0_1 l0_1.length c0_1, .slice A0_2 l0_2.length c0_2, .slice A0_3 l0_3.length c0_3]] w fun e w' => ∃ v0_ : Value, e = .returned (v0_) ∧ Kd.V (Kd.int .i64) 3 w' w.heap.size (fun k_ => (P0_2_ k_ ∨ w.heap.size ≤ k_)) v0_ r ∧ Below w.heap.size w w' := by
 have hu27 := Tryz.underlying27
 have HR0_1 := Aside0.mk hr0_1
 have HC0_1 := Aside0.mk hc0_1
 clear hr0_1 hc0_1
 have HO0_2 := Aside0.mk (show Kd.V (Kd.int .i64) 3 w w.heap.size (fun k_ => (P0_2_ k_ ∨ w.heap.size ≤ k_)) (.slice A0_2 l0_2.length c0_2) l0_2 from Kd.V_mono hs0_2 (fun k_ hk => .inl hk))
 have HR0_3 := Aside0.mk hr0_3
 have HC0_3 := Aside0.mk hc0_3
 clear hr0_3 hc0_3
 have HB := Aside0.mk (Below.refl w.heap.size w)
 have H := h
 clear h
 unfold poslist_List_bits.f at H
 replace H := ife H
 rcases H with ⟨-, c2b0, c2b1, H⟩ | ⟨c2, c2b0, c2b1, H⟩
 ·obtain rfl := Option.some.inj H
  go_enter Tryz.func84, Tryz.ntmps84
  go_wp2_with (((with_reducible refine gate_dst (N := 1) rfl ?_); refine box_event ?hg (N := 1) ?hd (cs := #[.int .i64 a0_0, .slice A0_1 l0_1.length c0_1, .slice A0_2 l0_2.length c0_2, .slice A0_3 l0_3.length c0_3]) (t := 27) ?hr ?_; (case hd => rfl); (case hg => rfl); (case hr => (go_simp; done)); intro gb321 hg w3 hbox hb; replace HO0_2 := Aside0.mk (Kd.V_below (Kd.V_elderB (by exact HO0_2.out) gb321 (Nat.le_of_eq hg.symm)) hb); have BK321 := Aside0.mk (hbox); have GW321 := bza HB hg; have GE321 := bza HB hg; replace HB := bsa HB hb; clear hb hbox hg; obtain ⟨hcz4_0, hcz4_1, hcz4_2, hcz4_3, hfz4_0, hfz4_1, hfz4_2, hfz4_3⟩ := b4 BK321))
  go_ret
  exact ⟨_, er, by exact Kd.V_mono HO0_2.out (fun _ hk => hk.1), bh HB.out⟩
 ·replace H := bd H
  obtain ⟨t322, A5, H⟩ := H
  replace H := bd H
  obtain ⟨⟨t325, t326⟩, A6, H⟩ := H
  dsimp only at H
  obtain rfl := Option.some.inj H
  go_enter Tryz.func84, Tryz.ntmps84
  go_wp2_with (first | ((with_reducible refine gate_dst (N := 1) rfl ?_); refine box_event ?hg (N := 1) ?hd (cs := #[.int .i64 a0_0, .slice A0_1 l0_1.length c0_1, .slice A0_2 l0_2.length c0_2, .slice A0_3 l0_3.length c0_3]) (t := 27) ?hr ?_; (case hd => rfl); (case hg => rfl); (case hr => (go_simp; done)); intro gb321 hg w7 hbox hb; replace HO0_2 := Aside0.mk (Kd.V_below (Kd.V_elderB (by exact HO0_2.out) gb321 (Nat.le_of_eq hg.symm)) hb); have BK321 := Aside0.mk (hbox); have GW321 := bza HB hg; have GE321 := bza HB hg; replace HB := bsa HB hb; clear hb hbox hg; obtain ⟨hcz8_0, hcz8_1, hcz8_2, hcz8_3, hfz8_0, hfz8_1, hfz8_2, hfz8_3⟩ := b4 BK321) | ((with_reducible refine gate_callee (f := 20) rfl ?_); refine gL 12 Tryz.func20 #[.agg #[.int .i64 a0_0, .slice A0_1 l0_1.length c0_1, .slice A0_2 l0_2.length c0_2, .slice A0_3 l0_3.length c0_3]] ?_; (with_reducible refine (poslist_List_Spans.calls k a0_0 _ _ l0_1 _ _ l0_2 _ _ l0_3 t322 _ ?side1 ?side2 ?side3 ?side4 ?side5 ?side6 A5.out).mono ?_); (case side1 => exact cx (Kd.C_below HR0_1.out HB.out)); (case side2 => exact HC0_1.out); (case side3 => exact cx (Kd.V_reads' HO0_2.out).2.2); (case side4 => exact (Kd.V_reads' HO0_2.out).2.1); (case side5 => exact cx (Kd.C_below HR0_3.out HB.out)); (case side6 => exact HC0_3.out); rintro e w9 ⟨v323, rfl, ho0, hb⟩; refine ⟨_, rfl, ?_⟩; replace HO0_2 := Aside0.mk (Kd.V_elder' (by exact HO0_2.out) (Kd.R_base ho0) hb); have HO324 := Aside0.mk (Kd.R_lower (Kd.R_newM (M := fun k_ => (w.heap.size ≤ k_)) ho0 (below_size (bh HB.out)) (fun k_ h_ => h_)) (below_size (bh HB.out))); replace BK321 := bba BK321 hb; replace HB := bsa HB hb; clear hb ho0; obtain ⟨Ao10, co10, eo10⟩ := Kd.R_slice HO324.out; subst eo10) | ((with_reducible refine gate_callee (f := 43) rfl ?_); refine gL 13 Tryz.func43 #[.slice Ao10 t322.length co10] ?_; (with_reducible refine (words_Of.calls k _ _ t322 t325 t326 _ ?side1 ?side2 A6.out).mono ?_); (case side1 => exact cx (Kd.R_reads' HO324.out).2.2); (case side2 => exact (Kd.R_reads' HO324.out).2.1); rintro e w11 ⟨v327, rfl, ho0, hb⟩; refine ⟨_, rfl, ?_⟩; replace HO0_2 := Aside0.mk (Kd.V_elder' (by exact HO0_2.out) (Kd.R_base ho0) hb); replace HO324 := rba HO324 hb; have HO328 := Aside0.mk (Kd.R_lower (Kd.R_newM (M := fun k_ => (w.heap.size ≤ k_)) ho0 (below_size (bh HB.out)) (fun k_ h_ => h_)) (below_size (bh HB.out))); replace BK321 := bba BK321 hb; replace HB := bsa HB hb; clear hb ho0))
  go_ret
  exact ⟨_, er, Kd.V_mono (Kd.R_V (by exact Kd.R_mono HO328.out (fun _ hk => hk.1))) (fun k_ hk => by exact (.inr (hk))), bh HB.out⟩
end Go.Proofs.YtjgmdjieandemaaGreat.Print
end
section
namespace Go.Proofs.YtjgmdjieandemaaGreat.Print
open Go.RowKit Go.Proofs.YtjgmdjieandemaaGreatW.PrintWords Go.Proofs.YtjgmdjieandemaaGreatW.PrintLast Go.Proofs.YtjgmdjieandemaaGreatW.PrintMore
attribute [local go_sem] max2_int min2_int max_two min_two max_three min_three max_four min_four   -- for this text's walks alone
set_option linter.unusedVariables false
set_option linter.unusedSimpArgs false
/-! ### poslist_List_together_fn56_fn57: function 55 -/
def poslist_List_together_fn56_fn57.j0 : Nat → Bool → Int → List (S64) → List Int → List Int → Int → List (S64) → List Int → List Int → Option (Int × (List (S64)) × List Int × List Int)
 | 0, _, _, _, _, _, _, _, _, _ => none
 | k + 1, x22, x330000, x330001, x330002, x330003, x331000, x331001, x331002, x331003 => if x22 = true then ((poslist_List_bits.f k x330000 x330001 x330002 x330003).bind fun t332 => ((poslist_List_bits.f k x331000 x331001 x331002 x331003).bind fun t335 => ((words_And.f k t332 t335).bind fun bt338 => ((words_Spans.f k bt338.1).bind fun bt342 => ((poslist_best.f k bt342.1).bind fun bt346 => (some (bt346.1, bt346.2.1, bt346.2.2.1, bt346.2.2.2))))))) else ((poslist_List_Spans.f k x330000 x330001 x330002 x330003).bind fun t356 => ((poslist_List_Spans.f k x331000 x331001 x331002 x331003).bind fun t359 => ((span_And.f k t356 t359).bind fun bt362 => ((poslist_best.f k bt362.1).bind fun bt366 => (some (bt366.1, bt366.2.1, bt366.2.2.1, bt366.2.2.2))))))
def poslist_List_together_fn56_fn57.f (k : Nat) (a0_0 : Int) (l0_1 : List (S64)) (l0_2 : List Int) (l0_3 : List Int) (a1_0 : Int) (l1_1 : List (S64)) (l1_2 : List Int) (l1_3 : List Int)   : Option (Int × (List (S64)) × List Int × List Int) := if a0_0 = 2 then (poslist_List_together_fn56_fn57.j0 k true a0_0 l0_1 l0_2 l0_3 a1_0 l1_1 l1_2 l1_3) else (poslist_List_together_fn56_fn57.j0 k (a1_0 == 2) a0_0 l0_1 l0_2 l0_3 a1_0 l1_1 l1_2 l1_3)
theorem poslist_List_together_fn56_fn57.j0_succ (k) (a0) (a1) (a2) (a3) (a4) (a5) (a6) (a7) (a8) : type_of% (@poslist_List_together_fn56_fn57.j0.eq_2 a0 a1 a2 a3 a4 a5 a6 a7 a8 k) := poslist_List_together_fn56_fn57.j0.eq_2 a0 a1 a2 a3 a4 a5 a6 a7 a8 k
def poslist_List_together_fn56_fn57.T2 : Bool × List (List Nat × List Nat) := (true, [([], []), ([], []), ([1], [1]), ([], []), ([3, 2], [3]), ([0, 2, 4, 4], [0, 2, 4]), ([5], [5]), ([6], [6]), ([6], [6]), ([7, 5, 0, 1, 2, 3, 4, 5, 6, 7], [7]), ([8, 9, 0, 1, 2, 3, 4, 5, 6, 7, 8, 9], [8])])
def poslist_List_together_fn56_fn57.B2 : List Nat := [0, 0, 2, 0, 14, 31, 63, 127, 127, 255, 1023]
theorem poslist_List_together_fn56_fn57.tab2 : rtab .any (opsOf Tryz.f55 2) = poslist_List_together_fn56_fn57.T2 := by kernel_rfl
theorem poslist_List_together_fn56_fn57.bits2 : waitsOk poslist_List_together_fn56_fn57.T2.2 poslist_List_together_fn56_fn57.B2 = true := by kernel_rfl
def poslist_List_together_fn56_fn57.T5 : Bool × List (List Nat × List Nat) := (true, [([], []), ([], []), ([1], [1]), ([], []), ([3, 2], [3]), ([0, 2, 4, 4], [0, 2, 4]), ([5], [5]), ([6], [6]), ([6], [6]), ([7, 5, 0, 1, 2, 3, 4, 5, 6, 7], [7]), ([8, 9, 0, 1, 2, 3, 4, 5, 6, 7, 8, 9], [8])])
def poslist_List_together_fn56_fn57.B5 : List Nat := [0, 0, 2, 0, 14, 31, 63, 127, 127, 255, 1023]
theorem poslist_List_together_fn56_fn57.tab5 : rtab .any (opsOf Tryz.f55 5) = poslist_List_together_fn56_fn57.T5 := by kernel_rfl
theorem poslist_List_together_fn56_fn57.bits5 : waitsOk poslist_List_together_fn56_fn57.T5.2 poslist_List_together_fn56_fn57.B5 = true := by kernel_rfl
set_option maxHeartbeats 8000000 in
set_option maxRecDepth 100000 in
theorem poslist_List_together_fn56_fn57.calls (k : Nat) (a0_0 : Int) (A0_1 : Option Addr) (c0_1 : Nat) (l0_1 : List (S64)) (A0_2 : Option Addr) (c0_2 : Nat) (l0_2 : List Int) (A0_3 : Option Addr) (c0_3 : Nat) (l0_3 : List Int) (a1_0 : Int) (A1_1 : Option Addr) (c1_1 : Nat) (l1_1 : List (S64)) (A1_2 : Option Addr) (c1_2 : Nat) (l1_2 : List Int) (A1_3 : Option Addr) (c1_3 : Nat) (l1_3 : List Int)   (r1 : Int) (r2 : List (S64)) (r3 : List Int) (r4 : List Int) (w : World) (hr0_1 : Kd.C k64 w A0_1 l0_1.length l0_1) (hc0_1 : l0_1.length ≤ c0_1) (hr0_2 : Kd.C (Kd.int .i64) w A0_2 l0_2.length l0_2) (hc0_2 : l0_2.length ≤ c0_2) (hr0_3 : Kd.C (Kd.int .i64) w A0_3 l0_3.length l0_3) (hc0_3 : l0_3.length ≤ c0_3) (hr1_1 : Kd.C k64 w A1_1 l1_1.length l1_1) (hc1_1 : l1_1.length ≤ c1_1) (hr1_2 : Kd.C (Kd.int .i64) w A1_2 l1_2.length l1_2) (hc1_2 : l1_2.length ≤ c1_2) (hr1_3 : Kd.C (Kd.int .i64) w A1_3 l1_3.length l1_3) (hc1_3 : l1_3.length ≤ c1_3) (h : poslist_List_together_fn56_fn57.f k a0_0 l0_1 l0_2 l0_3 a1_0 l1_1 l1_2 l1_3 = some (r1, r2, r3, r4)) :
  Calls Tryz.prog 55 #[.agg #[.int .i64 a0_0, .slice A0_1 l0_1.length c0_1, .slice A0_2 l0_2.length c0_2, .slice A0_3 l0_3.length c0_3], .agg #[.int .i64 a1_0, .slice A1_1 l1_1.length c1_1, .slice A1_2 l1_2.length c1_2, .slice A1_3 l1_3.length c1_3], .func (.func 56) #[] #[], .func (.func 57) #[] #[]] w fun e w' => ∃ v1_ v2_ v3_ : Value, e = .returned (.agg #[.int .i64 r1, v1_, v2_, v3_]) ∧ Kd.R k64 64 w' w.heap.size (fun _ => True) v1_ r2 ∧ Kd.R (Kd.int .i64) 3 w' w.heap.size (fun k_ => some k_ ≠ (v3_ : Value).ownBlock) v2_ r3 ∧ Kd.R (Kd.int .i64) 3 w' w.heap.size (fun k_ => some k_ ≠ (v2_ : Value).ownBlock) v3_ r4 ∧ Below w.heap.size w w' := by
 have hu27 := Tryz.underlying27
 have HR0_1 := Aside0.mk hr0_1
 have HC0_1 := Aside0.mk hc0_1
 clear hr0_1 hc0_1
 have HR0_2 := Aside0.mk hr0_2
 have HC0_2 := Aside0.mk hc0_2
 clear hr0_2 hc0_2
 have HR0_3 := Aside0.mk hr0_3
 have HC0_3 := Aside0.mk hc0_3
 clear hr0_3 hc0_3
 have HR1_1 := Aside0.mk hr1_1
 have HC1_1 := Aside0.mk hc1_1
 clear hr1_1 hc1_1
 have HR1_2 := Aside0.mk hr1_2
 have HC1_2 := Aside0.mk hc1_2
 clear hr1_2 hc1_2
 have HR1_3 := Aside0.mk hr1_3
 have HC1_3 := Aside0.mk hc1_3
 clear hr1_3 hc1_3
 have HB := Aside0.mk (Below.refl w.heap.size w)
 have H := h
 clear h
 unfold poslist_List_together_fn56_fn57.f at H
 have HC5 := Aside0.mk H
 clear H
 go_enter Tryz.func55, Tryz.ntmps55
 go_upto_region 1 with (first | ((with_reducible refine gate_dst (N := 4) rfl ?_); refine boxE HB 4 27 #[.int .i64 a0_0, .slice A0_1 l0_1.length c0_1, .slice A0_2 l0_2.length c0_2, .slice A0_3 l0_3.length c0_3] ?_; clear HB; intro gb329 w6 BK329 GW329 hg hb HB; have GE329 := GW329; clear hb hg) | ((with_reducible refine gate_dst (N := 5) rfl ?_); refine boxE HB 5 27 #[.int .i64 a1_0, .slice A1_1 l1_1.length c1_1, .slice A1_2 l1_2.length c1_2, .slice A1_3 l1_3.length c1_3] ?_; clear HB; intro gb330 w7 BK330 GW330 hg hb HB; have GE330 := GW330; have NB329_330 := bna BK329 hg; have NB330_329 := bma BK329 hg; replace BK329 := bba BK329 hb; clear hb hg) | ((with_reducible refine gate_dst (N := 8) rfl ?_); refine boxE HB 8 27 #[.int .i64 0, .slice none 0 0, .slice none 0 0, .slice none 0 0] ?_; clear HB; intro gb331 w8 BK331 GW331 hg hb HB; have GE331 := GW331; have NB329_331 := bna BK329 hg; have NB331_329 := bma BK329 hg; replace BK329 := bba BK329 hb; have NB330_331 := bna BK330 hg; have NB331_330 := bma BK330 hg; replace BK330 := bba BK330 hb; clear hb hg))
 (simp only [Act.put, List.setIfInBounds_toArray, List.set_cons_zero, List.set_cons_succ])
 go_cut [22] (fun v22 wc => ∃ (kq : Nat) (x22_4 : Bool), v22 = .bool x22_4 ∧ Aside0 (poslist_List_together_fn56_fn57.j0 kq x22_4 a0_0 l0_1 l0_2 l0_3 a1_0 l1_1 l1_2 l1_3 = some (r1, r2, r3, r4)) ∧ Aside0 (kq ≤ k) ∧ Aside0 (wc.heap[gb329]? = some (.cells #[.int .i64 a0_0, (.slice A0_1 l0_1.length c0_1), (.slice A0_2 l0_2.length c0_2), (.slice A0_3 l0_3.length c0_3)] 27 (0, 0))) ∧ Aside0 (wc.heap[gb330]? = some (.cells #[.int .i64 a1_0, (.slice A1_1 l1_1.length c1_1), (.slice A1_2 l1_2.length c1_2), (.slice A1_3 l1_3.length c1_3)] 27 (0, 0))) ∧ Aside0 (wc.heap[gb331]? = some (.cells #[.int .i64 0, (.slice none 0 0), (.slice none 0 0), (.slice none 0 0)] 27 (0, 0))) ∧ Aside0 (Below w.heap.size w wc))
 case first =>
  have H := HC5.out
  clear HC5
  replace H := ife H
  rcases H with ⟨-, c9b0, c9b1, H⟩ | ⟨c9, c9b0, c9b1, H⟩
  ·(skip)
   have H' := Aside0.mk H
   clear H
   have hnb10 := NB329_330.out
   have hnc10 := NB330_329.out
   have hnb11 := NB329_331.out
   have hnc11 := NB331_329.out
   obtain ⟨hcz12_0, hcz12_1, hcz12_2, hcz12_3, hfz12_0, hfz12_1, hfz12_2, hfz12_3⟩ := b4 BK329
   go_wp2
   go_meet
   case rel => exact ⟨_, (true), (by rfl), H', ⟨by omega⟩, ⟨bx BK329.out⟩, ⟨bx BK330.out⟩, ⟨bx BK331.out⟩, ⟨bh HB.out⟩⟩
  ·(skip)
   have H' := Aside0.mk H
   clear H
   have hnb13 := NB329_330.out
   have hnc13 := NB330_329.out
   have hnb14 := NB329_331.out
   have hnc14 := NB331_329.out
   obtain ⟨hcz15_0, hcz15_1, hcz15_2, hcz15_3, hfz15_0, hfz15_1, hfz15_2, hfz15_3⟩ := b4 BK329
   have hnb16 := NB330_331.out
   have hnc16 := NB331_330.out
   obtain ⟨hcz17_0, hcz17_1, hcz17_2, hcz17_3, hfz17_0, hfz17_1, hfz17_2, hfz17_3⟩ := b4 BK330
   go_wp2
   go_meet
   case rel => exact ⟨_, ((a1_0 == 2)), (by rfl), H', ⟨by omega⟩, ⟨bx BK329.out⟩, ⟨bx BK330.out⟩, ⟨bx BK331.out⟩, ⟨bh HB.out⟩⟩
 case rest =>
  clear HC5
  obtain ⟨kq, x22_4, rfl, HA, HJ4, BK329, BK330, BK331, HB⟩ := hcut
  cases kq with
  | zero => exact absurd HA.out (by simp [poslist_List_together_fn56_fn57.j0])
  | succ kj4 =>
   have H := HA.out
   clear HA
   simp only [poslist_List_together_fn56_fn57.j0] at H
   replace H := ifb H
   rcases H with ⟨rfl, H⟩ | ⟨rfl, H⟩
   ·replace H := bd H
    obtain ⟨t332, A19, H⟩ := H
    replace H := bd H
    obtain ⟨t335, A20, H⟩ := H
    replace H := bd H
    obtain ⟨⟨t338, t341⟩, A21, H⟩ := H
    dsimp only at H
    replace H := bd H
    obtain ⟨⟨t342, t343⟩, A22, H⟩ := H
    dsimp only at H
    replace H := bd H
    obtain ⟨⟨t346, t347, t350, t353⟩, A23, H⟩ := H
    dsimp only at H
    simp only [Option.some.injEq, Prod.mk.injEq] at H
    obtain ⟨rfl, rfl, rfl, rfl⟩ := H
    go_wp2
    replace BK329 := Aside0.mk (blk_drew BK329.out)
    replace BK330 := Aside0.mk (blk_drew BK330.out)
    replace BK331 := Aside0.mk (blk_drew BK331.out)
    replace HB := Aside0.mk (below_drew1 HB.out)
    refine start_ (n := 11) (S := fun w' => w'.cell? ⟨gb329, 0, none⟩ = some (.int .i64 a0_0) ∧ w'.cell? ⟨gb329, 1, none⟩ = some (.slice A0_1 l0_1.length c0_1) ∧ w'.cell? ⟨gb329, 2, none⟩ = some (.slice A0_2 l0_2.length c0_2) ∧ w'.cell? ⟨gb329, 3, none⟩ = some (.slice A0_3 l0_3.length c0_3) ∧ w'.cell? ⟨gb330, 0, none⟩ = some (.int .i64 a1_0) ∧ w'.cell? ⟨gb330, 1, none⟩ = some (.slice A1_1 l1_1.length c1_1) ∧ w'.cell? ⟨gb330, 2, none⟩ = some (.slice A1_2 l1_2.length c1_2) ∧ w'.cell? ⟨gb330, 3, none⟩ = some (.slice A1_3 l1_3.length c1_3)) (ds := []) #[false, false, false, false, false, false, false, false, false, false, false] (by kernel_rfl) rfl rfl ⟨(blk_cell BK329.out 0).trans rfl, (blk_cell BK329.out 1).trans rfl, (blk_cell BK329.out 2).trans rfl, (blk_cell BK329.out 3).trans rfl, (blk_cell BK330.out 0).trans rfl, (blk_cell BK330.out 1).trans rfl, (blk_cell BK330.out 2).trans rfl, (blk_cell BK330.out 3).trans rfl⟩ (fun hHeld => ?_); refine with_tabW poslist_List_together_fn56_fn57.tab2 poslist_List_together_fn56_fn57.bits2 (fun HT_ HW_ => ?_)
    generalize wc.drew = w24 at BK329 BK330 BK331 HB hHeld ⊢
    refine puA HT_ 0 24 (bv 11 1) ?_
    refine taA HT_ HW_ hHeld 1 25 (bv 11 3) ?_
    refine taA HT_ HW_ hHeld 3 27 (bv 11 11) ?_
    refine one_ (i := 2) (N := some 26) #[true, true, true, true, false, false, false, false, false, false, false] rfl rfl (one_of HT_.out (by kernel_rfl)) (by decide) (fun K hK => ?_)
    refine goes_ Tryz.func84 (by kernel_rfl) rfl #[.agg #[.int .i64 a0_0, .slice A0_1 l0_1.length c0_1, .slice A0_2 l0_2.length c0_2, .slice A0_3 l0_3.length c0_3]] (by rfl) rfl rfl (by (simp only [List.map_toArray, List.map_cons, List.map_nil]); rfl) ?_
    with_reducible refine (poslist_List_bits.calls kj4 a0_0 _ _ l0_1 (fun k_ => k_ < w.heap.size) _ _ l0_2 _ _ l0_3 t332 _ ?side1 ?side2 ?side3 ?side4 ?side5 A19.out).mono ?_
    (case side1 => exact cx (Kd.C_below HR0_1.out HB.out))
    (case side2 => exact HC0_1.out)
    (case side3 => exact Kd.V_mk HC0_2.out (Kd.F_below (Kd.C_F (Kd.heap_int .i64) HR0_2.out) (bh HB.out)))
    (case side4 => exact cx (Kd.C_below HR0_3.out HB.out))
    (case side5 => exact HC0_3.out)
    rintro e w25 ⟨v333, rfl, ho0, hb⟩
    refine ⟨_, rfl, ?_⟩
    have HO334 := Aside0.mk (Kd.V_lower (Kd.V_mono (ok' := fun k_ => k_ ≠ gb329 ∧ k_ ≠ gb330 ∧ k_ ≠ gb331) ho0 (fun k_ hk_ => ⟨Or.elim hk_ (fun hs_ => fun e_ => Nat.not_le.2 hs_ (by rw [e_]; exact GW329.out)) (fun hn_ => (Kd.freshB (g := gb329) (o := .cells #[.int .i64 a0_0, .slice A0_1 l0_1.length c0_1, .slice A0_2 l0_2.length c0_2, .slice A0_3 l0_3.length c0_3] 27 (0, 0)) (bx BK329.out) k_ hn_)), Or.elim hk_ (fun hs_ => fun e_ => Nat.not_le.2 hs_ (by rw [e_]; exact GW330.out)) (fun hn_ => (Kd.freshB (g := gb330) (o := .cells #[.int .i64 a1_0, .slice A1_1 l1_1.length c1_1, .slice A1_2 l1_2.length c1_2, .slice A1_3 l1_3.length c1_3] 27 (0, 0)) (bx BK330.out) k_ hn_)), Or.elim hk_ (fun hs_ => fun e_ => Nat.not_le.2 hs_ (by rw [e_]; exact GW331.out)) (fun hn_ => (Kd.freshB (g := gb331) (o := .cells #[.int .i64 0, .slice none 0 0, .slice none 0 0, .slice none 0 0] 27 (0, 0)) (bx BK331.out) k_ hn_))⟩)) (below_size (bh HB.out)))
    replace BK329 := bba BK329 hb
    replace BK330 := bba BK330 hb
    replace BK331 := bba BK331 hb
    replace HB := bsa HB hb
    clear hb ho0
    refine hK.out _ _ ⟨(blk_cell BK329.out 0).trans rfl, (blk_cell BK329.out 1).trans rfl, (blk_cell BK329.out 2).trans rfl, (blk_cell BK329.out 3).trans rfl, (blk_cell BK330.out 0).trans rfl, (blk_cell BK330.out 1).trans rfl, (blk_cell BK330.out 2).trans rfl, (blk_cell BK330.out 3).trans rfl⟩ (fun hHeld => ?_)
    clear hK K
    refine norm_ (a' := ?_) ?_ ?_
    rotate_left
    ·show Act.put _ (some 26) _ = _
     simp only [Act.put, List.setIfInBounds_toArray, List.set_cons_zero, List.set_cons_succ, i64_w, i32_w]
     rfl
    refine one_ (i := 4) (N := some 28) #[true, true, true, true, true, false, false, false, false, false, false] rfl rfl (one_of HT_.out (by kernel_rfl)) (by decide) (fun K hK => ?_)
    refine goes_ Tryz.func84 (by kernel_rfl) rfl #[.agg #[.int .i64 a1_0, .slice A1_1 l1_1.length c1_1, .slice A1_2 l1_2.length c1_2, .slice A1_3 l1_3.length c1_3]] (by rfl) rfl rfl (by (simp only [List.map_toArray, List.map_cons, List.map_nil]); rfl) ?_
    with_reducible refine (poslist_List_bits.calls kj4 a1_0 _ _ l1_1 (fun k_ => k_ < w.heap.size) _ _ l1_2 _ _ l1_3 t335 _ ?side1 ?side2 ?side3 ?side4 ?side5 A20.out).mono ?_
    (case side1 => exact cx (Kd.C_below HR1_1.out HB.out))
    (case side2 => exact HC1_1.out)
    (case side3 => exact Kd.V_mk HC1_2.out (Kd.F_below (Kd.C_F (Kd.heap_int .i64) HR1_2.out) (bh HB.out)))
    (case side4 => exact cx (Kd.C_below HR1_3.out HB.out))
    (case side5 => exact HC1_3.out)
    rintro e w26 ⟨v336, rfl, ho0, hb⟩
    refine ⟨_, rfl, ?_⟩
    replace HO334 := Aside0.mk (Kd.V_below (by exact HO334.out) hb)
    have HO337 := Aside0.mk (Kd.V_lower (Kd.V_mono (ok' := fun k_ => k_ ≠ gb329 ∧ k_ ≠ gb330 ∧ k_ ≠ gb331) ho0 (fun k_ hk_ => ⟨Or.elim hk_ (fun hs_ => fun e_ => Nat.not_le.2 hs_ (by rw [e_]; exact GW329.out)) (fun hn_ => (Kd.freshB (g := gb329) (o := .cells #[.int .i64 a0_0, .slice A0_1 l0_1.length c0_1, .slice A0_2 l0_2.length c0_2, .slice A0_3 l0_3.length c0_3] 27 (0, 0)) (bx BK329.out) k_ hn_)), Or.elim hk_ (fun hs_ => fun e_ => Nat.not_le.2 hs_ (by rw [e_]; exact GW330.out)) (fun hn_ => (Kd.freshB (g := gb330) (o := .cells #[.int .i64 a1_0, .slice A1_1 l1_1.length c1_1, .slice A1_2 l1_2.length c1_2, .slice A1_3 l1_3.length c1_3] 27 (0, 0)) (bx BK330.out) k_ hn_)), Or.elim hk_ (fun hs_ => fun e_ => Nat.not_le.2 hs_ (by rw [e_]; exact GW331.out)) (fun hn_ => (Kd.freshB (g := gb331) (o := .cells #[.int .i64 0, .slice none 0 0, .slice none 0 0, .slice none 0 0] 27 (0, 0)) (bx BK331.out) k_ hn_))⟩)) (below_size (bh HB.out)))
    replace BK329 := bba BK329 hb
    replace BK330 := bba BK330 hb
    replace BK331 := bba BK331 hb
    replace HB := bsa HB hb
    clear hb ho0
    obtain ⟨Ao27, co27, eo27⟩ := Kd.V_slice HO334.out
    (subst eo27)
    obtain ⟨Ao28, co28, eo28⟩ := Kd.V_slice HO337.out
    (subst eo28)
    refine hK.out _ _ ⟨(blk_cell BK329.out 0).trans rfl, (blk_cell BK329.out 1).trans rfl, (blk_cell BK329.out 2).trans rfl, (blk_cell BK329.out 3).trans rfl, (blk_cell BK330.out 0).trans rfl, (blk_cell BK330.out 1).trans rfl, (blk_cell BK330.out 2).trans rfl, (blk_cell BK330.out 3).trans rfl⟩ (fun hHeld => ?_)
    clear hK K
    refine norm_ (a' := ?_) ?_ ?_
    rotate_left
    ·show Act.put _ (some 28) _ = _
     simp only [Act.put, List.setIfInBounds_toArray, List.set_cons_zero, List.set_cons_succ, i64_w, i32_w]
     rfl
    refine one_ (i := 5) (N := some 29) #[true, true, true, true, true, true, false, false, false, false, false] rfl rfl (one_of HT_.out (by kernel_rfl)) (by decide) (fun K hK => ?_)
    (refine goesW_ Tryz.func56 (by kernel_rfl) rfl #[.slice Ao27 t332.length co27, .slice Ao28 t335.length co28] (by rfl) rfl rfl rfl (by (simp only [List.map_toArray, List.map_cons, List.map_nil]); rfl) ?_)
    with_reducible refine (words_And.calls kj4 _ _ t332 _ _ t335 t338 t341 _ ?side1 ?side2 ?side3 ?side4 A21.out).mono ?_
    (case side1 => exact cx (Kd.V_reads' HO334.out).2.2)
    (case side2 => exact (Kd.V_reads' HO334.out).2.1)
    (case side3 => exact cx (Kd.V_reads' HO337.out).2.2)
    (case side4 => exact (Kd.V_reads' HO337.out).2.1)
    rintro e w29 ⟨v339, rfl, ho0, hb⟩
    refine ⟨_, rfl, ?_⟩
    replace HO334 := Aside0.mk (Kd.V_below (by exact HO334.out) hb)
    replace HO337 := Aside0.mk (Kd.V_below (by exact HO337.out) hb)
    have HO340 := Aside0.mk (Kd.V_lower (Kd.V_mono (ok' := fun k_ => k_ ≠ gb329 ∧ k_ ≠ gb330 ∧ k_ ≠ gb331) ho0 (fun k_ hk_ => ⟨(Kd.freshB (g := gb329) (o := .cells #[.int .i64 a0_0, .slice A0_1 l0_1.length c0_1, .slice A0_2 l0_2.length c0_2, .slice A0_3 l0_3.length c0_3] 27 (0, 0)) (bx BK329.out) k_ hk_), (Kd.freshB (g := gb330) (o := .cells #[.int .i64 a1_0, .slice A1_1 l1_1.length c1_1, .slice A1_2 l1_2.length c1_2, .slice A1_3 l1_3.length c1_3] 27 (0, 0)) (bx BK330.out) k_ hk_), (Kd.freshB (g := gb331) (o := .cells #[.int .i64 0, .slice none 0 0, .slice none 0 0, .slice none 0 0] 27 (0, 0)) (bx BK331.out) k_ hk_)⟩)) (below_size (bh HB.out)))
    replace BK329 := bba BK329 hb
    replace BK330 := bba BK330 hb
    replace BK331 := bba BK331 hb
    replace HB := bsa HB hb
    clear hb ho0
    refine hK.out _ _ ⟨(blk_cell BK329.out 0).trans rfl, (blk_cell BK329.out 1).trans rfl, (blk_cell BK329.out 2).trans rfl, (blk_cell BK329.out 3).trans rfl, (blk_cell BK330.out 0).trans rfl, (blk_cell BK330.out 1).trans rfl, (blk_cell BK330.out 2).trans rfl, (blk_cell BK330.out 3).trans rfl⟩ (fun hHeld => ?_)
    clear hK K
    refine norm_ (a' := ?_) ?_ ?_
    rotate_left
    ·show Act.put _ (some 29) _ = _
     simp only [Act.put, List.setIfInBounds_toArray, List.set_cons_zero, List.set_cons_succ, i64_w, i32_w]
     rfl
    refine puA HT_ 6 23 (bv 11 127) ?_
    refine puA HT_ 7 30 (bv 11 255) ?_
    refine puA HT_ 8 31 (bv 11 511) ?_
    refine puA HT_ 9 9 (bv 11 1023) ?_
    refine puA HT_ 10 10 (bv 11 2047) ?_
    refine done_ (done_of HT_.out (by kernel_rfl)) ?_
    obtain ⟨Ao30, co30, eo30⟩ := Kd.V_slice HO340.out
    subst eo30
    go_wp2_with (first | ((with_reducible refine gate_callee (f := 53) rfl ?_); refine gL 34 Tryz.func53 #[.slice Ao30 t338.length co30] ?_; (with_reducible refine (words_Spans.calls kj4 _ _ t338 t342 t343 _ ?side1 ?side2 A22.out).mono ?_); (case side1 => exact cx (Kd.V_reads' HO340.out).2.2); (case side2 => exact (Kd.V_reads' HO340.out).2.1); rintro e w31 ⟨v344, rfl, ho0, hb⟩; refine ⟨_, rfl, ?_⟩; replace HO334 := Aside0.mk (Kd.V_elder' (by exact HO334.out) (Kd.R_base ho0) hb); replace HO337 := Aside0.mk (Kd.V_elder' (by exact HO337.out) (Kd.R_base ho0) hb); replace HO340 := Aside0.mk (Kd.V_elder' (by exact HO340.out) (Kd.R_base ho0) hb); have HO345 := Aside0.mk (Kd.R_lower ho0 (below_size (bh HB.out))); replace BK329 := bba BK329 hb; replace BK330 := bba BK330 hb; replace BK331 := bba BK331 hb; replace HB := bsa HB hb; clear hb ho0; obtain ⟨Ao32, co32, eo32⟩ := Kd.R_slice HO345.out; subst eo32) | ((with_reducible refine gate_callee (f := 64) rfl ?_); refine gL 38 Tryz.func64 #[.slice Ao32 t342.length co32] ?_; (with_reducible refine (poslist_best.calls kj4 _ _ t342 t346 t347 t350 t353 _ ?side1 ?side2 A23.out).mono ?_); (case side1 => exact cx (Kd.R_reads' HO345.out).2.2); (case side2 => exact (Kd.R_reads' HO345.out).2.1); rintro e w33 ⟨v348, v351, v354, rfl, ho0, ho1, ho2, hb⟩; refine ⟨_, rfl, ?_⟩; replace HO334 := Aside0.mk (Kd.V_mono (Kd.V_told (Kd.V_told (Kd.V_told (Kd.V_old (by exact HO334.out) hb) (Kd.R_base ho0)) (Kd.R_base ho1)) (Kd.R_base ho2)) (fun _ h_ => h_.1)); replace HO337 := Aside0.mk (Kd.V_mono (Kd.V_told (Kd.V_told (Kd.V_told (Kd.V_old (by exact HO337.out) hb) (Kd.R_base ho0)) (Kd.R_base ho1)) (Kd.R_base ho2)) (fun _ h_ => h_.1)); replace HO340 := Aside0.mk (Kd.V_mono (Kd.V_told (Kd.V_told (Kd.V_told (Kd.V_old (by exact HO340.out) hb) (Kd.R_base ho0)) (Kd.R_base ho1)) (Kd.R_base ho2)) (fun _ h_ => h_.1)); have HO349 := Aside0.mk (Kd.R_lower (Kd.R_new' ho0 (Kd.R_lt (rx HO345.out))) (below_size (bh HB.out))); replace HO345 := Aside0.mk (Kd.R_elder' (rx HO345.out) (Kd.R_base ho0) hb); have HO352 := Aside0.mk (Kd.R_lower ho1 (below_size (bh HB.out))); have HO355 := Aside0.mk (Kd.R_lower ho2 (below_size (bh HB.out))); replace BK329 := bba BK329 hb; replace BK330 := bba BK330 hb; replace BK331 := bba BK331 hb; replace HB := bsa HB hb; clear hb ho0 ho1 ho2; have hnb34 := NB331_329.out; have hnc34 := NB329_331.out; have hnb35 := NB331_330.out; have hnc35 := NB330_331.out; obtain ⟨hcz36_0, hcz36_1, hcz36_2, hcz36_3, hfz36_0, hfz36_1, hfz36_2, hfz36_3⟩ := b4 BK331; obtain ⟨Ao37, co37, eo37⟩ := Kd.R_slice HO349.out; subst eo37; obtain ⟨Ao38, co38, eo38⟩ := Kd.R_slice HO352.out; subst eo38; obtain ⟨Ao39, co39, eo39⟩ := Kd.R_slice HO355.out; subst eo39) | ((with_reducible refine gate_store (t := 27) (p := 8) rfl ?_); refine stE 27 8 ((((w33.setCell ⟨gb331, 0, none⟩ (.int .i64 t346)).setCell ⟨gb331, 1, none⟩ (.slice Ao37 t347.length co37)).setCell ⟨gb331, 2, none⟩ (.slice Ao38 t350.length co38)).setCell ⟨gb331, 3, none⟩ (.slice Ao39 t353.length co39)) ?_; intro w40 hw; have n0_ : Aside0 (Kd.V (Kd.int .i64) 3 w40 w.heap.size (fun k_ => some k_ ≠ (.slice Ao32 t342.length co32 : Value).ownBlock ∧ some k_ ≠ (.slice Ao37 t347.length co37 : Value).ownBlock ∧ some k_ ≠ (.slice Ao38 t350.length co38 : Value).ownBlock ∧ some k_ ≠ (.slice Ao39 t353.length co39 : Value).ownBlock ∧ k_ ≠ gb329 ∧ k_ ≠ gb330 ∧ k_ ≠ gb331) (.slice Ao27 t332.length co27) t332) := ⟨(by rw [hw]; exact (by exact Kd.V_mono (Kd.V_far (p := ⟨gb331, 3, none⟩) (Kd.V_far (p := ⟨gb331, 2, none⟩) (Kd.V_far (p := ⟨gb331, 1, none⟩) (Kd.V_far (p := ⟨gb331, 0, none⟩) (Kd.V_mono HO334.out (fun k_ hk => (⟨hk, hk.1.1.1.1.2.2⟩ : _ ∧ k_ ≠ gb331))) (fun _ hk => hk.2) (.int .i64 t346)) (fun _ hk => hk.2) (.slice Ao37 t347.length co37)) (fun _ hk => hk.2) (.slice Ao38 t350.length co38)) (fun _ hk => hk.2) (.slice Ao39 t353.length co39)) (fun _ hk => ⟨hk.1.1.1.1.2, ⟨hk.1.1.1.2, ⟨hk.1.1.2, ⟨hk.1.2, ⟨hk.1.1.1.1.1.1, ⟨hk.1.1.1.1.1.2.1, hk.1.1.1.1.1.2.2⟩⟩⟩⟩⟩⟩)))⟩; have n1_ : Aside0 (Kd.V (Kd.int .i64) 3 w40 w.heap.size (fun k_ => some k_ ≠ (.slice Ao32 t342.length co32 : Value).ownBlock ∧ some k_ ≠ (.slice Ao37 t347.length co37 : Value).ownBlock ∧ some k_ ≠ (.slice Ao38 t350.length co38 : Value).ownBlock ∧ some k_ ≠ (.slice Ao39 t353.length co39 : Value).ownBlock ∧ k_ ≠ gb329 ∧ k_ ≠ gb330 ∧ k_ ≠ gb331) (.slice Ao28 t335.length co28) t335) := ⟨(by rw [hw]; exact (by exact Kd.V_mono (Kd.V_far (p := ⟨gb331, 3, none⟩) (Kd.V_far (p := ⟨gb331, 2, none⟩) (Kd.V_far (p := ⟨gb331, 1, none⟩) (Kd.V_far (p := ⟨gb331, 0, none⟩) (Kd.V_mono HO337.out (fun k_ hk => (⟨hk, hk.1.1.1.1.2.2⟩ : _ ∧ k_ ≠ gb331))) (fun _ hk => hk.2) (.int .i64 t346)) (fun _ hk => hk.2) (.slice Ao37 t347.length co37)) (fun _ hk => hk.2) (.slice Ao38 t350.length co38)) (fun _ hk => hk.2) (.slice Ao39 t353.length co39)) (fun _ hk => ⟨hk.1.1.1.1.2, ⟨hk.1.1.1.2, ⟨hk.1.1.2, ⟨hk.1.2, ⟨hk.1.1.1.1.1.1, ⟨hk.1.1.1.1.1.2.1, hk.1.1.1.1.1.2.2⟩⟩⟩⟩⟩⟩)))⟩; have n2_ : Aside0 (Kd.V (Kd.int .i64) 3 w40 w.heap.size (fun k_ => some k_ ≠ (.slice Ao32 t342.length co32 : Value).ownBlock ∧ some k_ ≠ (.slice Ao37 t347.length co37 : Value).ownBlock ∧ some k_ ≠ (.slice Ao38 t350.length co38 : Value).ownBlock ∧ some k_ ≠ (.slice Ao39 t353.length co39 : Value).ownBlock ∧ k_ ≠ gb329 ∧ k_ ≠ gb330 ∧ k_ ≠ gb331) (.slice Ao30 t338.length co30) t338) := ⟨(by rw [hw]; exact (by exact Kd.V_mono (Kd.V_far (p := ⟨gb331, 3, none⟩) (Kd.V_far (p := ⟨gb331, 2, none⟩) (Kd.V_far (p := ⟨gb331, 1, none⟩) (Kd.V_far (p := ⟨gb331, 0, none⟩) (Kd.V_mono HO340.out (fun k_ hk => (⟨hk, hk.1.1.1.1.2.2⟩ : _ ∧ k_ ≠ gb331))) (fun _ hk => hk.2) (.int .i64 t346)) (fun _ hk => hk.2) (.slice Ao37 t347.length co37)) (fun _ hk => hk.2) (.slice Ao38 t350.length co38)) (fun _ hk => hk.2) (.slice Ao39 t353.length co39)) (fun _ hk => ⟨hk.1.1.1.1.2, ⟨hk.1.1.1.2, ⟨hk.1.1.2, ⟨hk.1.2, ⟨hk.1.1.1.1.1.1, ⟨hk.1.1.1.1.1.2.1, hk.1.1.1.1.1.2.2⟩⟩⟩⟩⟩⟩)))⟩; have n3_ := rsm (fun k_ => some k_ ≠ (.slice Ao37 t347.length co37 : Value).ownBlock) HO345 hw (fun _ hk => hk.2); have n4_ := rsm (fun k_ => some k_ ≠ (.slice Ao32 t342.length co32 : Value).ownBlock) HO349 hw (fun _ hk => hk.2); have n5_ := rst HO352 hw; have n6_ := rst HO355 hw; have n7_ : Aside0 (w40.heap[gb329]? = some (.cells #[.int .i64 a0_0, .slice A0_1 l0_1.length c0_1, .slice A0_2 l0_2.length c0_2, .slice A0_3 l0_3.length c0_3] 27 (0, 0))) := ⟨(by rw [hw]; exact (bx BK329.out))⟩; have n8_ : Aside0 (w40.heap[gb330]? = some (.cells #[.int .i64 a1_0, .slice A1_1 l1_1.length c1_1, .slice A1_2 l1_2.length c1_2, .slice A1_3 l1_3.length c1_3] 27 (0, 0))) := ⟨(by rw [hw]; exact (bx BK330.out))⟩; have n9_ := sps #[.int .i64 t346, .slice Ao37 t347.length co37, .slice Ao38 t350.length co38, .slice Ao39 t353.length co39] BK331 hw (.p (.p (.p (.p .nil)))); have n10_ := bhw HB hw; clear hw HO334 HO337 HO340 HO345 HO349 HO352 HO355 BK329 BK330 BK331 HB; have HO334 := n0_; have HO337 := n1_; have HO340 := n2_; have HO345 := n3_; have HO349 := n4_; have HO352 := n5_; have HO355 := n6_; have BK329 := n7_; have BK330 := n8_; have BK331 := n9_; have HB := n10_; clear n0_ n1_ n2_ n3_ n4_ n5_ n6_ n7_ n8_ n9_ n10_))
    refine bodyPost_ret (results_cell_row rfl _ _ gb331 27 #[.int .i64 t346, .slice Ao37 t347.length co37, .slice Ao38 t350.length co38, .slice Ao39 t353.length co39] (0, 0) _ rfl (bx BK331.out) Tryz.underlying27 rfl (by kernel_rfl)) rfl ?_
    exact ⟨_, _, _, er, by exact Kd.R_mono HO349.out (fun _ hk => trivial), by exact HO352.out, by exact HO355.out, bh HB.out⟩
   ·replace H := bd H
    obtain ⟨t356, A41, H⟩ := H
    replace H := bd H
    obtain ⟨t359, A42, H⟩ := H
    replace H := bd H
    obtain ⟨⟨t362, t363⟩, A43, H⟩ := H
    dsimp only at H
    replace H := bd H
    obtain ⟨⟨t366, t367, t370, t373⟩, A44, H⟩ := H
    dsimp only at H
    simp only [Option.some.injEq, Prod.mk.injEq] at H
    obtain ⟨rfl, rfl, rfl, rfl⟩ := H
    go_wp2
    replace BK329 := Aside0.mk (blk_drew BK329.out)
    replace BK330 := Aside0.mk (blk_drew BK330.out)
    replace BK331 := Aside0.mk (blk_drew BK331.out)
    replace HB := Aside0.mk (below_drew1 HB.out)
    refine start_ (n := 11) (S := fun w' => w'.cell? ⟨gb329, 0, none⟩ = some (.int .i64 a0_0) ∧ w'.cell? ⟨gb329, 1, none⟩ = some (.slice A0_1 l0_1.length c0_1) ∧ w'.cell? ⟨gb329, 2, none⟩ = some (.slice A0_2 l0_2.length c0_2) ∧ w'.cell? ⟨gb329, 3, none⟩ = some (.slice A0_3 l0_3.length c0_3) ∧ w'.cell? ⟨gb330, 0, none⟩ = some (.int .i64 a1_0) ∧ w'.cell? ⟨gb330, 1, none⟩ = some (.slice A1_1 l1_1.length c1_1) ∧ w'.cell? ⟨gb330, 2, none⟩ = some (.slice A1_2 l1_2.length c1_2) ∧ w'.cell? ⟨gb330, 3, none⟩ = some (.slice A1_3 l1_3.length c1_3)) (ds := []) #[false, false, false, false, false, false, false, false, false, false, false] (by kernel_rfl) rfl rfl ⟨(blk_cell BK329.out 0).trans rfl, (blk_cell BK329.out 1).trans rfl, (blk_cell BK329.out 2).trans rfl, (blk_cell BK329.out 3).trans rfl, (blk_cell BK330.out 0).trans rfl, (blk_cell BK330.out 1).trans rfl, (blk_cell BK330.out 2).trans rfl, (blk_cell BK330.out 3).trans rfl⟩ (fun hHeld => ?_); refine with_tabW poslist_List_together_fn56_fn57.tab5 poslist_List_together_fn56_fn57.bits5 (fun HT_ HW_ => ?_)
    generalize wc.drew = w45 at BK329 BK330 BK331 HB hHeld ⊢
    refine puA HT_ 0 40 (bv 11 1) ?_
    refine taA HT_ HW_ hHeld 1 41 (bv 11 3) ?_
    refine taA HT_ HW_ hHeld 3 43 (bv 11 11) ?_
    refine one_ (i := 2) (N := some 42) #[true, true, true, true, false, false, false, false, false, false, false] rfl rfl (one_of HT_.out (by kernel_rfl)) (by decide) (fun K hK => ?_)
    refine goes_ Tryz.func20 (by kernel_rfl) rfl #[.agg #[.int .i64 a0_0, .slice A0_1 l0_1.length c0_1, .slice A0_2 l0_2.length c0_2, .slice A0_3 l0_3.length c0_3]] (by rfl) rfl rfl (by (simp only [List.map_toArray, List.map_cons, List.map_nil]); rfl) ?_
    with_reducible refine (poslist_List_Spans.calls kj4 a0_0 _ _ l0_1 _ _ l0_2 _ _ l0_3 t356 _ ?side1 ?side2 ?side3 ?side4 ?side5 ?side6 A41.out).mono ?_
    (case side1 => exact cx (Kd.C_below HR0_1.out HB.out))
    (case side2 => exact HC0_1.out)
    (case side3 => exact cx (Kd.C_below HR0_2.out HB.out))
    (case side4 => exact HC0_2.out)
    (case side5 => exact cx (Kd.C_below HR0_3.out HB.out))
    (case side6 => exact HC0_3.out)
    rintro e w46 ⟨v357, rfl, ho0, hb⟩
    refine ⟨_, rfl, ?_⟩
    have HO358 := Aside0.mk (Kd.R_lower ho0 (below_size (bh HB.out)))
    replace BK329 := bba BK329 hb
    replace BK330 := bba BK330 hb
    replace BK331 := bba BK331 hb
    replace HB := bsa HB hb
    clear hb ho0
    refine hK.out _ _ ⟨(blk_cell BK329.out 0).trans rfl, (blk_cell BK329.out 1).trans rfl, (blk_cell BK329.out 2).trans rfl, (blk_cell BK329.out 3).trans rfl, (blk_cell BK330.out 0).trans rfl, (blk_cell BK330.out 1).trans rfl, (blk_cell BK330.out 2).trans rfl, (blk_cell BK330.out 3).trans rfl⟩ (fun hHeld => ?_)
    clear hK K
    refine norm_ (a' := ?_) ?_ ?_
    rotate_left
    ·show Act.put _ (some 42) _ = _
     simp only [Act.put, List.setIfInBounds_toArray, List.set_cons_zero, List.set_cons_succ, i64_w, i32_w]
     rfl
    refine one_ (i := 4) (N := some 44) #[true, true, true, true, true, false, false, false, false, false, false] rfl rfl (one_of HT_.out (by kernel_rfl)) (by decide) (fun K hK => ?_)
    refine goes_ Tryz.func20 (by kernel_rfl) rfl #[.agg #[.int .i64 a1_0, .slice A1_1 l1_1.length c1_1, .slice A1_2 l1_2.length c1_2, .slice A1_3 l1_3.length c1_3]] (by rfl) rfl rfl (by (simp only [List.map_toArray, List.map_cons, List.map_nil]); rfl) ?_
    with_reducible refine (poslist_List_Spans.calls kj4 a1_0 _ _ l1_1 _ _ l1_2 _ _ l1_3 t359 _ ?side1 ?side2 ?side3 ?side4 ?side5 ?side6 A42.out).mono ?_
    (case side1 => exact cx (Kd.C_below HR1_1.out HB.out))
    (case side2 => exact HC1_1.out)
    (case side3 => exact cx (Kd.C_below HR1_2.out HB.out))
    (case side4 => exact HC1_2.out)
    (case side5 => exact cx (Kd.C_below HR1_3.out HB.out))
    (case side6 => exact HC1_3.out)
    rintro e w47 ⟨v360, rfl, ho0, hb⟩
    refine ⟨_, rfl, ?_⟩
    have HO361 := Aside0.mk (Kd.R_lower (Kd.R_new' ho0 (Kd.R_lt (rx HO358.out))) (below_size (bh HB.out)))
    replace HO358 := Aside0.mk (Kd.R_elder' (rx HO358.out) (Kd.R_base ho0) hb)
    replace BK329 := bba BK329 hb
    replace BK330 := bba BK330 hb
    replace BK331 := bba BK331 hb
    replace HB := bsa HB hb
    clear hb ho0
    obtain ⟨Ao48, co48, eo48⟩ := Kd.R_slice HO358.out
    (subst eo48)
    obtain ⟨Ao49, co49, eo49⟩ := Kd.R_slice HO361.out
    (subst eo49)
    refine hK.out _ _ ⟨(blk_cell BK329.out 0).trans rfl, (blk_cell BK329.out 1).trans rfl, (blk_cell BK329.out 2).trans rfl, (blk_cell BK329.out 3).trans rfl, (blk_cell BK330.out 0).trans rfl, (blk_cell BK330.out 1).trans rfl, (blk_cell BK330.out 2).trans rfl, (blk_cell BK330.out 3).trans rfl⟩ (fun hHeld => ?_)
    clear hK K
    refine norm_ (a' := ?_) ?_ ?_
    rotate_left
    ·show Act.put _ (some 44) _ = _
     simp only [Act.put, List.setIfInBounds_toArray, List.set_cons_zero, List.set_cons_succ, i64_w, i32_w]
     rfl
    refine one_ (i := 5) (N := some 45) #[true, true, true, true, true, true, false, false, false, false, false] rfl rfl (one_of HT_.out (by kernel_rfl)) (by decide) (fun K hK => ?_)
    (refine goesW_ Tryz.func57 (by kernel_rfl) rfl #[.slice Ao48 t356.length co48, .slice Ao49 t359.length co49] (by rfl) rfl rfl rfl (by (simp only [List.map_toArray, List.map_cons, List.map_nil]); rfl) ?_)
    with_reducible refine (span_And.calls kj4 _ _ t356 _ _ t359 t362 t363 _ ?side1 ?side2 ?side3 ?side4 A43.out).mono ?_
    (case side1 => exact cx (Kd.R_reads' HO358.out).2.2)
    (case side2 => exact (Kd.R_reads' HO358.out).2.1)
    (case side3 => exact cx (Kd.R_reads' HO361.out).2.2)
    (case side4 => exact (Kd.R_reads' HO361.out).2.1)
    rintro e w50 ⟨v364, rfl, ho0, hb⟩
    refine ⟨_, rfl, ?_⟩
    have HO365 := Aside0.mk (Kd.R_lower (Kd.R_new' (Kd.R_new' ho0 (Kd.R_lt (rx HO358.out))) (Kd.R_lt (rx HO361.out))) (below_size (bh HB.out)))
    replace HO358 := Aside0.mk (Kd.R_elder' (rx HO358.out) (Kd.R_base ho0) hb)
    replace HO361 := Aside0.mk (Kd.R_elder' (rx HO361.out) (Kd.R_base ho0) hb)
    replace BK329 := bba BK329 hb
    replace BK330 := bba BK330 hb
    replace BK331 := bba BK331 hb
    replace HB := bsa HB hb
    clear hb ho0
    refine hK.out _ _ ⟨(blk_cell BK329.out 0).trans rfl, (blk_cell BK329.out 1).trans rfl, (blk_cell BK329.out 2).trans rfl, (blk_cell BK329.out 3).trans rfl, (blk_cell BK330.out 0).trans rfl, (blk_cell BK330.out 1).trans rfl, (blk_cell BK330.out 2).trans rfl, (blk_cell BK330.out 3).trans rfl⟩ (fun hHeld => ?_)
    clear hK K
    refine norm_ (a' := ?_) ?_ ?_
    rotate_left
    ·show Act.put _ (some 45) _ = _
     simp only [Act.put, List.setIfInBounds_toArray, List.set_cons_zero, List.set_cons_succ, i64_w, i32_w]
     rfl
    refine puA HT_ 6 39 (bv 11 127) ?_
    refine puA HT_ 7 46 (bv 11 255) ?_
    refine puA HT_ 8 47 (bv 11 511) ?_
    refine puA HT_ 9 13 (bv 11 1023) ?_
    refine puA HT_ 10 14 (bv 11 2047) ?_
    refine done_ (done_of HT_.out (by kernel_rfl)) ?_
    obtain ⟨Ao51, co51, eo51⟩ := Kd.R_slice HO365.out
    subst eo51
    go_wp2_with (first | ((with_reducible refine gate_callee (f := 64) rfl ?_); refine gL 49 Tryz.func64 #[.slice Ao51 t362.length co51] ?_; (with_reducible refine (poslist_best.calls kj4 _ _ t362 t366 t367 t370 t373 _ ?side1 ?side2 A44.out).mono ?_); (case side1 => exact cx (Kd.R_reads' HO365.out).2.2); (case side2 => exact (Kd.R_reads' HO365.out).2.1); rintro e w52 ⟨v368, v371, v374, rfl, ho0, ho1, ho2, hb⟩; refine ⟨_, rfl, ?_⟩; have HO369 := Aside0.mk (Kd.R_lower (Kd.R_new' (Kd.R_new' (Kd.R_new' ho0 (Kd.R_lt (rx HO358.out))) (Kd.R_lt (rx HO361.out))) (Kd.R_lt (rx HO365.out))) (below_size (bh HB.out))); replace HO358 := Aside0.mk (Kd.R_elder' (rx HO358.out) (Kd.R_base ho0) hb); replace HO361 := Aside0.mk (Kd.R_elder' (rx HO361.out) (Kd.R_base ho0) hb); replace HO365 := Aside0.mk (Kd.R_elder' (rx HO365.out) (Kd.R_base ho0) hb); have HO372 := Aside0.mk (Kd.R_lower ho1 (below_size (bh HB.out))); have HO375 := Aside0.mk (Kd.R_lower ho2 (below_size (bh HB.out))); replace BK329 := bba BK329 hb; replace BK330 := bba BK330 hb; replace BK331 := bba BK331 hb; replace HB := bsa HB hb; clear hb ho0 ho1 ho2; have hnb53 := NB331_329.out; have hnc53 := NB329_331.out; have hnb54 := NB331_330.out; have hnc54 := NB330_331.out; obtain ⟨hcz55_0, hcz55_1, hcz55_2, hcz55_3, hfz55_0, hfz55_1, hfz55_2, hfz55_3⟩ := b4 BK331; obtain ⟨Ao56, co56, eo56⟩ := Kd.R_slice HO369.out; subst eo56; obtain ⟨Ao57, co57, eo57⟩ := Kd.R_slice HO372.out; subst eo57; obtain ⟨Ao58, co58, eo58⟩ := Kd.R_slice HO375.out; subst eo58) | ((with_reducible refine gate_store (t := 27) (p := 8) rfl ?_); refine stE 27 8 ((((w52.setCell ⟨gb331, 0, none⟩ (.int .i64 t366)).setCell ⟨gb331, 1, none⟩ (.slice Ao56 t367.length co56)).setCell ⟨gb331, 2, none⟩ (.slice Ao57 t370.length co57)).setCell ⟨gb331, 3, none⟩ (.slice Ao58 t373.length co58)) ?_; intro w59 hw; have n0_ := rsm (fun k_ => some k_ ≠ (.slice Ao49 t359.length co49 : Value).ownBlock ∧ some k_ ≠ (.slice Ao51 t362.length co51 : Value).ownBlock ∧ some k_ ≠ (.slice Ao56 t367.length co56 : Value).ownBlock) HO358 hw (fun _ hk => ⟨hk.1.1.2, ⟨hk.1.2, hk.2⟩⟩); have n1_ := rsm (fun k_ => some k_ ≠ (.slice Ao48 t356.length co48 : Value).ownBlock ∧ some k_ ≠ (.slice Ao51 t362.length co51 : Value).ownBlock ∧ some k_ ≠ (.slice Ao56 t367.length co56 : Value).ownBlock) HO361 hw (fun _ hk => ⟨hk.1.1.2, ⟨hk.1.2, hk.2⟩⟩); have n2_ := rsm (fun k_ => some k_ ≠ (.slice Ao48 t356.length co48 : Value).ownBlock ∧ some k_ ≠ (.slice Ao49 t359.length co49 : Value).ownBlock ∧ some k_ ≠ (.slice Ao56 t367.length co56 : Value).ownBlock) HO365 hw (fun _ hk => ⟨hk.1.1.2, ⟨hk.1.2, hk.2⟩⟩); have n3_ := rsm (fun k_ => some k_ ≠ (.slice Ao48 t356.length co48 : Value).ownBlock ∧ some k_ ≠ (.slice Ao49 t359.length co49 : Value).ownBlock ∧ some k_ ≠ (.slice Ao51 t362.length co51 : Value).ownBlock) HO369 hw (fun _ hk => ⟨hk.1.1.2, ⟨hk.1.2, hk.2⟩⟩); have n4_ := rst HO372 hw; have n5_ := rst HO375 hw; have n6_ : Aside0 (w59.heap[gb329]? = some (.cells #[.int .i64 a0_0, .slice A0_1 l0_1.length c0_1, .slice A0_2 l0_2.length c0_2, .slice A0_3 l0_3.length c0_3] 27 (0, 0))) := ⟨(by rw [hw]; exact (bx BK329.out))⟩; have n7_ : Aside0 (w59.heap[gb330]? = some (.cells #[.int .i64 a1_0, .slice A1_1 l1_1.length c1_1, .slice A1_2 l1_2.length c1_2, .slice A1_3 l1_3.length c1_3] 27 (0, 0))) := ⟨(by rw [hw]; exact (bx BK330.out))⟩; have n8_ := sps #[.int .i64 t366, .slice Ao56 t367.length co56, .slice Ao57 t370.length co57, .slice Ao58 t373.length co58] BK331 hw (.p (.p (.p (.p .nil)))); have n9_ := bhw HB hw; clear hw HO358 HO361 HO365 HO369 HO372 HO375 BK329 BK330 BK331 HB; have HO358 := n0_; have HO361 := n1_; have HO365 := n2_; have HO369 := n3_; have HO372 := n4_; have HO375 := n5_; have BK329 := n6_; have BK330 := n7_; have BK331 := n8_; have HB := n9_; clear n0_ n1_ n2_ n3_ n4_ n5_ n6_ n7_ n8_ n9_))
    refine bodyPost_ret (results_cell_row rfl _ _ gb331 27 #[.int .i64 t366, .slice Ao56 t367.length co56, .slice Ao57 t370.length co57, .slice Ao58 t373.length co58] (0, 0) _ rfl (bx BK331.out) Tryz.underlying27 rfl (by kernel_rfl)) rfl ?_
    exact ⟨_, _, _, er, by exact Kd.R_mono HO369.out (fun _ hk => trivial), by exact HO372.out, by exact HO375.out, bh HB.out⟩
/-! ### poslist_List_And: function 22 (a contract of the session's own) -/
def poslist_List_And.f (k : Nat) (a0_0 : Int) (l0_1 : List (S64)) (l0_2 : List Int) (l0_3 : List Int) (a1_0 : Int) (l1_1 : List (S64)) (l1_2 : List Int) (l1_3 : List Int) : Option (Int × (List (S64)) × List Int × List Int) := if a0_0 = 3 then poslist_List_kept.f (fun x => poslist_List_Has.f k a1_0 l1_1 l1_2 l1_3 x) k a0_0 l0_1 l0_2 l0_3 else if a1_0 = 3 then poslist_List_kept.f (fun x => poslist_List_Has.f k a0_0 l0_1 l0_2 l0_3 x) k a1_0 l1_1 l1_2 l1_3 else poslist_List_together_fn56_fn57.f k a0_0 l0_1 l0_2 l0_3 a1_0 l1_1 l1_2 l1_3
set_option maxHeartbeats 8000000 in
set_option maxRecDepth 100000 in
theorem poslist_List_And.calls (k : Nat) (a0_0 : Int) (A0_1 : Option Addr) (c0_1 : Nat) (l0_1 : List (S64)) (A0_2 : Option Addr) (c0_2 : Nat) (l0_2 : List Int) (A0_3 : Option Addr) (c0_3 : Nat) (l0_3 : List Int) (a1_0 : Int) (A1_1 : Option Addr) (c1_1 : Nat) (l1_1 : List (S64)) (A1_2 : Option Addr) (c1_2 : Nat) (l1_2 : List Int) (A1_3 : Option Addr) (c1_3 : Nat) (l1_3 : List Int) (r1 : Int) (r2 : List (S64)) (r3 : List Int) (r4 : List Int) (w : World) (hr0_1 : Kd.C k64 w A0_1 l0_1.length l0_1) (hc0_1 : l0_1.length ≤ c0_1) (hr0_2 : Kd.C (Kd.int .i64) w A0_2 l0_2.length l0_2) (hc0_2 : l0_2.length ≤ c0_2) (hr0_3 : Kd.C (Kd.int .i64) w A0_3 l0_3.length l0_3) (hc0_3 : l0_3.length ≤ c0_3) (hr1_1 : Kd.C k64 w A1_1 l1_1.length l1_1) (hc1_1 : l1_1.length ≤ c1_1) (hr1_2 : Kd.C (Kd.int .i64) w A1_2 l1_2.length l1_2) (hc1_2 : l1_2.length ≤ c1_2) (hr1_3 : Kd.C (Kd.int .i64) w A1_3 l1_3.length l1_3) (hc1_3 : l1_3.length ≤ c1_3) (h : poslist_List_And.f k a0_0 l0_1 l0_2 l0_3 a1_0 l1_1 l1_2 l1_3 = some (r1, r2, r3, r4)) :
    Calls Tryz.prog 22 #[.agg #[.int .i64 a0_0, .slice A0_1 l0_1.length c0_1, .slice A0_2 l0_2.length c0_2, .slice A0_3 l0_3.length c0_3], .agg #[.int .i64 a1_0, .slice A1_1 l1_1.length c1_1, .slice A1_2 l1_2.length c1_2, .slice A1_3 l1_3.length c1_3]] w fun e w' => ∃ v1_ v2_ v3_ : Value, e = .returned (.agg #[.int .i64 r1, v1_, v2_, v3_]) ∧ Kd.R k64 64 w' w.heap.size (fun _ => True) v1_ r2 ∧ Kd.R (Kd.int .i64) 3 w' w.heap.size (fun k_ => some k_ ≠ (v3_ : Value).ownBlock) v2_ r3 ∧ Kd.R (Kd.int .i64) 3 w' w.heap.size (fun k_ => some k_ ≠ (v2_ : Value).ownBlock) v3_ r4 ∧ Below w.heap.size w w' := by
 have hmf : ∀ (fn : Fn) (first cap : Array Value) (w : World), (Instr.makeFunc fn first cap).run Tryz.prog w = .ok (.func fn first cap) w := fun _ _ _ _ => rfl
 have hu27 := Tryz.underlying27
 have HR0_1 := Aside0.mk hr0_1
 have HC0_1 := Aside0.mk hc0_1
 clear hr0_1 hc0_1
 have HR0_2 := Aside0.mk hr0_2
 have HC0_2 := Aside0.mk hc0_2
 clear hr0_2 hc0_2
 have HR0_3 := Aside0.mk hr0_3
 have HC0_3 := Aside0.mk hc0_3
 clear hr0_3 hc0_3
 have HR1_1 := Aside0.mk hr1_1
 have HC1_1 := Aside0.mk hc1_1
 clear hr1_1 hc1_1
 have HR1_2 := Aside0.mk hr1_2
 have HC1_2 := Aside0.mk hc1_2
 clear hr1_2 hc1_2
 have HR1_3 := Aside0.mk hr1_3
 have HC1_3 := Aside0.mk hc1_3
 clear hr1_3 hc1_3
 have HB := Aside0.mk (Below.refl w.heap.size w)
 have H := h
 clear h
 unfold poslist_List_And.f at H
 by_cases c2 : a0_0 = 3
 ·rw [if_pos c2] at H
  have c2b0 : (a0_0 == 3) = true := beq_iff_eq.mpr c2
  clear c2
  have H1 := Aside0.mk H
  clear H
  have HEN := Aside0.mk (show ∀ args W, (callFunc 34 args).run Tryz.prog W = .ok (.enter 34 args) W from enters_of Tryz.func34 (by kernel_rfl) rfl)
  go_enter Tryz.func22, Tryz.ntmps22
  go_wp2_with (first | ((with_reducible refine gate_dst (N := 2) rfl ?_); refine box_event ?hg (N := 2) ?hd (cs := #[.int .i64 a0_0, .slice A0_1 l0_1.length c0_1, .slice A0_2 l0_2.length c0_2, .slice A0_3 l0_3.length c0_3]) (t := 27) ?hr ?_; (case hd => rfl); (case hg => rfl); (case hr => (go_simp; done)); intro g2 hg w2 hbox hb; have n0_ := Aside0.mk (below_step HB.out hb); have n1_ := Aside0.mk (hbox); have n2_ := Aside0.mk ((by rw [hg]; exact below_size HB.out : w.heap.size ≤ g2)); clear HB; have HB := n0_; have BK2 := n1_; have GE2 := n2_; clear n0_ n1_ n2_ hb hbox hg) | ((with_reducible refine gate_dst (N := 3) rfl ?_); refine box_event ?hg (N := 3) ?hd (cs := #[.int .i64 a1_0, .slice A1_1 l1_1.length c1_1, .slice A1_2 l1_2.length c1_2, .slice A1_3 l1_3.length c1_3]) (t := 27) ?hr ?_; (case hd => rfl); (case hg => rfl); (case hr => (go_simp; done)); intro g3 hg w3 hbox hb; have n0_ := Aside0.mk (below_step HB.out hb); have n1_ := Aside0.mk (blk_below BK2.out hb); have n2_ := Aside0.mk (hbox); have n3_ := Aside0.mk ((by rw [hg]; exact below_size HB.out : w.heap.size ≤ g3)); have n4_ := Aside0.mk ((by rw [hg]; exact Nat.ne_of_lt (blk_lt BK2.out) : g2 ≠ g3)); have n5_ := Aside0.mk ((by rw [hg]; exact (Nat.ne_of_lt (blk_lt BK2.out)).symm : g3 ≠ g2)); clear HB BK2; have HB := n0_; have BK2 := n1_; have BK3 := n2_; have GE3 := n3_; have NB23 := n4_; have NB32 := n5_; clear n0_ n1_ n2_ n3_ n4_ n5_ hb hbox hg) | ((with_reducible refine gate_dst (N := 4) rfl ?_); refine box_event ?hg (N := 4) ?hd (cs := #[.int .i64 0, .slice none 0 0, .slice none 0 0, .slice none 0 0]) (t := 27) ?hr ?_; (case hd => rfl); (case hg => rfl); (case hr => (go_simp; done)); intro g4 hg w4 hbox hb; have n0_ := Aside0.mk (below_step HB.out hb); have n1_ := Aside0.mk (blk_below BK2.out hb); have n2_ := Aside0.mk (blk_below BK3.out hb); have n3_ := Aside0.mk (hbox); have n4_ := Aside0.mk ((by rw [hg]; exact below_size HB.out : w.heap.size ≤ g4)); have n5_ := Aside0.mk ((by rw [hg]; exact Nat.ne_of_lt (blk_lt BK2.out) : g2 ≠ g4)); have n6_ := Aside0.mk ((by rw [hg]; exact (Nat.ne_of_lt (blk_lt BK2.out)).symm : g4 ≠ g2)); have n7_ := Aside0.mk ((by rw [hg]; exact Nat.ne_of_lt (blk_lt BK3.out) : g3 ≠ g4)); have n8_ := Aside0.mk ((by rw [hg]; exact (Nat.ne_of_lt (blk_lt BK3.out)).symm : g4 ≠ g3)); clear HB BK2 BK3; have HB := n0_; have BK2 := n1_; have BK3 := n2_; have BK4 := n3_; have GE4 := n4_; have NB24 := n5_; have NB42 := n6_; have NB34 := n7_; have NB43 := n8_; clear n0_ n1_ n2_ n3_ n4_ n5_ n6_ n7_ n8_ hb hbox hg; obtain ⟨hc20, hc21, hc22, hc23, hf20, hf21, hf22, hf23⟩ := b4 BK2; obtain ⟨hc30, hc31, hc32, hc33, hf30, hf31, hf32, hf33⟩ := b4 BK3) | (go_at_call 54; (with_reducible refine (poslist_List_kept.calls 34 #[.agg #[.int .i64 a1_0, .slice A1_1 l1_1.length c1_1, .slice A1_2 l1_2.length c1_2, .slice A1_3 l1_3.length c1_3]] #[] (fun x => poslist_List_Has.f k a1_0 l1_1 l1_2 l1_3 x) k a0_0 A0_1 c0_1 l0_1 A0_2 c0_2 l0_2 A0_3 c0_3 l0_3 r1 r2 r3 r4 _ ?a1 ?b1 ?a2 ?b2 ?a3 ?b3 HEN.out ?his H1.out).mono ?_); (case a1 => exact (Kd.C_below HR0_1.out HB.out)); (case b1 => exact HC0_1.out); (case a2 => exact (Kd.C_below HR0_2.out HB.out)); (case b2 => exact HC0_2.out); (case a3 => exact (Kd.C_below HR0_3.out HB.out)); (case b3 => exact HC0_3.out); (case his => intro X at_ t_ hX hp; exact calls_of_args (by simp) (poslist_List_Has.calls k a1_0 A1_1 c1_1 l1_1 A1_2 c1_2 l1_2 A1_3 c1_3 l1_3 at_ t_ X (Kd.C_below (Kd.C_below HR1_1.out HB.out) hX) HC1_1.out (Kd.C_below (Kd.C_below HR1_2.out HB.out) hX) HC1_2.out (Kd.C_below (Kd.C_below HR1_3.out HB.out) hX) HC1_3.out hp)); have hlt4 := blk_lt BK4.out; have HB0 := HB; rintro e w6 ⟨v1, v2, v3, rfl, hv1, hv2, hv3, hb⟩; have n0_ := Aside0.mk (below_step HB.out hb); have n1_ := Aside0.mk (blk_below BK2.out hb); have n2_ := Aside0.mk (blk_below BK3.out hb); have n3_ := Aside0.mk (blk_below BK4.out hb); clear HB BK2 BK3 BK4; have HB := n0_; have BK2 := n1_; have BK3 := n2_; have BK4 := n3_; clear n0_ n1_ n2_ n3_ hb; obtain ⟨Av1, cv1, rfl⟩ := Kd.R_slice hv1; obtain ⟨Av2, cv2, rfl⟩ := Kd.R_slice hv2; obtain ⟨Av3, cv3, rfl⟩ := Kd.R_slice hv3; obtain ⟨hc40, hc41, hc42, hc43, hf40, hf41, hf42, hf43⟩ := b4 BK4))
  refine bodyPost_ret (results_cell_row rfl _ _ g4 27 #[.int .i64 r1, .slice Av1 r2.length cv1, .slice Av2 r3.length cv2, .slice Av3 r4.length cv3] (0, 0) _ rfl (by refine blk_put (cs := #[.int .i64 r1, .slice Av1 r2.length cv1, .slice Av2 r3.length cv2, .slice none 0 0]) ?_ 3 _ rfl; refine blk_put (cs := #[.int .i64 r1, .slice Av1 r2.length cv1, .slice none 0 0, .slice none 0 0]) ?_ 2 _ rfl; refine blk_put (cs := #[.int .i64 r1, .slice none 0 0, .slice none 0 0, .slice none 0 0]) ?_ 1 _ rfl; refine blk_put (cs := #[.int .i64 0, .slice none 0 0, .slice none 0 0, .slice none 0 0]) ?_ 0 _ rfl; exact BK4.out) Tryz.underlying27 rfl (by kernel_rfl)) rfl ?_
  have hw_ := below_size HB0.out
  exact ⟨_, _, _, rfl, Kd.R_lower (XR.R_far (XR.R_far (XR.R_far (XR.R_far hv1 hlt4) hlt4) hlt4) hlt4) hw_, Kd.R_lower (XR.R_far (XR.R_far (XR.R_far (XR.R_far hv2 hlt4) hlt4) hlt4) hlt4) hw_, Kd.R_lower (XR.R_far (XR.R_far (XR.R_far (XR.R_far hv3 hlt4) hlt4) hlt4) hlt4) hw_, bh HB.out⟩
 rw [if_neg c2] at H
 have c2b0 : (a0_0 == 3) = false := beq_eq_false_iff_ne.mpr c2
 clear c2
 replace H := ife H
 rcases H with ⟨-, c3b0, -, H⟩ | ⟨-, c3b0, -, H⟩
 ·have H1 := Aside0.mk H
  clear H
  have HEN := Aside0.mk (show ∀ args W, (callFunc 34 args).run Tryz.prog W = .ok (.enter 34 args) W from enters_of Tryz.func34 (by kernel_rfl) rfl)
  go_enter Tryz.func22, Tryz.ntmps22
  go_wp2_with (first | ((with_reducible refine gate_dst (N := 2) rfl ?_); refine box_event ?hg (N := 2) ?hd (cs := #[.int .i64 a0_0, .slice A0_1 l0_1.length c0_1, .slice A0_2 l0_2.length c0_2, .slice A0_3 l0_3.length c0_3]) (t := 27) ?hr ?_; (case hd => rfl); (case hg => rfl); (case hr => (go_simp; done)); intro g2 hg w2 hbox hb; have n0_ := Aside0.mk (below_step HB.out hb); have n1_ := Aside0.mk (hbox); have n2_ := Aside0.mk ((by rw [hg]; exact below_size HB.out : w.heap.size ≤ g2)); clear HB; have HB := n0_; have BK2 := n1_; have GE2 := n2_; clear n0_ n1_ n2_ hb hbox hg) | ((with_reducible refine gate_dst (N := 3) rfl ?_); refine box_event ?hg (N := 3) ?hd (cs := #[.int .i64 a1_0, .slice A1_1 l1_1.length c1_1, .slice A1_2 l1_2.length c1_2, .slice A1_3 l1_3.length c1_3]) (t := 27) ?hr ?_; (case hd => rfl); (case hg => rfl); (case hr => (go_simp; done)); intro g3 hg w3 hbox hb; have n0_ := Aside0.mk (below_step HB.out hb); have n1_ := Aside0.mk (blk_below BK2.out hb); have n2_ := Aside0.mk (hbox); have n3_ := Aside0.mk ((by rw [hg]; exact below_size HB.out : w.heap.size ≤ g3)); have n4_ := Aside0.mk ((by rw [hg]; exact Nat.ne_of_lt (blk_lt BK2.out) : g2 ≠ g3)); have n5_ := Aside0.mk ((by rw [hg]; exact (Nat.ne_of_lt (blk_lt BK2.out)).symm : g3 ≠ g2)); clear HB BK2; have HB := n0_; have BK2 := n1_; have BK3 := n2_; have GE3 := n3_; have NB23 := n4_; have NB32 := n5_; clear n0_ n1_ n2_ n3_ n4_ n5_ hb hbox hg) | ((with_reducible refine gate_dst (N := 4) rfl ?_); refine box_event ?hg (N := 4) ?hd (cs := #[.int .i64 0, .slice none 0 0, .slice none 0 0, .slice none 0 0]) (t := 27) ?hr ?_; (case hd => rfl); (case hg => rfl); (case hr => (go_simp; done)); intro g4 hg w4 hbox hb; have n0_ := Aside0.mk (below_step HB.out hb); have n1_ := Aside0.mk (blk_below BK2.out hb); have n2_ := Aside0.mk (blk_below BK3.out hb); have n3_ := Aside0.mk (hbox); have n4_ := Aside0.mk ((by rw [hg]; exact below_size HB.out : w.heap.size ≤ g4)); have n5_ := Aside0.mk ((by rw [hg]; exact Nat.ne_of_lt (blk_lt BK2.out) : g2 ≠ g4)); have n6_ := Aside0.mk ((by rw [hg]; exact (Nat.ne_of_lt (blk_lt BK2.out)).symm : g4 ≠ g2)); have n7_ := Aside0.mk ((by rw [hg]; exact Nat.ne_of_lt (blk_lt BK3.out) : g3 ≠ g4)); have n8_ := Aside0.mk ((by rw [hg]; exact (Nat.ne_of_lt (blk_lt BK3.out)).symm : g4 ≠ g3)); clear HB BK2 BK3; have HB := n0_; have BK2 := n1_; have BK3 := n2_; have BK4 := n3_; have GE4 := n4_; have NB24 := n5_; have NB42 := n6_; have NB34 := n7_; have NB43 := n8_; clear n0_ n1_ n2_ n3_ n4_ n5_ n6_ n7_ n8_ hb hbox hg; obtain ⟨hc20, hc21, hc22, hc23, hf20, hf21, hf22, hf23⟩ := b4 BK2; obtain ⟨hc30, hc31, hc32, hc33, hf30, hf31, hf32, hf33⟩ := b4 BK3) | (go_at_call 54; (with_reducible refine (poslist_List_kept.calls 34 #[.agg #[.int .i64 a0_0, .slice A0_1 l0_1.length c0_1, .slice A0_2 l0_2.length c0_2, .slice A0_3 l0_3.length c0_3]] #[] (fun x => poslist_List_Has.f k a0_0 l0_1 l0_2 l0_3 x) k a1_0 A1_1 c1_1 l1_1 A1_2 c1_2 l1_2 A1_3 c1_3 l1_3 r1 r2 r3 r4 _ ?a1 ?b1 ?a2 ?b2 ?a3 ?b3 HEN.out ?his H1.out).mono ?_); (case a1 => exact (Kd.C_below HR1_1.out HB.out)); (case b1 => exact HC1_1.out); (case a2 => exact (Kd.C_below HR1_2.out HB.out)); (case b2 => exact HC1_2.out); (case a3 => exact (Kd.C_below HR1_3.out HB.out)); (case b3 => exact HC1_3.out); (case his => intro X at_ t_ hX hp; exact calls_of_args (by simp) (poslist_List_Has.calls k a0_0 A0_1 c0_1 l0_1 A0_2 c0_2 l0_2 A0_3 c0_3 l0_3 at_ t_ X (Kd.C_below (Kd.C_below HR0_1.out HB.out) hX) HC0_1.out (Kd.C_below (Kd.C_below HR0_2.out HB.out) hX) HC0_2.out (Kd.C_below (Kd.C_below HR0_3.out HB.out) hX) HC0_3.out hp)); have hlt4 := blk_lt BK4.out; have HB0 := HB; rintro e w6 ⟨v1, v2, v3, rfl, hv1, hv2, hv3, hb⟩; have n0_ := Aside0.mk (below_step HB.out hb); have n1_ := Aside0.mk (blk_below BK2.out hb); have n2_ := Aside0.mk (blk_below BK3.out hb); have n3_ := Aside0.mk (blk_below BK4.out hb); clear HB BK2 BK3 BK4; have HB := n0_; have BK2 := n1_; have BK3 := n2_; have BK4 := n3_; clear n0_ n1_ n2_ n3_ hb; obtain ⟨Av1, cv1, rfl⟩ := Kd.R_slice hv1; obtain ⟨Av2, cv2, rfl⟩ := Kd.R_slice hv2; obtain ⟨Av3, cv3, rfl⟩ := Kd.R_slice hv3; obtain ⟨hc40, hc41, hc42, hc43, hf40, hf41, hf42, hf43⟩ := b4 BK4))
  refine bodyPost_ret (results_cell_row rfl _ _ g4 27 #[.int .i64 r1, .slice Av1 r2.length cv1, .slice Av2 r3.length cv2, .slice Av3 r4.length cv3] (0, 0) _ rfl (by refine blk_put (cs := #[.int .i64 r1, .slice Av1 r2.length cv1, .slice Av2 r3.length cv2, .slice none 0 0]) ?_ 3 _ rfl; refine blk_put (cs := #[.int .i64 r1, .slice Av1 r2.length cv1, .slice none 0 0, .slice none 0 0]) ?_ 2 _ rfl; refine blk_put (cs := #[.int .i64 r1, .slice none 0 0, .slice none 0 0, .slice none 0 0]) ?_ 1 _ rfl; refine blk_put (cs := #[.int .i64 0, .slice none 0 0, .slice none 0 0, .slice none 0 0]) ?_ 0 _ rfl; exact BK4.out) Tryz.underlying27 rfl (by kernel_rfl)) rfl ?_
  have hw_ := below_size HB0.out
  exact ⟨_, _, _, rfl, Kd.R_lower (XR.R_far (XR.R_far (XR.R_far (XR.R_far hv1 hlt4) hlt4) hlt4) hlt4) hw_, Kd.R_lower (XR.R_far (XR.R_far (XR.R_far (XR.R_far hv2 hlt4) hlt4) hlt4) hlt4) hw_, Kd.R_lower (XR.R_far (XR.R_far (XR.R_far (XR.R_far hv3 hlt4) hlt4) hlt4) hlt4) hw_, bh HB.out⟩
 ·have H1 := Aside0.mk H
  clear H
  go_enter Tryz.func22, Tryz.ntmps22
  go_wp2_with (first | ((with_reducible refine gate_dst (N := 2) rfl ?_); refine box_event ?hg (N := 2) ?hd (cs := #[.int .i64 a0_0, .slice A0_1 l0_1.length c0_1, .slice A0_2 l0_2.length c0_2, .slice A0_3 l0_3.length c0_3]) (t := 27) ?hr ?_; (case hd => rfl); (case hg => rfl); (case hr => (go_simp; done)); intro g2 hg w2 hbox hb; have n0_ := Aside0.mk (below_step HB.out hb); have n1_ := Aside0.mk (hbox); have n2_ := Aside0.mk ((by rw [hg]; exact below_size HB.out : w.heap.size ≤ g2)); clear HB; have HB := n0_; have BK2 := n1_; have GE2 := n2_; clear n0_ n1_ n2_ hb hbox hg) | ((with_reducible refine gate_dst (N := 3) rfl ?_); refine box_event ?hg (N := 3) ?hd (cs := #[.int .i64 a1_0, .slice A1_1 l1_1.length c1_1, .slice A1_2 l1_2.length c1_2, .slice A1_3 l1_3.length c1_3]) (t := 27) ?hr ?_; (case hd => rfl); (case hg => rfl); (case hr => (go_simp; done)); intro g3 hg w3 hbox hb; have n0_ := Aside0.mk (below_step HB.out hb); have n1_ := Aside0.mk (blk_below BK2.out hb); have n2_ := Aside0.mk (hbox); have n3_ := Aside0.mk ((by rw [hg]; exact below_size HB.out : w.heap.size ≤ g3)); have n4_ := Aside0.mk ((by rw [hg]; exact Nat.ne_of_lt (blk_lt BK2.out) : g2 ≠ g3)); have n5_ := Aside0.mk ((by rw [hg]; exact (Nat.ne_of_lt (blk_lt BK2.out)).symm : g3 ≠ g2)); clear HB BK2; have HB := n0_; have BK2 := n1_; have BK3 := n2_; have GE3 := n3_; have NB23 := n4_; have NB32 := n5_; clear n0_ n1_ n2_ n3_ n4_ n5_ hb hbox hg) | ((with_reducible refine gate_dst (N := 4) rfl ?_); refine box_event ?hg (N := 4) ?hd (cs := #[.int .i64 0, .slice none 0 0, .slice none 0 0, .slice none 0 0]) (t := 27) ?hr ?_; (case hd => rfl); (case hg => rfl); (case hr => (go_simp; done)); intro g4 hg w4 hbox hb; have n0_ := Aside0.mk (below_step HB.out hb); have n1_ := Aside0.mk (blk_below BK2.out hb); have n2_ := Aside0.mk (blk_below BK3.out hb); have n3_ := Aside0.mk (hbox); have n4_ := Aside0.mk ((by rw [hg]; exact below_size HB.out : w.heap.size ≤ g4)); have n5_ := Aside0.mk ((by rw [hg]; exact Nat.ne_of_lt (blk_lt BK2.out) : g2 ≠ g4)); have n6_ := Aside0.mk ((by rw [hg]; exact (Nat.ne_of_lt (blk_lt BK2.out)).symm : g4 ≠ g2)); have n7_ := Aside0.mk ((by rw [hg]; exact Nat.ne_of_lt (blk_lt BK3.out) : g3 ≠ g4)); have n8_ := Aside0.mk ((by rw [hg]; exact (Nat.ne_of_lt (blk_lt BK3.out)).symm : g4 ≠ g3)); clear HB BK2 BK3; have HB := n0_; have BK2 := n1_; have BK3 := n2_; have BK4 := n3_; have GE4 := n4_; have NB24 := n5_; have NB42 := n6_; have NB34 := n7_; have NB43 := n8_; clear n0_ n1_ n2_ n3_ n4_ n5_ n6_ n7_ n8_ hb hbox hg; obtain ⟨hc20, hc21, hc22, hc23, hf20, hf21, hf22, hf23⟩ := b4 BK2; obtain ⟨hc30, hc31, hc32, hc33, hf30, hf31, hf32, hf33⟩ := b4 BK3) | (go_at_call 55; (with_reducible refine (poslist_List_together_fn56_fn57.calls k a0_0 A0_1 c0_1 l0_1 A0_2 c0_2 l0_2 A0_3 c0_3 l0_3 a1_0 A1_1 c1_1 l1_1 A1_2 c1_2 l1_2 A1_3 c1_3 l1_3 r1 r2 r3 r4 _ ?a01 ?b01 ?a02 ?b02 ?a03 ?b03 ?a11 ?b11 ?a12 ?b12 ?a13 ?b13 H1.out).mono ?_); (case a01 => exact (Kd.C_below HR0_1.out HB.out)); (case b01 => exact HC0_1.out); (case a02 => exact (Kd.C_below HR0_2.out HB.out)); (case b02 => exact HC0_2.out); (case a03 => exact (Kd.C_below HR0_3.out HB.out)); (case b03 => exact HC0_3.out); (case a11 => exact (Kd.C_below HR1_1.out HB.out)); (case b11 => exact HC1_1.out); (case a12 => exact (Kd.C_below HR1_2.out HB.out)); (case b12 => exact HC1_2.out); (case a13 => exact (Kd.C_below HR1_3.out HB.out)); (case b13 => exact HC1_3.out); have hlt4 := blk_lt BK4.out; have HB0 := HB; rintro e w6 ⟨v1, v2, v3, rfl, hv1, hv2, hv3, hb⟩; have n0_ := Aside0.mk (below_step HB.out hb); have n1_ := Aside0.mk (blk_below BK2.out hb); have n2_ := Aside0.mk (blk_below BK3.out hb); have n3_ := Aside0.mk (blk_below BK4.out hb); clear HB BK2 BK3 BK4; have HB := n0_; have BK2 := n1_; have BK3 := n2_; have BK4 := n3_; clear n0_ n1_ n2_ n3_ hb; obtain ⟨Av1, cv1, rfl⟩ := Kd.R_slice hv1; obtain ⟨Av2, cv2, rfl⟩ := Kd.R_slice hv2; obtain ⟨Av3, cv3, rfl⟩ := Kd.R_slice hv3; obtain ⟨hc40, hc41, hc42, hc43, hf40, hf41, hf42, hf43⟩ := b4 BK4))
  refine bodyPost_ret (results_cell_row rfl _ _ g4 27 #[.int .i64 r1, .slice Av1 r2.length cv1, .slice Av2 r3.length cv2, .slice Av3 r4.length cv3] (0, 0) _ rfl (by refine blk_put (cs := #[.int .i64 r1, .slice Av1 r2.length cv1, .slice Av2 r3.length cv2, .slice none 0 0]) ?_ 3 _ rfl; refine blk_put (cs := #[.int .i64 r1, .slice Av1 r2.length cv1, .slice none 0 0, .slice none 0 0]) ?_ 2 _ rfl; refine blk_put (cs := #[.int .i64 r1, .slice none 0 0, .slice none 0 0, .slice none 0 0]) ?_ 1 _ rfl; refine blk_put (cs := #[.int .i64 0, .slice none 0 0, .slice none 0 0, .slice none 0 0]) ?_ 0 _ rfl; exact BK4.out) Tryz.underlying27 rfl (by kernel_rfl)) rfl ?_
  have hw_ := below_size HB0.out
  exact ⟨_, _, _, rfl, Kd.R_lower (XR.R_far (XR.R_far (XR.R_far (XR.R_far hv1 hlt4) hlt4) hlt4) hlt4) hw_, Kd.R_lower (XR.R_far (XR.R_far (XR.R_far (XR.R_far hv2 hlt4) hlt4) hlt4) hlt4) hw_, Kd.R_lower (XR.R_far (XR.R_far (XR.R_far (XR.R_far hv3 hlt4) hlt4) hlt4) hlt4) hw_, bh HB.out⟩
end Go.Proofs.YtjgmdjieandemaaGreat.Print
end
section
namespace Go.Proofs.YtjgmdjieandemaaGreat.Print
open Go.RowKit Go.Proofs.YtjgmdjieandemaaGreatW.PrintWords Go.Proofs.YtjgmdjieandemaaGreatW.PrintLast Go.Proofs.YtjgmdjieandemaaGreatW.PrintMore
attribute [local go_sem] max2_int min2_int max_two min_two max_three min_three max_four min_four   -- for this text's walks alone
set_option linter.unusedVariables false
set_option linter.unusedSimpArgs false
/-! ### bits_half: function 107 -/
mutual
def bits_half.j0 : Nat → Int → Int → Bool → Option (Int)
 | 0, _, _, _ => none
 | k + 1, x3, x5, x8 => if x8 = true then (some (wrap64 ((wrap64 ((wrap64 (x3 + 1)) + 1)) + 1))) else (if x5 = 3 then (bits_half.j1 k x3 x5 (x5 == 3)) else (if x5 = 5 then (bits_half.j1 k x3 x5 (x5 == 5)) else (if x5 = 6 then (bits_half.j1 k x3 x5 (x5 == 6)) else (if x5 = 9 then (bits_half.j1 k x3 x5 (x5 == 9)) else (if x5 = 10 then (bits_half.j1 k x3 x5 (x5 == 10)) else (bits_half.j1 k x3 x5 (x5 == 12)))))))
def bits_half.j1 : Nat → Int → Int → Bool → Option (Int)
 | 0, _, _, _ => none
 | k + 1, x3, x5, x13 => if x13 = true then (some (wrap64 ((wrap64 (x3 + 1)) + 1))) else (if x5 = 1 then (some (wrap64 (x3 + 1))) else (if x5 = 2 then (some (wrap64 (x3 + 1))) else (if x5 = 4 then (some (wrap64 (x3 + 1))) else (if x5 = 8 then (some (wrap64 (x3 + 1))) else (some x3)))))
end
def bits_half.f (k : Nat) (a0 : Int) : Option (Int) := if (Go.bits .and .u64 a0 15) = 15 then (some ((((0 + 1) + 1) + 1) + 1)) else (if (Go.bits .and .u64 a0 15) = 7 then (bits_half.j0 k 0 (Go.bits .and .u64 a0 15) ((Go.bits .and .u64 a0 15) == 7)) else (if (Go.bits .and .u64 a0 15) = 11 then (bits_half.j0 k 0 (Go.bits .and .u64 a0 15) ((Go.bits .and .u64 a0 15) == 11)) else (if (Go.bits .and .u64 a0 15) = 13 then (bits_half.j0 k 0 (Go.bits .and .u64 a0 15) ((Go.bits .and .u64 a0 15) == 13)) else (bits_half.j0 k 0 (Go.bits .and .u64 a0 15) ((Go.bits .and .u64 a0 15) == 14)))))
theorem bits_half.j0_succ (k) (a0) (a1) (a2) : type_of% (@bits_half.j0.eq_2 a0 a1 a2 k) := bits_half.j0.eq_2 a0 a1 a2 k
theorem bits_half.j1_succ (k) (a0) (a1) (a2) : type_of% (@bits_half.j1.eq_2 a0 a1 a2 k) := bits_half.j1.eq_2 a0 a1 a2 k
theorem bits_half.mono_l : ∀ k, (∀ y0 y1 y2, LeO (bits_half.j0 k y0 y1 y2) (bits_half.j0 (k + 1) y0 y1 y2)) ∧ (∀ y0 y1 y2, LeO (bits_half.j1 k y0 y1 y2) (bits_half.j1 (k + 1) y0 y1 y2))
 | 0 => ⟨fun _ _ _ r h => by simp [bits_half.j0] at h, fun _ _ _ r h => by simp [bits_half.j1] at h⟩
 | k + 1 => by
  obtain ⟨ih0, ih1⟩ := bits_half.mono_l k
  refine ⟨?_, ?_⟩
  ·intro y0 y1 y2
   unfold bits_half.j0
   repeat' first | (with_reducible exact ih1 _ _ _) | (with_reducible exact LeO.refl _) | (with_reducible refine LeO.ite ?_ ?_)
  ·intro y0 y1 y2
   unfold bits_half.j1
   repeat' (with_reducible exact LeO.refl _)
theorem bits_half.mono : ∀ a0 k, LeO (bits_half.f k a0) (bits_half.f (k + 1) a0) := by
 intro a0 k
 obtain ⟨ih0, ih1⟩ := bits_half.mono_l k
 unfold bits_half.f
 repeat' first | (with_reducible exact ih0 _ _ _) | (with_reducible exact LeO.refl _) | (with_reducible refine LeO.ite ?_ ?_)
set_option maxHeartbeats 8000000 in
set_option maxRecDepth 100000 in
theorem bits_half.calls (k : Nat) (a0 : Int) (r : Int) (w : World) (h : bits_half.f k a0 = some r) :
  Calls Tryz.prog 107 #[.int .u64 a0] w fun e w' => e = .returned (.int .i64 r) ∧ Drawn0 w w' := by
 have H := h
 clear h
 unfold bits_half.f at H
 replace H := ife H
 rcases H with ⟨-, c2b0, c2b1, H⟩ | ⟨c2, c2b0, c2b1, H⟩
 ·obtain rfl := Option.some.inj H
  go_enter Tryz.func107, Tryz.ntmps107
  go_wp2
  go_ret
  exact ⟨by rfl, by repeat (exact Drawn0.refl _)⟩
 ·have HC3 := Aside0.mk H
  clear H
  go_enter Tryz.func107, Tryz.ntmps107
  go_upto_if 8 with (fail)
  go_cut [8] (fun v8 wc => ∃ (kq : Nat) (x8_2 : Bool), v8 = .bool x8_2 ∧ Aside0 (bits_half.j0 kq 0 (Go.bits .and .u64 a0 15) x8_2 = some r) ∧ Aside0 (kq ≤ k) ∧ Drawn0 w wc)
  case first =>
   have H := HC3.out
   clear HC3
   replace H := ife H
   rcases H with ⟨-, c4b0, c4b1, H⟩ | ⟨c4, c4b0, c4b1, H⟩
   ·(rw [c4b0])
    have H' := Aside0.mk H
    clear H
    go_wp2
    go_meet
    case rel => exact ⟨_, (((Go.bits .and .u64 a0 15) == 7)), (by (simp [*]; done)), H', ⟨by omega⟩, by repeat (exact Drawn0.refl _)⟩
   ·(rw [c4b0])
    replace H := ife H
    rcases H with ⟨-, c5b0, c5b1, H⟩ | ⟨c5, c5b0, c5b1, H⟩
    ·have H' := Aside0.mk H
     clear H
     go_wp2
     go_meet
     case rel => exact ⟨_, (((Go.bits .and .u64 a0 15) == 11)), (by (simp [*]; done)), H', ⟨by omega⟩, by repeat (exact Drawn0.refl _)⟩
    ·replace H := ife H
     rcases H with ⟨-, c6b0, c6b1, H⟩ | ⟨c6, c6b0, c6b1, H⟩
     ·have H' := Aside0.mk H
      clear H
      go_wp2
      go_meet
      case rel => exact ⟨_, (((Go.bits .and .u64 a0 15) == 13)), (by (simp [*]; done)), H', ⟨by omega⟩, by repeat (exact Drawn0.refl _)⟩
     ·have H' := Aside0.mk H
      clear H
      go_wp2
      go_meet
      case rel => exact ⟨_, (((Go.bits .and .u64 a0 15) == 14)), (by rfl), H', ⟨by omega⟩, by repeat (exact Drawn0.refl _)⟩
  case rest =>
   clear HC3 c2 c2b0 c2b1
   obtain ⟨kq, x8_2, rfl, HA, HJ2, ⟨mc2, rfl⟩⟩ := hcut
   cases kq with
   | zero => exact absurd HA.out (by simp [bits_half.j0])
   | succ kj2 =>
    have H := HA.out
    clear HA
    simp only [bits_half.j0] at H
    replace H := ifb H
    rcases H with ⟨rfl, H⟩ | ⟨rfl, H⟩
    ·obtain rfl := Option.some.inj H
     go_wp2
     go_ret
     exact ⟨by (unfold wrap64; rfl), by repeat (first | exact Drawn0.refl _ | apply Drawn0.step)⟩
    ·have HC8 := Aside0.mk H
     clear H
     go_upto_if 13 with (fail)
     go_cut [13] (fun v13 wc => ∃ (kq : Nat) (x13_7 : Bool), v13 = .bool x13_7 ∧ Aside0 (bits_half.j1 kq 0 (Go.bits .and .u64 a0 15) x13_7 = some r) ∧ Aside0 (kq ≤ kj2) ∧ Drawn0 w wc)
     case first =>
      have H := HC8.out
      clear HC8
      replace H := ife H
      rcases H with ⟨-, c9b0, c9b1, H⟩ | ⟨c9, c9b0, c9b1, H⟩
      ·(rw [c9b0])
       have H' := Aside0.mk H
       clear H
       go_wp2
       go_meet
       case rel => exact ⟨_, (((Go.bits .and .u64 a0 15) == 3)), (by (simp [*]; done)), H', ⟨by have := HJ2.out; omega⟩, by repeat (first | exact Drawn0.refl _ | apply Drawn0.step)⟩
      ·(rw [c9b0])
       replace H := ife H
       rcases H with ⟨-, c10b0, c10b1, H⟩ | ⟨c10, c10b0, c10b1, H⟩
       ·have H' := Aside0.mk H
        clear H
        go_wp2
        go_meet
        case rel => exact ⟨_, (((Go.bits .and .u64 a0 15) == 5)), (by (simp [*]; done)), H', ⟨by have := HJ2.out; omega⟩, by repeat (first | exact Drawn0.refl _ | apply Drawn0.step)⟩
       ·replace H := ife H
        rcases H with ⟨-, c11b0, c11b1, H⟩ | ⟨c11, c11b0, c11b1, H⟩
        ·have H' := Aside0.mk H
         clear H
         go_wp2
         go_meet
         case rel => exact ⟨_, (((Go.bits .and .u64 a0 15) == 6)), (by (simp [*]; done)), H', ⟨by have := HJ2.out; omega⟩, by repeat (first | exact Drawn0.refl _ | apply Drawn0.step)⟩
        ·replace H := ife H
         rcases H with ⟨-, c12b0, c12b1, H⟩ | ⟨c12, c12b0, c12b1, H⟩
         ·have H' := Aside0.mk H
          clear H
          go_wp2
          go_meet
          case rel => exact ⟨_, (((Go.bits .and .u64 a0 15) == 9)), (by (simp [*]; done)), H', ⟨by have := HJ2.out; omega⟩, by repeat (first | exact Drawn0.refl _ | apply Drawn0.step)⟩
         ·replace H := ife H
          rcases H with ⟨-, c13b0, c13b1, H⟩ | ⟨c13, c13b0, c13b1, H⟩
          ·have H' := Aside0.mk H
           clear H
           go_wp2
           go_meet
           case rel => exact ⟨_, (((Go.bits .and .u64 a0 15) == 10)), (by (simp [*]; done)), H', ⟨by have := HJ2.out; omega⟩, by repeat (first | exact Drawn0.refl _ | apply Drawn0.step)⟩
          ·have H' := Aside0.mk H
           clear H
           go_wp2
           go_meet
           case rel => exact ⟨_, (((Go.bits .and .u64 a0 15) == 12)), (by rfl), H', ⟨by have := HJ2.out; omega⟩, by repeat (first | exact Drawn0.refl _ | apply Drawn0.step)⟩
     case rest =>
      clear HC8
      obtain ⟨kq, x13_7, rfl, HA, HJ7, ⟨mc7, rfl⟩⟩ := hcut
      cases kq with
      | zero => exact absurd HA.out (by simp [bits_half.j1])
      | succ kj7 =>
       have H := HA.out
       clear HA
       simp only [bits_half.j1] at H
       replace H := ifb H
       rcases H with ⟨rfl, H⟩ | ⟨rfl, H⟩
       ·obtain rfl := Option.some.inj H
        go_wp2
        go_ret
        exact ⟨by (unfold wrap64; rfl), by repeat (first | exact Drawn0.refl _ | apply Drawn0.step)⟩
       ·replace H := ife H
        rcases H with ⟨-, c15b0, c15b1, H⟩ | ⟨c15, c15b0, c15b1, H⟩
        ·obtain rfl := Option.some.inj H
         go_wp2
         go_ret
         exact ⟨by (unfold wrap64; rfl), by repeat (first | exact Drawn0.refl _ | apply Drawn0.step)⟩
        ·replace H := ife H
         rcases H with ⟨-, c16b0, c16b1, H⟩ | ⟨c16, c16b0, c16b1, H⟩
         ·obtain rfl := Option.some.inj H
          go_wp2
          go_ret
          exact ⟨by (unfold wrap64; rfl), by repeat (first | exact Drawn0.refl _ | apply Drawn0.step)⟩
         ·replace H := ife H
          rcases H with ⟨-, c17b0, c17b1, H⟩ | ⟨c17, c17b0, c17b1, H⟩
          ·obtain rfl := Option.some.inj H
           go_wp2
           go_ret
           exact ⟨by (unfold wrap64; rfl), by repeat (first | exact Drawn0.refl _ | apply Drawn0.step)⟩
          ·replace H := ife H
           rcases H with ⟨-, c18b0, c18b1, H⟩ | ⟨c18, c18b0, c18b1, H⟩
           ·obtain rfl := Option.some.inj H
            go_wp2
            go_ret
            exact ⟨by (unfold wrap64; rfl), by repeat (first | exact Drawn0.refl _ | apply Drawn0.step)⟩
           ·obtain rfl := Option.some.inj H
            go_wp2
            go_ret
            exact ⟨by rfl, by repeat (first | exact Drawn0.refl _ | apply Drawn0.step)⟩
/-! ### bits_Ones: function 81 -/
def bits_Ones.l0 : Nat → Int → Int → Int → Option (Int)
 | 0, _, _, _ => none
 | k + 1, x0, x3, x5 => if x5 < 16 then (if 0 ≤ (wrap64 (4 * x5)) then ((bits_half.f k (shr .u64 (IntKind.u64.wrap (x0)) (wrap64 (4 * x5)))).bind fun t376 => (bits_Ones.l0 k x0 (wrap64 (x3 + t376)) (wrap64 (x5 + 1)))) else (none)) else (some x3)
def bits_Ones.f (k : Nat) (a0 : Int) : Option (Int) := bits_Ones.l0 k a0 0 0
theorem bits_Ones.l0_succ (k) (a0) (a1) (a2) : type_of% (@bits_Ones.l0.eq_2 a0 a1 a2 k) := bits_Ones.l0.eq_2 a0 a1 a2 k
theorem bits_Ones.mono_l : ∀ k, (∀ y0 y1 y2, LeO (bits_Ones.l0 k y0 y1 y2) (bits_Ones.l0 (k + 1) y0 y1 y2))
 | 0 => fun _ _ _ r h => by simp [bits_Ones.l0] at h
 | k + 1 => by
  have ih0 := bits_Ones.mono_l k
  ·intro y0 y1 y2
   unfold bits_Ones.l0
   repeat' first | (with_reducible exact ih0 _ _ _) | (with_reducible exact bits_half.mono _ _) | (with_reducible exact LeO.refl _) | (with_reducible refine LeO.ite ?_ ?_) | (with_reducible refine LeO.bind ?_ (fun _ => ?_))
theorem bits_Ones.mono : ∀ a0 k, LeO (bits_Ones.f k a0) (bits_Ones.f (k + 1) a0) := by
 intro a0 k
 have ih0 := bits_Ones.mono_l k
 unfold bits_Ones.f
 repeat' (with_reducible exact ih0 _ _ _)
set_option maxHeartbeats 8000000 in
set_option maxRecDepth 100000 in
theorem bits_Ones.calls (k : Nat) (a0 : Int) (r : Int) (w : World) (h : bits_Ones.f k a0 = some r) :
  Calls Tryz.prog 81 #[.int .i64 a0] w fun e w' => e = .returned (.int .i64 r) ∧ Drawn0 w w' := by
 have H := h
 clear h
 unfold bits_Ones.f at H
 have H' := Aside0.mk H
 clear H
 go_enter Tryz.func81, Tryz.ntmps81
 go_wp2
 go_loopg [3, 5] k (fun kq v3 v5 w' => ∃ (x3_1 : Int) (x5_1 : Int), v3 = .int .i64 x3_1 ∧ v5 = .int .i64 x5_1 ∧ Aside0 (bits_Ones.l0 kq a0 x3_1 x5_1 = some r) ∧ Aside0 (kq ≤ k) ∧ Drawn0 w w')
 case atStart => exact ⟨(0), (0), (by rfl), (by rfl), H', ⟨Nat.le_refl _⟩, by repeat (exact Drawn0.refl _)⟩
 case round =>
  clear H'
  obtain ⟨x3_1, x5_1, rfl, rfl, HA, HK1, ⟨m1, rfl⟩⟩ := hrel
  cases gk with
  | zero => exact absurd HA.out (by simp [bits_Ones.l0])
  | succ k1 =>
   have H := HA.out
   clear HA
   simp only [bits_Ones.l0] at H
   replace H := ifd H
   rcases H with ⟨-, c2b0, H⟩ | ⟨-, c2b0, H⟩
   ·obtain ⟨ji3, hji3⟩ : ∃ j_ : Int, (wrap64 (4 * x5_1)) = j_ := ⟨_, rfl⟩
    replace H : (if 0 ≤ (ji3) then ((bits_half.f k1 (shr .u64 (IntKind.u64.wrap (a0)) (ji3))).bind fun t376 => (bits_Ones.l0 k1 a0 (wrap64 (x3_1 + t376)) (wrap64 (x5_1 + 1)))) else (none)) = some r := by (rw [hji3] at H; exact H)
    have hji3w : (IntKind.i64.wrap (4 * x5_1)) = ji3 := (i64_w _).trans hji3
    replace H := ifn H
    obtain ⟨c4, -, H⟩ := H
    have c4b0 := eq_true c4
    have c4b1 : decide (0 ≤ (ji3)) = true := decide_eq_true c4
    clear c4
    obtain ⟨ji5, hji5⟩ : ∃ j_ : Int, (shr .u64 (IntKind.u64.wrap (a0)) (ji3)) = j_ := ⟨_, rfl⟩
    replace H : ((bits_half.f k1 (ji5)).bind fun t376 => (bits_Ones.l0 k1 a0 (wrap64 (x3_1 + t376)) (wrap64 (x5_1 + 1)))) = some r := by (rw [hji5] at H; exact H)
    have hji5_ : ((IntKind.u64.wrap (a0)) / 2 ^ min (ji3).toNat 64) = ji5 := hji5
    have hji5z : (ji3) ≤ 64 → ((IntKind.u64.wrap (a0)) / 2 ^ (ji3).toNat) = ji5 := shr_small hji5
    replace H := bd H
    obtain ⟨t376, A6, H⟩ := H
    have H' := Aside0.mk H
    clear H
    go_wp2_with (((with_reducible refine gate_callee (f := 107) rfl ?_); refine gL 14 Tryz.func107 #[.int .u64 ji5] ?_; (with_reducible refine (bits_half.calls k1 ji5 t376 _ A6.out).mono ?_); rintro e w' ⟨rfl, ⟨nd, rfl⟩⟩; refine ⟨_, rfl, ?_⟩))
    go_roundg k1
    case measure => have := HK1.out; omega
    case rel => exact ⟨(wrap64 (x3_1 + t376)), (wrap64 (x5_1 + 1)), (by rfl), (by rfl), (by exact H'), ⟨by have := HK1.out; omega⟩, by repeat (first | exact Drawn0.refl _ | apply Drawn0.step)⟩
   ·obtain rfl := Option.some.inj H
    go_wp2
    go_ret
    exact ⟨by rfl, by repeat (first | exact Drawn0.refl _ | apply Drawn0.step)⟩
/-! ### words_Count: function 51 -/
def words_Count.l0 : Nat → Int → List Int → Int → Int → Option (Int)
 | 0, _, _, _, _ => none
 | k + 1, x3, x8, x9, x10 => if x10 < x9 then (if 0 ≤ x10 then (if x10 < (x8.length : Int) then ((bits_Ones.f k (rd x8 x10)).bind fun t379 => (words_Count.l0 k (wrap64 (x3 + t379)) x8 x9 (wrap64 (x10 + 1)))) else (none)) else (none)) else (some x3)
def words_Count.f (k : Nat) (l0 : List Int) : Option (Int) := (words_May.f l0).bind fun t377 => (if t377 = true then (words_Count.l0 k 0 l0 (l0.length : Int) 0) else (some 0))
theorem words_Count.l0_succ (k) (a0) (a1) (a2) (a3) : type_of% (@words_Count.l0.eq_2 a0 a1 a2 a3 k) := words_Count.l0.eq_2 a0 a1 a2 a3 k
theorem words_Count.mono_l : ∀ k, (∀ y0 y1 y2 y3, LeO (words_Count.l0 k y0 y1 y2 y3) (words_Count.l0 (k + 1) y0 y1 y2 y3))
 | 0 => fun _ _ _ _ r h => by simp [words_Count.l0] at h
 | k + 1 => by
  have ih0 := words_Count.mono_l k
  ·intro y0 y1 y2 y3
   unfold words_Count.l0
   repeat' first | (with_reducible exact ih0 _ _ _ _) | (with_reducible exact bits_Ones.mono _ _) | (with_reducible exact LeO.refl _) | (with_reducible refine LeO.ite ?_ ?_) | (with_reducible refine LeO.bind ?_ (fun _ => ?_))
theorem words_Count.mono : ∀ a0 k, LeO (words_Count.f k a0) (words_Count.f (k + 1) a0) := by
 intro a0 k
 have ih0 := words_Count.mono_l k
 unfold words_Count.f
 repeat' first | (with_reducible exact ih0 _ _ _ _) | (with_reducible exact LeO.refl _) | (with_reducible refine LeO.ite ?_ ?_) | (with_reducible refine LeO.bind ?_ (fun _ => ?_))
set_option maxHeartbeats 8000000 in
set_option maxRecDepth 100000 in
theorem words_Count.calls (k : Nat) (A0 : Option Addr) (c0 : Nat) (l0 : List Int) (r : Int) (w : World) (hr0 : Kd.C (Kd.int .i64) w A0 l0.length l0) (hc0 : l0.length ≤ c0) (h : words_Count.f k l0 = some r) :
  Calls Tryz.prog 51 #[.slice A0 l0.length c0] w fun e w' => e = .returned (.int .i64 r) ∧ Drawn0 w w' := by
 have HR0 := Aside0.mk hr0
 have HC0 := Aside0.mk hc0
 clear hr0 hc0
 have H := h
 clear h
 unfold words_Count.f at H
 replace H := bd H
 obtain ⟨t377, A2, H⟩ := H
 replace H := ifb H
 rcases H with ⟨rfl, H⟩ | ⟨rfl, H⟩
 ·have H' := Aside0.mk H
  clear H
  go_enter Tryz.func51, Tryz.ntmps51
  go_wp2_with (((with_reducible refine gate_callee (f := 80) rfl ?_); refine gL 7 Tryz.func80 #[.slice A0 l0.length c0] ?_; (with_reducible refine (words_May.calls _ _ l0 true _ ?side1 ?side2 A2.out).mono ?_); (case side1 => exact cx HR0.out); (case side2 => exact HC0.out); rintro e w' ⟨rfl, ⟨nd, rfl⟩⟩; refine ⟨_, rfl, ?_⟩))
  go_loopg [3, 10] k (fun kq v3 v10 w' => ∃ (x3_1 : Int) (x10_1 : Int), v3 = .int .i64 x3_1 ∧ v10 = .int .i64 x10_1 ∧ Aside0 (words_Count.l0 kq x3_1 l0 (l0.length : Int) x10_1 = some r) ∧ Aside0 (kq ≤ k) ∧ Drawn0 w w')
  case atStart => exact ⟨(0), (0), (by rfl), (by rfl), H', ⟨Nat.le_refl _⟩, by repeat (first | exact Drawn0.refl _ | apply Drawn0.step)⟩
  case round =>
   clear H'
   obtain ⟨x3_1, x10_1, rfl, rfl, HA, HK1, ⟨m1, rfl⟩⟩ := hrel
   cases gk with
   | zero => exact absurd HA.out (by simp [words_Count.l0])
   | succ k1 =>
    have H := HA.out
    clear HA
    simp only [words_Count.l0] at H
    replace H := ifd H
    rcases H with ⟨-, c4b0, H⟩ | ⟨-, c4b0, H⟩
    ·replace H := ifn H
     obtain ⟨-, c5b0, H⟩ := H
     replace H := ifn H
     obtain ⟨-, c6b0, H⟩ := H
     replace H := bd H
     obtain ⟨t379, A7, H⟩ := H
     have H' := Aside0.mk H
     clear H
     have p378 : 0 ≤ (x10_1 : Int) := ad
     have q378 : x10_1 < (l0.length : Int) := ad
     obtain ⟨ad378, e378, hx378_0⟩ := Kd.at_int HR0.out x10_1 p378 q378
     cases e378
     replace p378 := eq_true p378
     replace q378 := eq_true q378
     go_wp2_with (((with_reducible refine gate_callee (f := 81) rfl ?_); refine gL 16 Tryz.func81 #[.int .i64 (rd l0 x10_1)] ?_; (with_reducible refine (bits_Ones.calls k1 (rd l0 x10_1) t379 _ A7.out).mono ?_); rintro e w' ⟨rfl, ⟨nd, rfl⟩⟩; refine ⟨_, rfl, ?_⟩))
     go_roundg k1
     case measure => have := HK1.out; omega
     case rel => exact ⟨(wrap64 (x3_1 + t379)), (wrap64 (x10_1 + 1)), (by rfl), (by rfl), H', ⟨by have := HK1.out; omega⟩, by repeat (first | exact Drawn0.refl _ | apply Drawn0.step)⟩
    ·obtain rfl := Option.some.inj H
     go_wp2
     go_ret
     exact ⟨by rfl, by repeat (first | exact Drawn0.refl _ | apply Drawn0.step)⟩
 ·obtain rfl := Option.some.inj H
  go_enter Tryz.func51, Tryz.ntmps51
  go_wp2_with (((with_reducible refine gate_callee (f := 80) rfl ?_); refine gL 7 Tryz.func80 #[.slice A0 l0.length c0] ?_; (with_reducible refine (words_May.calls _ _ l0 false _ ?side1 ?side2 A2.out).mono ?_); (case side1 => exact cx HR0.out); (case side2 => exact HC0.out); rintro e w' ⟨rfl, ⟨nd, rfl⟩⟩; refine ⟨_, rfl, ?_⟩))
  go_ret
  exact ⟨by rfl, by repeat (first | exact Drawn0.refl _ | apply Drawn0.step)⟩
end Go.Proofs.YtjgmdjieandemaaGreat.Print
end
section
namespace Go.Proofs.YtjgmdjieandemaaGreat.Print
open Go.RowKit Go.Proofs.YtjgmdjieandemaaGreatW.PrintWords Go.Proofs.YtjgmdjieandemaaGreatW.PrintLast Go.Proofs.YtjgmdjieandemaaGreatW.PrintMore
attribute [local go_sem] max2_int min2_int max_two min_two max_three min_three max_four min_four   -- for this text's walks alone
set_option linter.unusedVariables false
set_option linter.unusedSimpArgs false
/-! ### words_Pick: function 66 -/
mutual
def words_Pick.l0 : Nat → List Int → Int → Int → Int → Int → Option (Int × Int)
 | 0, _, _, _, _, _ => none
 | k + 1, x31, x32, x33, x381000, x384000 => if x33 < x32 then (if 0 ≤ x33 then (if x33 < (x31.length : Int) then ((bits_Next.f k (rd x31 x33) 0).bind fun t385 => (words_Pick.l1 k x33 (rd x31 x33) t385 x31 x32 x33 x381000 x384000)) else (none)) else (none)) else (some (x384000, 0))
def words_Pick.l1 : Nat → Int → Int → Int → List Int → Int → Int → Int → Int → Option (Int × Int)
 | 0, _, _, _, _, _, _, _, _ => none
 | k + 1, x28, x29, x30, x31, x32, x33, x381000, x384000 => if x30 ≥ 0 then (if ((wrap64 (x381000 - 1)) ≥ 0) then ((bits_Next.f k x29 (wrap64 (x30 + 1))).bind fun t386 => (words_Pick.l1 k x28 x29 t386 x31 x32 x33 (wrap64 (x381000 - 1)) (wrap64 ((wrap64 (64 * x28)) + x30)))) else (some (wrap64 ((wrap64 (64 * x28)) + x30), 0))) else (words_Pick.l0 k x31 x32 (wrap64 (x33 + 1)) x381000 x384000)
end
def words_Pick.f (k : Nat) (l0 : List Int) (a1 : Int) : Option (Int × Int) := (words_May.f l0).bind fun t381 => (if t381 = true then (if a1 < 0 then (some (0, 3)) else ((words_Count.f k l0).bind fun t382 => (if a1 ≥ t382 then (some (0, 3)) else (words_Pick.l0 k l0 (l0.length : Int) 0 a1 0)))) else (some (0, 1)))
theorem words_Pick.l0_succ (k) (a0) (a1) (a2) (a3) (a4) : type_of% (@words_Pick.l0.eq_2 a0 a1 a2 a3 a4 k) := words_Pick.l0.eq_2 a0 a1 a2 a3 a4 k
theorem words_Pick.l1_succ (k) (a0) (a1) (a2) (a3) (a4) (a5) (a6) (a7) : type_of% (@words_Pick.l1.eq_2 a0 a1 a2 a3 a4 a5 a6 a7 k) := words_Pick.l1.eq_2 a0 a1 a2 a3 a4 a5 a6 a7 k
theorem words_Pick.mono_l : ∀ k, (∀ y0 y1 y2 y3 y4, LeO (words_Pick.l0 k y0 y1 y2 y3 y4) (words_Pick.l0 (k + 1) y0 y1 y2 y3 y4)) ∧ (∀ y0 y1 y2 y3 y4 y5 y6 y7, LeO (words_Pick.l1 k y0 y1 y2 y3 y4 y5 y6 y7) (words_Pick.l1 (k + 1) y0 y1 y2 y3 y4 y5 y6 y7))
 | 0 => ⟨fun _ _ _ _ _ r h => by simp [words_Pick.l0] at h, fun _ _ _ _ _ _ _ _ r h => by simp [words_Pick.l1] at h⟩
 | k + 1 => by
  obtain ⟨ih0, ih1⟩ := words_Pick.mono_l k
  refine ⟨?_, ?_⟩
  ·intro y0 y1 y2 y3 y4
   unfold words_Pick.l0
   repeat' first | (with_reducible exact ih1 _ _ _ _ _ _ _ _) | (with_reducible exact bits_Next.mono _ _ _) | (with_reducible exact LeO.refl _) | (with_reducible refine LeO.ite ?_ ?_) | (with_reducible refine LeO.bind ?_ (fun _ => ?_))
  ·intro y0 y1 y2 y3 y4 y5 y6 y7
   unfold words_Pick.l1
   repeat' first | (with_reducible exact ih0 _ _ _ _ _) | (with_reducible exact ih1 _ _ _ _ _ _ _ _) | (with_reducible exact bits_Next.mono _ _ _) | (with_reducible exact LeO.refl _) | (with_reducible refine LeO.ite ?_ ?_) | (with_reducible refine LeO.bind ?_ (fun _ => ?_))
theorem words_Pick.mono : ∀ a0 a1 k, LeO (words_Pick.f k a0 a1) (words_Pick.f (k + 1) a0 a1) := by
 intro a0 a1 k
 obtain ⟨ih0, ih1⟩ := words_Pick.mono_l k
 unfold words_Pick.f
 repeat' first | (with_reducible exact ih0 _ _ _ _ _) | (with_reducible exact words_Count.mono _ _) | (with_reducible exact LeO.refl _) | (with_reducible refine LeO.ite ?_ ?_) | (with_reducible refine LeO.bind ?_ (fun _ => ?_))
set_option maxHeartbeats 8000000 in
set_option maxRecDepth 100000 in
theorem words_Pick.calls (k : Nat) (A0 : Option Addr) (c0 : Nat) (l0 : List Int) (a1 : Int) (r1 : Int) (r2 : Int) (w : World) (hr0 : Kd.C (Kd.int .i64) w A0 l0.length l0) (hc0 : l0.length ≤ c0) (h : words_Pick.f k l0 a1 = some (r1, r2)) :
  Calls Tryz.prog 66 #[.slice A0 l0.length c0, .int .i64 a1] w fun e w' => e = .returned (.tuple #[.int .i64 r1, .int .i64 r2]) ∧ Below w.heap.size w w' := by
 have hmf : ∀ (fn : Fn) (first cap : Array Value) (w : World), (Instr.makeFunc fn first cap).run Tryz.prog w = .ok (.func fn first cap) w := fun _ _ _ _ => rfl
 have HR0 := Aside0.mk hr0
 have HC0 := Aside0.mk hc0
 clear hr0 hc0
 have HB := Aside0.mk (Below.refl w.heap.size w)
 have H := h
 clear h
 unfold words_Pick.f at H
 replace H := bd H
 obtain ⟨t381, A3, H⟩ := H
 replace H := ifb H
 rcases H with ⟨rfl, H⟩ | ⟨rfl, H⟩
 ·replace H := ifd H
  rcases H with ⟨-, c5b0, H⟩ | ⟨-, c5b0, H⟩
  ·simp only [Option.some.injEq, Prod.mk.injEq] at H
   obtain ⟨rfl, rfl⟩ := H
   go_enter Tryz.func66, Tryz.ntmps66
   go_wp2_with (first | ((with_reducible refine gate_dst (N := 3) rfl ?_); refine boxE HB 3 3 #[.int .i64 a1] ?_; clear HB; intro gb380 w6 BK380 GW380 hg hb HB; have GE380 := GW380; clear hb hg) | (go_at_call 80; (with_reducible refine (words_May.calls _ _ l0 true _ ?side1 ?side2 A3.out).mono ?_); (case side1 => exact cx (Kd.C_below HR0.out HB.out)); (case side2 => exact HC0.out); rintro e w' ⟨rfl, ⟨nd, rfl⟩⟩; obtain ⟨hcz7_0, hfz7_0⟩ := b1 BK380))
   repeat ((fail))
   repeat (go_quiet (fail); go_wp2_with (fail))
   go_ret2
   exact ⟨er, bh HB.out⟩
  ·replace H := bd H
   obtain ⟨t382, A8, H⟩ := H
   replace H := ifd H
   rcases H with ⟨-, c9b0, H⟩ | ⟨-, c9b0, H⟩
   ·simp only [Option.some.injEq, Prod.mk.injEq] at H
    obtain ⟨rfl, rfl⟩ := H
    go_enter Tryz.func66, Tryz.ntmps66
    go_wp2_with (first | ((with_reducible refine gate_dst (N := 3) rfl ?_); refine boxE HB 3 3 #[.int .i64 a1] ?_; clear HB; intro gb380 w10 BK380 GW380 hg hb HB; have GE380 := GW380; clear hb hg) | (go_at_call 80; (with_reducible refine (words_May.calls _ _ l0 true _ ?side1 ?side2 A3.out).mono ?_); (case side1 => exact cx (Kd.C_below HR0.out HB.out)); (case side2 => exact HC0.out); rintro e w' ⟨rfl, ⟨nd, rfl⟩⟩; obtain ⟨hcz11_0, hfz11_0⟩ := b1 BK380))
    repeat ((fail))
    repeat (go_quiet ((go_at_call 51; (with_reducible refine (words_Count.calls k _ _ l0 t382 _ ?side1 ?side2 A8.out).mono ?_); (case side1 => repeat (exact (Kd.C_below HR0.out (bh HB.out)))); (case side2 => exact HC0.out); rintro e w' ⟨rfl, ⟨nd, rfl⟩⟩; (exact ⟨rfl, _, Eq.trans (World.drewN_drewN _ _ _) (congrArg (World.drewN _) (Nat.add_assoc _ _ _))⟩))); go_wp2_with (fail))
    go_ret2
    exact ⟨er, bh HB.out⟩
   ·have H' := Aside0.mk H
    clear H
    go_enter Tryz.func66, Tryz.ntmps66
    go_wp2_with (first | ((with_reducible refine gate_dst (N := 3) rfl ?_); refine boxE HB 3 3 #[.int .i64 a1] ?_; clear HB; intro gb380 w12 BK380 GW380 hg hb HB; have GE380 := GW380; clear hb hg) | (go_at_call 80; (with_reducible refine (words_May.calls _ _ l0 true _ ?side1 ?side2 A3.out).mono ?_); (case side1 => exact cx (Kd.C_below HR0.out HB.out)); (case side2 => exact HC0.out); rintro e w' ⟨rfl, ⟨nd, rfl⟩⟩; obtain ⟨hcz13_0, hfz13_0⟩ := b1 BK380))
    repeat ((fail))
    repeat (go_quiet ((go_at_call 51; (with_reducible refine (words_Count.calls k _ _ l0 t382 _ ?side1 ?side2 A8.out).mono ?_); (case side1 => repeat (exact (Kd.C_below HR0.out (bh HB.out)))); (case side2 => exact HC0.out); rintro e w' ⟨rfl, ⟨nd, rfl⟩⟩; (exact ⟨rfl, _, Eq.trans (World.drewN_drewN _ _ _) (congrArg (World.drewN _) (Nat.add_assoc _ _ _))⟩))); go_wp2_with (first | ((with_reducible refine gate_dst (N := 6) rfl ?_); refine boxE HB 6 3 #[.int .i64 0] ?_; clear HB; intro gb383 w14 BK383 GW383 hg hb HB; have GE383 := GW383; have NB380_383 := bna BK380 hg; have NB383_380 := bma BK380 hg; replace BK380 := bba BK380 hb; clear hb hg; have hnb15 := NB383_380.out; have hnc15 := NB380_383.out; obtain ⟨hcz16_0, hfz16_0⟩ := b1 BK383) | go_in))
    go_loopg [9] k (fun kq v33 w' => ∃ (x33_1 : Int) (x381000_1 : Int) (x384000_1 : Int), v33 = .int .i64 x33_1 ∧ Aside0 (words_Pick.l0 kq l0 (l0.length : Int) x33_1 x381000_1 x384000_1 = some (r1, r2)) ∧ Aside0 (kq ≤ k) ∧ Aside0 (w'.heap[gb380]? = some (.cells #[.int .i64 x381000_1] 3 (0, 0))) ∧ Aside0 (w'.heap[gb383]? = some (.cells #[.int .i64 x384000_1] 3 (0, 0))) ∧ Aside0 (Below w.heap.size w w'))
    case atStart => exact ⟨(0), (a1), (0), (by rfl), H', ⟨Nat.le_refl _⟩, ⟨bx BK380.out⟩, ⟨by refine blk_put (cs := #[.int .i64 0]) ?_ 0 _ rfl; exact BK383.out⟩, ⟨bh HB.out⟩⟩
    case round =>
     clear H' c5b0 c9b0 hcz13_0 hcz16_0 hfz13_0 hfz16_0
     obtain ⟨x33_1, x381000_1, x384000_1, rfl, HA, HK1, BK380, BK383, HB⟩ := hrel
     cases gk with
     | zero => exact absurd HA.out (by simp [words_Pick.l0])
     | succ k1 =>
      have H := HA.out
      clear HA
      simp only [words_Pick.l0] at H
      replace H := ifd H
      rcases H with ⟨-, c17b0, H⟩ | ⟨-, c17b0, H⟩
      ·replace H := ifn H
       obtain ⟨-, c18b0, H⟩ := H
       replace H := ifn H
       obtain ⟨-, c19b0, H⟩ := H
       replace H := bd H
       obtain ⟨t385, A20, H⟩ := H
       have H' := Aside0.mk H
       clear H
       have p384 : 0 ≤ (x33_1 : Int) := ad
       have q384 : x33_1 < (l0.length : Int) := ad
       obtain ⟨ad384, e384, hx384_0⟩ := Kd.at_int HR0.out x33_1 p384 q384
       cases e384
       replace hx384_0 := cb HB.out.cell hx384_0
       replace p384 := eq_true p384
       replace q384 := eq_true q384
       go_wp2_with ((go_at_call 94; (with_reducible refine (bits_Next.calls k1 (rd l0 x33_1) 0 t385 _ A20.out).mono ?_); rintro e w21 ⟨rfl, hb⟩; replace BK380 := bba BK380 hb; replace BK383 := bba BK383 hb; replace HB := bsa HB hb; clear hb))
       repeat ((fail))
       repeat (go_quiet (fail))
       go_loopg [6] k1 (fun kq v30 w' => ∃ (x30_2 : Int) (x381000_2 : Int) (x384000_2 : Int), v30 = .int .i64 x30_2 ∧ Aside0 (words_Pick.l1 kq x33_1 (rd l0 x33_1) x30_2 l0 (l0.length : Int) x33_1 x381000_2 x384000_2 = some (r1, r2)) ∧ Aside0 (kq ≤ k1) ∧ Aside0 (w'.heap[gb380]? = some (.cells #[.int .i64 x381000_2] 3 (0, 0))) ∧ Aside0 (w'.heap[gb383]? = some (.cells #[.int .i64 x384000_2] 3 (0, 0))) ∧ Aside0 (Below w.heap.size w w'))
       case atStart => exact ⟨(t385), (x381000_1), (x384000_1), (by rfl), H', ⟨Nat.le_refl _⟩, ⟨bx BK380.out⟩, ⟨bx BK383.out⟩, ⟨bh HB.out⟩⟩
       case round =>
        clear H' c17b0 c18b0 c19b0 hx384_0 p384 q384
        obtain ⟨x30_2, x381000_2, x384000_2, rfl, HA, HK2, BK380, BK383, HB⟩ := hrel
        cases gk with
        | zero => exact absurd HA.out (by simp [words_Pick.l1])
        | succ k2 =>
         have H := HA.out
         clear HA
         simp only [words_Pick.l1] at H
         replace H := ifd H
         rcases H with ⟨-, c22b0, H⟩ | ⟨-, c22b0, H⟩
         ·replace H := ifd H
          rcases H with ⟨-, c23b0, H⟩ | ⟨-, c23b0, H⟩
          ·replace H := bd H
           obtain ⟨t386, A24, H⟩ := H
           have H' := Aside0.mk H
           clear H
           have hnb25 := NB383_380.out
           have hnc25 := NB380_383.out
           obtain ⟨hcz26_0, hfz26_0⟩ := b1 BK383
           obtain ⟨hcz27_0, hfz27_0⟩ := b1 BK380
           go_wp2_with (first | (go_at_call 94; (with_reducible refine (bits_Next.calls k2 (rd l0 x33_1) (wrap64 (x30_2 + 1)) t386 _ A24.out).mono ?_); rintro e w28 ⟨rfl, hb⟩; replace BK380 := Aside0.mk (blk_below (g := gb380) (o := .cells #[.int .i64 (wrap64 (x381000_2 - 1))] 3 (0, 0)) (by refine blk_put (cs := #[.int .i64 x381000_2]) ?_ 0 _ rfl; refine blk_far ?_ NB380_383.out _; exact BK380.out) hb); replace BK383 := Aside0.mk (blk_below (g := gb383) (o := .cells #[.int .i64 (wrap64 ((wrap64 (64 * x33_1)) + x30_2))] 3 (0, 0)) (by refine blk_far ?_ NB383_380.out _; refine blk_put (cs := #[.int .i64 x384000_2]) ?_ 0 _ rfl; exact BK383.out) hb); replace HB := bsa HB hb; clear hb) | go_in)
           repeat ((fail))
           repeat (go_quiet (fail))
           go_roundg k2
           case measure => have := HK1.out; have := HK2.out; omega
           case rel => exact ⟨(t386), (wrap64 (x381000_2 - 1)), (wrap64 ((wrap64 (64 * x33_1)) + x30_2)), (by rfl), H', ⟨by have := HK1.out; have := HK2.out; omega⟩, ⟨bx BK380.out⟩, ⟨bx BK383.out⟩, ⟨bh HB.out⟩⟩
          ·simp only [Option.some.injEq, Prod.mk.injEq] at H
           obtain ⟨rfl, rfl⟩ := H
           have hnb29 := NB383_380.out
           have hnc29 := NB380_383.out
           obtain ⟨hcz30_0, hfz30_0⟩ := b1 BK383
           obtain ⟨hcz31_0, hfz31_0⟩ := b1 BK380
           go_wp2
           repeat (((refine bodyPost_ret (results_none rfl _ _ _) rfl ?_)); go_wp2)
           repeat (go_quiet (go_in))
           go_ret2
           exact ⟨er, bh HB.out⟩
         ·have H' := Aside0.mk H
          clear H
          go_wp2
          repeat (go_quiet (go_in))
          go_roundg k2
          case measure => have := HK1.out; have := HK2.out; omega
          case rel => exact ⟨(wrap64 (x33_1 + 1)), (x381000_2), (x384000_2), (by rfl), H', ⟨by have := HK1.out; have := HK2.out; omega⟩, ⟨bx BK380.out⟩, ⟨bx BK383.out⟩, ⟨bh HB.out⟩⟩
      ·simp only [Option.some.injEq, Prod.mk.injEq] at H
       obtain ⟨rfl, rfl⟩ := H
       have hnb32 := NB383_380.out
       have hnc32 := NB380_383.out
       obtain ⟨hcz33_0, hfz33_0⟩ := b1 BK383
       go_wp2
       repeat ((go_end0); go_wp2)
       repeat (go_quiet (go_in))
       go_ret2
       exact ⟨er, bh HB.out⟩
 ·simp only [Option.some.injEq, Prod.mk.injEq] at H
  obtain ⟨rfl, rfl⟩ := H
  go_enter Tryz.func66, Tryz.ntmps66
  go_wp2_with (first | ((with_reducible refine gate_dst (N := 3) rfl ?_); refine boxE HB 3 3 #[.int .i64 a1] ?_; clear HB; intro gb380 w34 BK380 GW380 hg hb HB; have GE380 := GW380; clear hb hg) | (go_at_call 80; (with_reducible refine (words_May.calls _ _ l0 false _ ?side1 ?side2 A3.out).mono ?_); (case side1 => exact cx (Kd.C_below HR0.out HB.out)); (case side2 => exact HC0.out); rintro e w' ⟨rfl, ⟨nd, rfl⟩⟩))
  repeat ((fail))
  repeat (go_quiet (fail))
  go_ret2
  exact ⟨er, bh HB.out⟩
/-! ### span_Pick: function 67 -/
def span_Pick.l0 : Nat → Int → List (S64) → Int → Int → Option (Int × Int)
 | 0, _, _, _, _ => none
 | k + 1, x1, x14, x15, x16 => if x16 < x15 then (if 0 ≤ x16 then (if x16 < (x14.length : Int) then (if x1 ≥ (wrap64 (((rd_T64 x14 x16).f1) - ((rd_T64 x14 x16).f0))) then (span_Pick.l0 k (wrap64 (x1 - (wrap64 (((rd_T64 x14 x16).f1) - ((rd_T64 x14 x16).f0))))) x14 x15 (wrap64 (x16 + 1))) else (some (wrap64 (((rd_T64 x14 x16).f0) + x1), 0))) else (none)) else (none)) else (some (0, 3))
def span_Pick.f (k : Nat) (l0 : List (S64)) (a1 : Int) : Option (Int × Int) := (span_May.f k l0).bind fun t387 => (if t387 = true then (if a1 < 0 then (some (0, 3)) else (span_Pick.l0 k a1 l0 (l0.length : Int) 0)) else (some (0, 1)))
theorem span_Pick.l0_succ (k) (a0) (a1) (a2) (a3) : type_of% (@span_Pick.l0.eq_2 a0 a1 a2 a3 k) := span_Pick.l0.eq_2 a0 a1 a2 a3 k
theorem span_Pick.mono_l : ∀ k, (∀ y0 y1 y2 y3, LeO (span_Pick.l0 k y0 y1 y2 y3) (span_Pick.l0 (k + 1) y0 y1 y2 y3))
 | 0 => fun _ _ _ _ r h => by simp [span_Pick.l0] at h
 | k + 1 => by
  have ih0 := span_Pick.mono_l k
  ·intro y0 y1 y2 y3
   unfold span_Pick.l0
   repeat' first | (with_reducible exact ih0 _ _ _ _) | (with_reducible exact LeO.refl _) | (with_reducible refine LeO.ite ?_ ?_)
theorem span_Pick.mono : ∀ a0 a1 k, LeO (span_Pick.f k a0 a1) (span_Pick.f (k + 1) a0 a1) := by
 intro a0 a1 k
 have ih0 := span_Pick.mono_l k
 unfold span_Pick.f
 repeat' first | (with_reducible exact ih0 _ _ _ _) | (with_reducible exact span_May.mono _ _) | (with_reducible exact LeO.refl _) | (with_reducible refine LeO.ite ?_ ?_) | (with_reducible refine LeO.bind ?_ (fun _ => ?_))
set_option maxHeartbeats 8000000 in
set_option maxRecDepth 100000 in
theorem span_Pick.calls (k : Nat) (A0 : Option Addr) (c0 : Nat) (l0 : List (S64)) (a1 : Int) (r1 : Int) (r2 : Int) (w : World) (hr0 : Kd.C k64 w A0 l0.length l0) (hc0 : l0.length ≤ c0) (h : span_Pick.f k l0 a1 = some (r1, r2)) :
  Calls Tryz.prog 67 #[.slice A0 l0.length c0, .int .i64 a1] w fun e w' => e = .returned (.tuple #[.int .i64 r1, .int .i64 r2]) ∧ Below w.heap.size w w' := by
 have hu64 := Tryz.underlying64
 have HR0 := Aside0.mk hr0
 have HC0 := Aside0.mk hc0
 clear hr0 hc0
 have HB := Aside0.mk (Below.refl w.heap.size w)
 have H := h
 clear h
 unfold span_Pick.f at H
 replace H := bd H
 obtain ⟨t387, A3, H⟩ := H
 replace H := ifb H
 rcases H with ⟨rfl, H⟩ | ⟨rfl, H⟩
 ·replace H := ifd H
  rcases H with ⟨-, c5b0, H⟩ | ⟨-, c5b0, H⟩
  ·simp only [Option.some.injEq, Prod.mk.injEq] at H
   obtain ⟨rfl, rfl⟩ := H
   go_enter Tryz.func67, Tryz.ntmps67
   go_wp2_with (((with_reducible refine gate_callee (f := 41) rfl ?_); refine gL 10 Tryz.func41 #[.slice A0 l0.length c0] ?_; (with_reducible refine (span_May.calls k _ _ l0 true _ ?side1 ?side2 A3.out).mono ?_); (case side1 => exact cx HR0.out); (case side2 => exact HC0.out); rintro e w6 ⟨rfl, hb⟩; refine ⟨_, rfl, ?_⟩; replace HB := bsa HB hb; clear hb))
   go_ret2
   exact ⟨er, bh HB.out⟩
  ·have H' := Aside0.mk H
   clear H
   go_enter Tryz.func67, Tryz.ntmps67
   go_wp2_with (((with_reducible refine gate_callee (f := 41) rfl ?_); refine gL 10 Tryz.func41 #[.slice A0 l0.length c0] ?_; (with_reducible refine (span_May.calls k _ _ l0 true _ ?side1 ?side2 A3.out).mono ?_); (case side1 => exact cx HR0.out); (case side2 => exact HC0.out); rintro e w7 ⟨rfl, hb⟩; refine ⟨_, rfl, ?_⟩; replace HB := bsa HB hb; clear hb))
   go_loopg [1, 16] k (fun kq v1 v16 w' => ∃ (x1_1 : Int) (x16_1 : Int), v1 = .int .i64 x1_1 ∧ v16 = .int .i64 x16_1 ∧ Aside0 (span_Pick.l0 kq x1_1 l0 (l0.length : Int) x16_1 = some (r1, r2)) ∧ Aside0 (kq ≤ k) ∧ Aside0 (Below w.heap.size w w'))
   case atStart => exact ⟨(a1), (0), (by rfl), (by rfl), H', ⟨Nat.le_refl _⟩, ⟨bh HB.out⟩⟩
   case round =>
    clear H' c5b0
    obtain ⟨x1_1, x16_1, rfl, rfl, HA, HK1, HB⟩ := hrel
    cases gk with
    | zero => exact absurd HA.out (by simp [span_Pick.l0])
    | succ k1 =>
     have H := HA.out
     clear HA
     simp only [span_Pick.l0] at H
     replace H := ifd H
     rcases H with ⟨-, c8b0, H⟩ | ⟨-, c8b0, H⟩
     ·replace H := ifn H
      obtain ⟨-, c9b0, H⟩ := H
      replace H := ifn H
      obtain ⟨-, c10b0, H⟩ := H
      replace H := ifd H
      rcases H with ⟨-, c11b0, H⟩ | ⟨-, c11b0, H⟩
      ·have H' := Aside0.mk H
       clear H
       have p388 : 0 ≤ (x16_1 : Int) := ad
       have q388 : x16_1 < (l0.length : Int) := ad
       obtain ⟨ad388, e388, hx388_0, hx388_1⟩ := at_T64 HR0.out x16_1 p388 q388
       cases e388
       replace hx388_0 := cb HB.out.cell hx388_0
       replace hx388_1 := cb HB.out.cell hx388_1
       replace p388 := eq_true p388
       replace q388 := eq_true q388
       go_wp2_with (((with_reducible refine gate_dst (N := 7) rfl ?_); refine boxE HB 7 64 #[.int .i64 0, .int .i64 0] ?_; clear HB; intro gb389 w12 BK389 GW389 hg hb HB; have GE389 := GW389; clear hb hg; obtain ⟨hcz13_0, hcz13_1, hfz13_0, hfz13_1⟩ := b2 BK389))
       go_roundg k1
       case measure => have := HK1.out; omega
       case rel => exact ⟨(wrap64 (x1_1 - (wrap64 (((rd_T64 l0 x16_1).f1) - ((rd_T64 l0 x16_1).f0))))), (wrap64 (x16_1 + 1)), (by rfl), (by rfl), H', ⟨by have := HK1.out; omega⟩, ⟨bh HB.out⟩⟩
      ·simp only [Option.some.injEq, Prod.mk.injEq] at H
       obtain ⟨rfl, rfl⟩ := H
       have p388 : 0 ≤ (x16_1 : Int) := ad
       have q388 : x16_1 < (l0.length : Int) := ad
       obtain ⟨ad388, e388, hx388_0, hx388_1⟩ := at_T64 HR0.out x16_1 p388 q388
       cases e388
       replace hx388_0 := cb HB.out.cell hx388_0
       replace hx388_1 := cb HB.out.cell hx388_1
       replace p388 := eq_true p388
       replace q388 := eq_true q388
       go_wp2_with (((with_reducible refine gate_dst (N := 7) rfl ?_); refine boxE HB 7 64 #[.int .i64 0, .int .i64 0] ?_; clear HB; intro gb389 w14 BK389 GW389 hg hb HB; have GE389 := GW389; clear hb hg; obtain ⟨hcz15_0, hcz15_1, hfz15_0, hfz15_1⟩ := b2 BK389))
       go_ret2
       exact ⟨er, bh HB.out⟩
     ·simp only [Option.some.injEq, Prod.mk.injEq] at H
      obtain ⟨rfl, rfl⟩ := H
      go_wp2
      go_ret2
      exact ⟨er, bh HB.out⟩
 ·simp only [Option.some.injEq, Prod.mk.injEq] at H
  obtain ⟨rfl, rfl⟩ := H
  go_enter Tryz.func67, Tryz.ntmps67
  go_wp2_with (((with_reducible refine gate_callee (f := 41) rfl ?_); refine gL 10 Tryz.func41 #[.slice A0 l0.length c0] ?_; (with_reducible refine (span_May.calls k _ _ l0 false _ ?side1 ?side2 A3.out).mono ?_); (case side1 => exact cx HR0.out); (case side2 => exact HC0.out); rintro e w16 ⟨rfl, hb⟩; refine ⟨_, rfl, ?_⟩; replace HB := bsa HB hb; clear hb))
  go_ret2
  exact ⟨er, bh HB.out⟩
/-! ### poslist_List_Pick: function 31 -/
def poslist_List_Pick.f (k : Nat) (a0_0 : Int) (l0_1 : List (S64)) (l0_2 : List Int) (l0_3 : List Int) (a1 : Int) : Option (Int × Int) := if a0_0 = 2 then ((words_Pick.f k l0_2 a1).bind fun bt391 => (some (bt391.1, bt391.2))) else (if a0_0 = 3 then (if a1 < 0 then (some (0, 3)) else (if a1 ≥ (l0_3.length : Int) then (some (0, 3)) else (if 0 ≤ a1 then (if a1 < (l0_3.length : Int) then (some (rd l0_3 a1, 0)) else (none)) else (none)))) else ((span_Pick.f k l0_1 a1).bind fun bt394 => (some (bt394.1, bt394.2))))
theorem poslist_List_Pick.mono : ∀ a0 a1 a2 a3 a4 k, LeO (poslist_List_Pick.f k a0 a1 a2 a3 a4) (poslist_List_Pick.f (k + 1) a0 a1 a2 a3 a4) := by
 intro a0 a1 a2 a3 a4 k
 unfold poslist_List_Pick.f
 repeat' first | (with_reducible exact span_Pick.mono _ _ _) | (with_reducible exact words_Pick.mono _ _ _) | (with_reducible exact LeO.refl _) | (with_reducible refine LeO.ite ?_ ?_) | (with_reducible refine LeO.bind ?_ (fun _ => ?_))
set_option maxHeartbeats 8000000 in
set_option maxRecDepth 100000 in
theorem poslist_List_Pick.calls (k : Nat) (a0_0 : Int) (A0_1 : Option Addr) (c0_1 : Nat) (l0_1 : List (S64)) (A0_2 : Option Addr) (c0_2 : Nat) (l0_2 : List Int) (A0_3 : Option Addr) (c0_3 : Nat) (l0_3 : List Int) (a1 : Int) (r1 : Int) (r2 : Int) (w : World) (hr0_1 : Kd.C k64 w A0_1 l0_1.length l0_1) (hc0_1 : l0_1.length ≤ c0_1) (hr0_2 : Kd.C (Kd.int .i64) w A0_2 l0_2.length l0_2) (hc0_2 : l0_2.length ≤ c0_2) (hr0_3 : Kd.C (Kd.int .i64) w A0_3 l0_3.length l0_3) (hc0_3 : l0_3.length ≤ c0_3) (h : poslist_List_Pick.f k a0_0 l0_1 l0_2 l0_3 a1 = some (r1, r2)) :
  Calls Tryz.prog 31 #[.agg #[.int .i64 a0_0, .slice A0_1 l0_1.length c0_1, .slice A0_2 l0_2.length c0_2, .slice A0_3 l0_3.length c0_3], .int .i64 a1] w fun e w' => e = .returned (.tuple #[.int .i64 r1, .int .i64 r2]) ∧ Below w.heap.size w w' := by
 have hu27 := Tryz.underlying27
 have HR0_1 := Aside0.mk hr0_1
 have HC0_1 := Aside0.mk hc0_1
 clear hr0_1 hc0_1
 have HR0_2 := Aside0.mk hr0_2
 have HC0_2 := Aside0.mk hc0_2
 clear hr0_2 hc0_2
 have HR0_3 := Aside0.mk hr0_3
 have HC0_3 := Aside0.mk hc0_3
 clear hr0_3 hc0_3
 have HB := Aside0.mk (Below.refl w.heap.size w)
 have H := h
 clear h
 unfold poslist_List_Pick.f at H
 replace H := ife H
 rcases H with ⟨-, c3b0, c3b1, H⟩ | ⟨c3, c3b0, c3b1, H⟩
 ·replace H := bd H
  obtain ⟨⟨t391, t392⟩, A4, H⟩ := H
  dsimp only at H
  simp only [Option.some.injEq, Prod.mk.injEq] at H
  obtain ⟨rfl, rfl⟩ := H
  go_enter Tryz.func31, Tryz.ntmps31
  go_wp2_with (first | ((with_reducible refine gate_dst (N := 2) rfl ?_); ((refine gate_guard (by rfl) ?_; dsimp only)); refine boxE HB 2 27 #[.int .i64 a0_0, .slice A0_1 l0_1.length c0_1, .slice A0_2 l0_2.length c0_2, .slice A0_3 l0_3.length c0_3] ?_; clear HB; intro gb390 w5 BK390 GW390 hg hb HB; have GE390 := GW390; clear hb hg; obtain ⟨hcz6_0, hcz6_1, hcz6_2, hcz6_3, hfz6_0, hfz6_1, hfz6_2, hfz6_3⟩ := b4 BK390) | ((with_reducible refine gate_callee (f := 66) rfl ?_); refine gL 13 Tryz.func66 #[.slice A0_2 l0_2.length c0_2, .int .i64 a1] ?_; (with_reducible refine (words_Pick.calls k _ _ l0_2 a1 t391 t392 _ ?side1 ?side2 A4.out).mono ?_); (case side1 => exact cx (Kd.C_below HR0_2.out HB.out)); (case side2 => exact HC0_2.out); rintro e w7 ⟨rfl, hb⟩; refine ⟨_, rfl, ?_⟩; replace BK390 := bba BK390 hb; replace HB := bsa HB hb; clear hb))
  go_ret2
  exact ⟨er, bh HB.out⟩
 ·replace H := ife H
  rcases H with ⟨-, c8b0, c8b1, H⟩ | ⟨c8, c8b0, c8b1, H⟩
  ·replace H := ifd H
   rcases H with ⟨-, c9b0, H⟩ | ⟨-, c9b0, H⟩
   ·simp only [Option.some.injEq, Prod.mk.injEq] at H
    obtain ⟨rfl, rfl⟩ := H
    go_enter Tryz.func31, Tryz.ntmps31
    go_wp2_with (((with_reducible refine gate_dst (N := 2) rfl ?_); ((refine gate_guard (by rfl) ?_; dsimp only)); refine boxE HB 2 27 #[.int .i64 a0_0, .slice A0_1 l0_1.length c0_1, .slice A0_2 l0_2.length c0_2, .slice A0_3 l0_3.length c0_3] ?_; clear HB; intro gb390 w10 BK390 GW390 hg hb HB; have GE390 := GW390; clear hb hg; obtain ⟨hcz11_0, hcz11_1, hcz11_2, hcz11_3, hfz11_0, hfz11_1, hfz11_2, hfz11_3⟩ := b4 BK390))
    go_ret2
    exact ⟨er, bh HB.out⟩
   ·replace H := ifd H
    rcases H with ⟨-, c12b0, H⟩ | ⟨-, c12b0, H⟩
    ·simp only [Option.some.injEq, Prod.mk.injEq] at H
     obtain ⟨rfl, rfl⟩ := H
     go_enter Tryz.func31, Tryz.ntmps31
     go_wp2_with (((with_reducible refine gate_dst (N := 2) rfl ?_); ((refine gate_guard (by rfl) ?_; dsimp only)); refine boxE HB 2 27 #[.int .i64 a0_0, .slice A0_1 l0_1.length c0_1, .slice A0_2 l0_2.length c0_2, .slice A0_3 l0_3.length c0_3] ?_; clear HB; intro gb390 w13 BK390 GW390 hg hb HB; have GE390 := GW390; clear hb hg; obtain ⟨hcz14_0, hcz14_1, hcz14_2, hcz14_3, hfz14_0, hfz14_1, hfz14_2, hfz14_3⟩ := b4 BK390))
     go_ret2
     exact ⟨er, bh HB.out⟩
    ·replace H := ifn H
     obtain ⟨-, c15b0, H⟩ := H
     replace H := ifn H
     obtain ⟨-, c16b0, H⟩ := H
     simp only [Option.some.injEq, Prod.mk.injEq] at H
     obtain ⟨rfl, rfl⟩ := H
     go_enter Tryz.func31, Tryz.ntmps31
     go_wp2_with (((with_reducible refine gate_dst (N := 2) rfl ?_); ((refine gate_guard (by rfl) ?_; dsimp only)); refine boxE HB 2 27 #[.int .i64 a0_0, .slice A0_1 l0_1.length c0_1, .slice A0_2 l0_2.length c0_2, .slice A0_3 l0_3.length c0_3] ?_; clear HB; intro gb390 w17 BK390 GW390 hg hb HB; have GE390 := GW390; clear hb hg; obtain ⟨hcz18_0, hcz18_1, hcz18_2, hcz18_3, hfz18_0, hfz18_1, hfz18_2, hfz18_3⟩ := b4 BK390; have p393 : 0 ≤ (a1 : Int) := ad; have q393 : a1 < (l0_3.length : Int) := ad; obtain ⟨ad393, e393, hx393_0⟩ := Kd.at_int HR0_3.out a1 p393 q393; cases e393; replace hx393_0 := cb HB.out.cell hx393_0; replace p393 := eq_true p393; replace q393 := eq_true q393))
     go_ret2
     exact ⟨er, bh HB.out⟩
  ·replace H := bd H
   obtain ⟨⟨t394, t395⟩, A19, H⟩ := H
   dsimp only at H
   simp only [Option.some.injEq, Prod.mk.injEq] at H
   obtain ⟨rfl, rfl⟩ := H
   go_enter Tryz.func31, Tryz.ntmps31
   go_wp2_with (first | ((with_reducible refine gate_dst (N := 2) rfl ?_); ((refine gate_guard (by rfl) ?_; dsimp only)); refine boxE HB 2 27 #[.int .i64 a0_0, .slice A0_1 l0_1.length c0_1, .slice A0_2 l0_2.length c0_2, .slice A0_3 l0_3.length c0_3] ?_; clear HB; intro gb390 w20 BK390 GW390 hg hb HB; have GE390 := GW390; clear hb hg; obtain ⟨hcz21_0, hcz21_1, hcz21_2, hcz21_3, hfz21_0, hfz21_1, hfz21_2, hfz21_3⟩ := b4 BK390) | ((with_reducible refine gate_callee (f := 67) rfl ?_); refine gL 35 Tryz.func67 #[.slice A0_1 l0_1.length c0_1, .int .i64 a1] ?_; (with_reducible refine (span_Pick.calls k _ _ l0_1 a1 t394 t395 _ ?side1 ?side2 A19.out).mono ?_); (case side1 => exact cx (Kd.C_below HR0_1.out HB.out)); (case side2 => exact HC0_1.out); rintro e w22 ⟨rfl, hb⟩; refine ⟨_, rfl, ?_⟩; replace BK390 := bba BK390 hb; replace HB := bsa HB hb; clear hb))
   go_ret2
   exact ⟨er, bh HB.out⟩
/-! ### poslist_List_Form: function 28 -/
def poslist_List_Form.f (a0_0 : Int) (l0_1 : List (S64)) (l0_2 : List Int) (l0_3 : List Int) : Option (Int) := some (mx a0_0 1)
set_option maxHeartbeats 8000000 in
set_option maxRecDepth 100000 in
theorem poslist_List_Form.calls (a0_0 : Int) (A0_1 : Option Addr) (c0_1 : Nat) (l0_1 : List (S64)) (A0_2 : Option Addr) (c0_2 : Nat) (l0_2 : List Int) (A0_3 : Option Addr) (c0_3 : Nat) (l0_3 : List Int) (r : Int) (w : World) (hr0_1 : Kd.C k64 w A0_1 l0_1.length l0_1) (hc0_1 : l0_1.length ≤ c0_1) (hr0_2 : Kd.C (Kd.int .i64) w A0_2 l0_2.length l0_2) (hc0_2 : l0_2.length ≤ c0_2) (hr0_3 : Kd.C (Kd.int .i64) w A0_3 l0_3.length l0_3) (hc0_3 : l0_3.length ≤ c0_3) (h : poslist_List_Form.f a0_0 l0_1 l0_2 l0_3 = some r) :
  Calls Tryz.prog 28 #[.agg #[.int .i64 a0_0, .slice A0_1 l0_1.length c0_1, .slice A0_2 l0_2.length c0_2, .slice A0_3 l0_3.length c0_3]] w fun e w' => e = .returned (.int .i64 r) ∧ Below w.heap.size w w' := by
 have hu27 := Tryz.underlying27
 have HR0_1 := Aside0.mk hr0_1
 have HC0_1 := Aside0.mk hc0_1
 clear hr0_1 hc0_1
 have HR0_2 := Aside0.mk hr0_2
 have HC0_2 := Aside0.mk hc0_2
 clear hr0_2 hc0_2
 have HR0_3 := Aside0.mk hr0_3
 have HC0_3 := Aside0.mk hc0_3
 clear hr0_3 hc0_3
 have HB := Aside0.mk (Below.refl w.heap.size w)
 have H := h
 clear h
 unfold poslist_List_Form.f at H
 obtain ⟨ji2, hji2⟩ : ∃ j_ : Int, (mx a0_0 1) = j_ := ⟨_, rfl⟩
 replace H : (some ji2) = some r := by (rw [hji2] at H; exact H)
 ((have hji2l : 1 ≤ ji2 := by (rw [← hji2]; unfold mx; (repeat' split) <;> omega)))
 ((have hji2m : 0 ≤ ji2 := by omega))
 have hji2_ : (if a0_0 < 1 then 1 else a0_0) = ji2 := hji2
 obtain rfl := Option.some.inj H
 go_enter Tryz.func28, Tryz.ntmps28
 go_wp2_with (((with_reducible refine gate_dst (N := 1) rfl ?_); refine boxE HB 1 27 #[.int .i64 a0_0, .slice A0_1 l0_1.length c0_1, .slice A0_2 l0_2.length c0_2, .slice A0_3 l0_3.length c0_3] ?_; clear HB; intro gb396 w3 BK396 GW396 hg hb HB; have GE396 := GW396; clear hb hg; obtain ⟨hcz4_0, hcz4_1, hcz4_2, hcz4_3, hfz4_0, hfz4_1, hfz4_2, hfz4_3⟩ := b4 BK396))
 go_ret
 exact ⟨by rfl, bh HB.out⟩
/-! ### peristylelaw16_listed: function 29 (a contract of the session's own) -/
section
attribute [local go_sem] Oper.semAt_some
def peristylelaw16_listed.go : List Int → List Int → Option (List Int)
  | [], o => some o
  | x :: xs, o => if o.length < 1000000000000 then peristylelaw16_listed.go xs (o ++ [x]) else none
def peristylelaw16_listed.f (k : Nat) (a0_0 : Int) (l0_1 : List (S64)) (l0_2 : List Int) (l0_3 : List Int) : Option (List Int) := (poslist_List_Places.f k a0_0 l0_1 l0_2 l0_3).bind fun xs => peristylelaw16_listed.go xs []
theorem peristylelaw16_listed.go_snoc : ∀ (pre : List Int) (x : Int) (o : List Int), peristylelaw16_listed.go (pre ++ [x]) o = (peristylelaw16_listed.go pre o).bind fun o1 => if o1.length < 1000000000000 then some (o1 ++ [x]) else none := by
 intro pre
 induction pre with
 | nil => intro x o; rfl
 | cons y ys ih =>
   intro x o
   simp only [List.cons_append, peristylelaw16_listed.go]
   split
   ·exact ih x _
   ·rfl
theorem peristylelaw16_listed.go_pre : ∀ (pre rest : List Int) (o r : List Int), peristylelaw16_listed.go (pre ++ rest) o = some r → ∃ o1, peristylelaw16_listed.go pre o = some o1 := by
 intro pre
 induction pre with
 | nil => intro rest o r h; exact ⟨o, rfl⟩
 | cons y ys ih =>
   intro rest o r h
   simp only [List.cons_append, peristylelaw16_listed.go] at h ⊢
   by_cases hc : o.length < 1000000000000
   ·rw [if_pos hc] at h ⊢; exact ih rest _ r h
   ·rw [if_neg hc] at h; cases h
theorem peristylelaw16_listed.mono : ∀ a0 a1 a2 a3 k, LeO (peristylelaw16_listed.f k a0 a1 a2 a3) (peristylelaw16_listed.f (k + 1) a0 a1 a2 a3) :=
  fun a0 a1 a2 a3 k => LeO.bind (poslist_List_Places.mono _ _ _ _ _) (fun xs => LeO.refl _)
set_option maxHeartbeats 8000000 in
set_option maxRecDepth 100000 in
theorem peristylelaw16_listed.calls (k : Nat) (a0_0 : Int) (A0_1 : Option Addr) (c0_1 : Nat) (l0_1 : List (S64)) (A0_2 : Option Addr) (c0_2 : Nat) (l0_2 : List Int) (A0_3 : Option Addr) (c0_3 : Nat) (l0_3 : List Int) (o : List Int) (w : World) (hr0_1 : Kd.C k64 w A0_1 l0_1.length l0_1) (hc0_1 : l0_1.length ≤ c0_1) (hr0_2 : Kd.C (Kd.int .i64) w A0_2 l0_2.length l0_2) (hc0_2 : l0_2.length ≤ c0_2) (hr0_3 : Kd.C (Kd.int .i64) w A0_3 l0_3.length l0_3) (hc0_3 : l0_3.length ≤ c0_3) (h : peristylelaw16_listed.f k a0_0 l0_1 l0_2 l0_3 = some o) :
    Calls Tryz.prog 29 #[.agg #[.int .i64 a0_0, .slice A0_1 l0_1.length c0_1, .slice A0_2 l0_2.length c0_2, .slice A0_3 l0_3.length c0_3]] w fun e w' => ∃ v0_ : Value, e = .returned (v0_) ∧ Kd.R (Kd.int .i64) 3 w' w.heap.size (fun _ => True) v0_ o ∧ Below w.heap.size w w' := by
 have hu27 := Tryz.underlying27
 have HR0_1 := Aside0.mk hr0_1
 have HC0_1 := Aside0.mk hc0_1
 clear hr0_1 hc0_1
 have HR0_2 := Aside0.mk hr0_2
 have HC0_2 := Aside0.mk hc0_2
 clear hr0_2 hc0_2
 have HR0_3 := Aside0.mk hr0_3
 have HC0_3 := Aside0.mk hc0_3
 clear hr0_3 hc0_3
 have HB := Aside0.mk (Below.refl w.heap.size w)
 obtain ⟨xs, A3_, A4_⟩ := Option.bind_eq_some_iff.mp (show ((poslist_List_Places.f k a0_0 l0_1 l0_2 l0_3).bind fun xs => peristylelaw16_listed.go xs []) = some o from h)
 clear h
 have H3 := Aside0.mk A3_
 have H4 := Aside0.mk A4_
 clear A3_ A4_
 refine (callsIn_wide (n := 4)).1 ?_
 refine callsIn_of_wp_marks Tryz.func29 rfl trivial ?_ rfl
 simp only [Tryz.ntmps29, List.size_toArray, List.length_cons, List.length_nil, Nat.reduceAdd, Nat.reduceSub, Array.replicate_succ, Array.replicate_zero, List.push_toArray, List.append_toArray, List.nil_append, List.cons_append]
 refine wpIn_wide.2 ?_
 go_wp2_with (first | ((with_reducible refine gate_dst (N := 1) rfl ?_); refine box_event ?hg (N := 1) ?hd (cs := #[.int .i64 a0_0, .slice A0_1 l0_1.length c0_1, .slice A0_2 l0_2.length c0_2, .slice A0_3 l0_3.length c0_3]) (t := 27) ?hr ?_; (case hd => rfl); (case hg => rfl); (case hr => (go_simp; done)); intro gl hg w2 hbox hb; have n0_ := Aside0.mk (below_step HB.out hb); have n1_ := Aside0.mk (hbox); have n2_ := Aside0.mk ((by rw [hg]; exact below_size HB.out : w.heap.size ≤ gl)); clear HB; have HB := n0_; have BKl := n1_; have GEl := n2_; clear n0_ n1_ n2_ hb hbox hg) | ((with_reducible refine gate_dst (N := 3) rfl ?_); refine box_event ?hg (N := 3) ?hd (cs := #[.slice none 0 0]) (t := 25) ?hr ?_; (case hd => rfl); (case hg => rfl); (case hr => (go_simp; done)); intro gu hg w3 hbox hb; have n0_ := Aside0.mk (below_step HB.out hb); have n1_ := Aside0.mk (blk_below BKl.out hb); have n2_ := Aside0.mk (hbox); have n3_ := Aside0.mk ((by rw [hg]; exact below_size HB.out : w.heap.size ≤ gu)); have n4_ := Aside0.mk ((by rw [hg]; exact Nat.ne_of_lt (blk_lt BKl.out) : gl ≠ gu)); have n5_ := Aside0.mk ((by rw [hg]; exact (Nat.ne_of_lt (blk_lt BKl.out)).symm : gu ≠ gl)); clear HB BKl; have HB := n0_; have BKl := n1_; have BKu := n2_; have GEu := n3_; have NBlu := n4_; have NBul := n5_; clear n0_ n1_ n2_ n3_ n4_ n5_ hb hbox hg; have hlu6 := Aside0.mk (blk_lt BKu.out); obtain ⟨hcl0, hcl1, hcl2, hcl3, hfl0, hfl1, hfl2, hfl3⟩ := b4 BKl) | (go_at_call 65; (with_reducible refine (poslist_List_Places.calls k _ _ _ _ _ _ _ _ _ _ xs w _ HB.out ?a1 ?b1 ?a2 ?b2 ?a3 ?b3 H3.out).mono ?_); (case a1 => exact HR0_1.out); (case b1 => exact HC0_1.out); (case a2 => exact HR0_2.out); (case b2 => exact HC0_2.out); (case a3 => exact HR0_3.out); (case b3 => exact HC0_3.out); rintro e w4 ⟨gI, gi, rfl, hen, hgi, hlti, hit, hb⟩; have n0_ := Aside0.mk (below_step HB.out hb); have n1_ := Aside0.mk (blk_below BKl.out hb); have n2_ := Aside0.mk (blk_below BKu.out hb); clear HB BKl BKu; have HB := n0_; have BKl := n1_; have BKu := n2_; clear n0_ n1_ n2_ hb))
 refine (wpIn_wide (n := 4)).1 ?_
 refine XR.wp_range (α := Int) (w0 := w) (by decide) (gf := gI) (lb := #[.pointer (some ⟨gi, 0, none⟩)]) rfl hen hit
   (by rintro k_ rfl; exact hlti) (fun _ => rfl)
   (fun G_ pre X => ∃ (o1 : List Int) (v : Value), peristylelaw16_listed.go pre [] = some o1 ∧ X.heap[gu]? = some (.cells #[v] 25 (0, 0)) ∧ Kd.R (Kd.int .i64) 3 X w.heap.size (fun k_ => w.heap.size ≤ k_ ∧ (k_ ≠ gl ∧ k_ ≠ gu ∧ k_ ≠ gi ∧ k_ ≠ w4.heap.size ∧ k_ ≠ w4.heap.size + 1 ∧ ¬ G_ k_)) v o1 ∧ Below w.heap.size w X)
   (fun _ _ _ => False)
   ?hI ?hIG (fun _ _ _ _ h _ => h) ?hIB ?hIp (fun _ _ _ _ _ h _ _ _ => h) ?h0
   (fun Y x a' Z => a' = { tmps := #[.agg #[.int .i64 a0_0, .slice A0_1 l0_1.length c0_1, .slice A0_2 l0_2.length c0_2, .slice A0_3 l0_3.length c0_3], .pointer (some ⟨gl, 0, none⟩), .slice none 0 0, .pointer (some ⟨gu, 0, none⟩), .int .i64 x, .agg #[.int .i64 a0_0, .slice A0_1 l0_1.length c0_1, .slice A0_2 l0_2.length c0_2, .slice A0_3 l0_3.length c0_3], .func (.func gI) #[] #[.pointer (some ⟨gi, 0, none⟩)], .int .i64 x, undef, undef, undef, undef, undef], defers := [] })
   ?hAx ?assign ?body ?done ?stop
 case hI =>
   rintro G_ pre X Y ⟨o1, v, hg, ho, hr, hb⟩ hXY
   exact ⟨o1, v, hg, blk_below ho hXY, Kd.R_below hr hXY,  below_step hb hXY⟩
 case hIG =>
   rintro G_ G2_ pre X ⟨o1, v, hg, ho, hr, hb⟩ hG
   refine ⟨o1, v, hg, ho, Kd.R_mono (Kd.R_tight rfl hr) (fun k_ hk => ?_),  hb⟩
   have hq := hr.1 k_ hk.symm
   have hlt := Kd.R_lt hr k_ hk.symm
   exact ⟨hq.1, hq.2.1, hq.2.2.1, hq.2.2.2.1, hq.2.2.2.2.1, hq.2.2.2.2.2.1, fun h2 => (hG k_ h2).elim hq.2.2.2.2.2.2 (fun z => by omega)⟩
 case hIB =>
   rintro G_ pre X ⟨o1, v, hg, ho, hr, hb⟩
   exact hb
 case hIp =>
   rintro G_ pre X l o2 ⟨o1, v, hg, ho, hr, hb⟩ hl hl2 hlt
   have hnl : l ≠ gl := by have := blk_lt BKl.out; omega
   have hnu : l ≠ gu := by have := blk_lt BKu.out; omega
   refine ⟨o1, v, hg, (World.putObj_heap_other (Ne.symm hnu)).trans ho, ?_,  XR.below_putObj hb (by have := HB.out.size; omega) hlt o2⟩
   exact Kd.R_step hr (fun k_ hk _ => World.putObj_heap_other (by have h5 := hk.2.2.2.2.1; have h6 := hk.2.2.2.2.2.1; omega))
 case h0 => exact ⟨[], _, rfl, BKu.out, Kd.R_nil _ _ _ _ _,  HB.out⟩
 case hAx =>
   rintro Y x a' Z l o2 rfl hl hl2 hlt
   rfl
 case assign =>
   intro G_ pre x Y hI hsz
   gi_wp2
   exact ⟨Below.refl _ Y, trivial⟩
 case body =>
   rintro G_ pre x rest Y Z a' hx hGY ⟨o1, v, hg, ho, hr, hb⟩ hsX hYZ rfl
   have hlu : gu < w4.heap.size := blk_lt BKu.out
   have hll : gl < w4.heap.size := blk_lt BKl.out
   have hli : gi < w4.heap.size := hlti
   have NBui : gu ≠ gi := by have := hgi; have := hlu6.out; omega
   have hsn := peristylelaw16_listed.go_snoc pre x []
   rw [hg] at hsn
   simp only [Option.bind_some] at hsn
   obtain ⟨o2, ho2⟩ := peristylelaw16_listed.go_pre (pre ++ [x]) rest [] _ (by have h4 := H4.out; rw [hx] at h4; simpa using h4)
   rw [ho2] at hsn
   have hcap : o1.length < 1000000000000 := by
     by_cases hc : o1.length < 1000000000000
     ·exact hc
     ·rw [if_neg hc] at hsn; cases hsn
   rw [if_pos hcap] at hsn
   obtain rfl := Option.some.inj hsn
   have hgo2 := ho2
   have d6 : Z.cell? ⟨gu, 0, none⟩ = some v := (blk_cell ho 0).trans rfl
   have hsW : Z.heap.size ≤ Z.heap.size := Nat.le_refl _
   have hb9 := Below.refl Z.heap.size Z
   gi_wp2_with (refine XR.listIn_out (N := 8) rfl ?a2 ?a3 ?a4 ?_; (case a2 => rfl); (case a3 => rintro ⟨_, _, h_⟩; exact h_); (case a4 => rfl))
   go_wp2_with (((with_reducible refine gate_builtin (b := .append) (xs := #[.tmp 8, .tmp 10]) rfl ?_); at_builtin; refine Kd.R_append (Kd.int .i64) (w0 := w) w.heap.size rfl (.tmp 8) (.tmp 10) 25 3 (.int .i64 0) 8 rfl Tryz.underlying25 info3 rfl (by decide) (by omega) v o1 x [.int .i64 x] (fun k_ => w.heap.size ≤ k_ ∧ (k_ ≠ gl ∧ k_ ≠ gu ∧ k_ ≠ gi ∧ k_ ≠ w4.heap.size ∧ k_ ≠ w4.heap.size + 1 ∧ ¬ G_ k_)) (fun _ => False) rfl rfl ?aP (fun _ hk => hk.elim) ?aF ?aO ?aB ?aS ?aL ?_; (case aP => exact rfl); (case aF => intro k_ hk; have h7 := below_size hb; have h8 := hsW; exact ⟨by omega, by omega, by omega, by omega, by omega, by omega, fun h2 => by have := hGY k_ h2; omega⟩); (case aO => exact hr); (case aB => exact hb); (case aS => exact below_size hb); (case aL => omega); intro v1 w10 hr10 hb10 hk10 _; have hne : ∀ k_, some k_ = v.ownBlock → w.heap.size ≤ k_ ∧ (k_ ≠ gl ∧ k_ ≠ gu ∧ k_ ≠ gi ∧ k_ ≠ w4.heap.size ∧ k_ ≠ w4.heap.size + 1 ∧ ¬ G_ k_) := fun k_ e_ => hr.1 k_ e_.symm; have ho10 := blk_grown ho hk10 (fun e_ => (hne _ e_).2.2.1 rfl); obtain ⟨Av, cv, rfl⟩ := Kd.R_slice hr10; have e6 : w10.cell? ⟨gu, 0, none⟩ = some v := (blk_cell ho10 0).trans rfl; have e7 := blk_frozen ho10 0))
   have hr11 : Kd.R (Kd.int .i64) 3 w10 w.heap.size (fun k_ => w.heap.size ≤ k_ ∧ (k_ ≠ gl ∧ k_ ≠ gu ∧ k_ ≠ gi ∧ k_ ≠ w4.heap.size ∧ k_ ≠ w4.heap.size + 1 ∧ ¬ G_ k_)) (.slice Av (o1.length + 1) cv) (o1 ++ [x]) := by rw [List.length_append] at hr10; exact hr10
   have hgb : Below w.heap.size w (w10.setCell ⟨gu, 0, none⟩ (.slice Av (o1.length + 1) cv)) := hb10.setCell (p := ⟨gu, 0, none⟩) GEu.out _
   have hrow := Kd.R_step hr11 (w1 := w10.setCell ⟨gu, 0, none⟩ (.slice Av (o1.length + 1) cv)) (fun k_ hk _ => Below.heap_setCell _ _ _ k_ (by exact hk.2.2.1))
   refine ⟨⟨o1 ++ [x], _, hgo2, blk_put ho10 0 _ rfl, hrow,  hgb⟩, ?_, ?_⟩
   ·have := hk10.size; have := hb9.size; simp; omega
   ·intro k_ hk hkeep
    have hkgo : k_ ≠ gu := by
      rcases hkeep with rfl | hh | hh | hh
      ·exact Ne.symm NBui
      ·have := hGY k_ hh; omega
      ·omega
      ·omega
    have hkv : ¬ some k_ = v.ownBlock := by
      intro e_
      have hq := hne _ e_
      rcases hkeep with rfl | hh | hh | hh
      ·exact hq.2.2.2.1 rfl
      ·exact hq.2.2.2.2.2.2 hh
      ·exact hq.2.2.2.2.1 hh
      ·exact hq.2.2.2.2.2.1 hh
    rw [Below.heap_setCell _ _ _ k_ hkgo, hk10.block k_ (by have := hb9.size; omega) hkv, hb9.block k_ hk]
 case done =>
   rintro G_ W ⟨o1, v, hg, ho, hr, hb⟩ hK
   obtain rfl : o1 = o := by have h4 := H4.out; rw [hg] at h4; exact Option.some.inj h4
   obtain ⟨Av, cv, rfl⟩ := Kd.R_slice hr
   have cv1 : W.cell? ⟨gu, 0, none⟩ = some (.slice Av o1.length cv) := (blk_cell ho 0).trans rfl
   go_wp2
   refine ⟨by simp, .inl ⟨_, _, rfl, run_takeDeferred hK, ?_⟩⟩
   exact ⟨_, results_single (r := .tmp 2) rfl (.tmp .nil), _, rfl, Kd.R_mono (Kd.R_step hr (fun k_ hk _ => World.putObj_heap_other (by have h5 := hk.2.2.2.2.1; omega))) (fun _ _ => trivial), XR.below_putObj hb (by have := HB.out.size; omega) (Array.getElem?_eq_some_iff.1 hK).1 _⟩
 case stop =>
   rintro c pre W _ h _
   exact h.elim
end
end Go.Proofs.YtjgmdjieandemaaGreat.Print
end
