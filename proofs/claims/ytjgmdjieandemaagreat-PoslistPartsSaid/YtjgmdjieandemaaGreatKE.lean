-- Functions and laws: texts of the session's own and of the kit's print program, joined; what nothing names is left out.
import Derived.Test.YtjgmdjieandemaaGreatKA
import Derived.Test.YtjgmdjieandemaaGreatKW
import Derived.Test.YtjgmdjieandemaaGreatKB
import Derived.Test.YtjgmdjieandemaaGreatKD
import Derived.Test.YtjgmdjieandemaaGreatKR
import Derived.Test.YtjgmdjieandemaaGreatKC
section
namespace Go.Proofs.YtjgmdjieandemaaGreat.Print
open Go.RowKit Go.Proofs.YtjgmdjieandemaaGreatW.PrintWords Go.Proofs.YtjgmdjieandemaaGreatW.PrintLast Go.Proofs.YtjgmdjieandemaaGreatW.PrintMore
attribute [local go_sem] max2_int min2_int max_two min_two max_three min_three max_four min_four   -- for this text's walks alone
set_option linter.unusedVariables false
set_option linter.unusedSimpArgs false
/-! ### span_both_fn90: function 87 (a contract of the session's own) -/
section
attribute [local go_sem] Oper.semAt_some
def span_both_fn90.go : List S98 → List S64 → Option (List S64)
  | [], o => some o
  | x :: xs, o => (span_Or_1.f x.f0.f0 x.f0.f1 x.f1 x.f2).bind fun t => if t = true then ((span_adds.f o x.f0.f0 x.f0.f1).bind fun o2 => span_both_fn90.go xs o2) else span_both_fn90.go xs o
def span_both_fn90.f (k : Nat) (l0 l1 : List S64) : Option (List S64 × Int) := (span_May.f k l0).bind fun a => if a = true then ((span_May.f k l1).bind fun b => if b = true then ((span_parts_1.f k l0 l1).bind fun xs => (span_both_fn90.go xs []).bind fun o => some (o, 0)) else some (([] : List S64), 1)) else some (([] : List S64), 1)
theorem span_both_fn90.go_snoc : ∀ (pre : List S98) (x : S98) (o : List S64), span_both_fn90.go (pre ++ [x]) o = (span_both_fn90.go pre o).bind fun o1 => (span_Or_1.f x.f0.f0 x.f0.f1 x.f1 x.f2).bind fun t => if t = true then span_adds.f o1 x.f0.f0 x.f0.f1 else some o1 := by
 intro pre
 induction pre with
 | nil =>
   intro x o
   simp only [List.nil_append, span_both_fn90.go, Option.bind_some]
   congr 1; funext t; split
   ·cases span_adds.f o x.f0.f0 x.f0.f1 <;> rfl
   ·rfl
 | cons y ys ih =>
   intro x o
   simp only [List.cons_append, span_both_fn90.go]
   rw [Option.bind_assoc]
   congr 1; funext t; split
   ·rw [Option.bind_assoc]; congr 1; funext o2; exact ih x o2
   ·exact ih x o
theorem span_both_fn90.go_pre : ∀ (pre rest : List S98) (o r : List S64), span_both_fn90.go (pre ++ rest) o = some r → ∃ o1, span_both_fn90.go pre o = some o1 := by
 intro pre
 induction pre with
 | nil => intro rest o r h; exact ⟨o, rfl⟩
 | cons y ys ih =>
   intro rest o r h
   simp only [List.cons_append, span_both_fn90.go] at h ⊢
   obtain ⟨t, ht, h⟩ := Option.bind_eq_some_iff.mp h
   rw [ht]; simp only [Option.bind_some]
   split at h
   ·rename_i hq
    obtain ⟨o2, ho, h⟩ := Option.bind_eq_some_iff.mp h
    rw [if_pos hq, ho]; exact ih rest o2 r h
   ·rename_i hq
    rw [if_neg hq]; exact ih rest o r h
set_option maxHeartbeats 4000000 in
set_option maxRecDepth 100000 in
theorem span_both_fn90.calls (k : Nat) (A0 : Option Addr) (c0 : Nat) (l0 : List (S64)) (A1 : Option Addr) (c1 : Nat) (l1 : List (S64)) (r1 : List S64) (r2 : Int) (w : World) (hr0 : Kd.C k64 w A0 l0.length l0) (hc0 : l0.length ≤ c0) (hr1 : Kd.C k64 w A1 l1.length l1) (hc1 : l1.length ≤ c1) (h : span_both_fn90.f k l0 l1 = some (r1, r2)) :
    Calls Tryz.prog 87 #[.slice A0 l0.length c0, .slice A1 l1.length c1, .func (.func 90) #[] #[]] w fun e w' => ∃ v0_ : Value, e = .returned (.tuple #[v0_, .int .i64 r2]) ∧ Kd.R k64 64 w' w.heap.size (fun _ => True) v0_ r1 ∧ Below w.heap.size w w' := by
 have hmf : ∀ (fn : Fn) (first cap : Array Value) (w : World), (Instr.makeFunc fn first cap).run Tryz.prog w = .ok (.func fn first cap) w := fun _ _ _ _ => rfl
 have hu55 := Tryz.underlying98
 have hu43 := Tryz.underlying64
 have hu24 := Tryz.underlying22
 have HR0 := Aside0.mk hr0
 have HC0 := Aside0.mk hc0
 clear hr0 hc0
 have HR1 := Aside0.mk hr1
 have HC1 := Aside0.mk hc1
 clear hr1 hc1
 have HB := Aside0.mk (Below.refl w.heap.size w)
 have H := h
 clear h
 unfold span_both_fn90.f at H
 obtain ⟨a, A1_, H⟩ := Option.bind_eq_some_iff.mp H
 refine (callsIn_wide (n := 4)).1 ?_
 refine callsIn_of_wp_marks Tryz.func87 rfl trivial ?_ rfl
 simp only [Tryz.ntmps87, List.size_toArray, List.length_cons, List.length_nil, Nat.reduceAdd, Nat.reduceSub, Array.replicate_succ, Array.replicate_zero, List.push_toArray, List.append_toArray, List.nil_append, List.cons_append]
 refine wpIn_wide.2 ?_
 cases a with
 | false =>
   simp only [Bool.false_eq_true, if_false, Option.some.injEq, Prod.mk.injEq] at H
   obtain ⟨rfl, rfl⟩ := H
   have H1 := Aside0.mk A1_
   clear A1_
   go_wp2_with (first | ((with_reducible refine gate_dst (N := 5) rfl ?_); refine box_event ?hg (N := 5) ?hd (cs := #[.func (.func 90) #[] #[]]) (t := 99) ?hr ?_; (case hd => rfl); (case hg => rfl); (case hr => (go_simp; done)); intro gi hg w3 hbox hb; have n0_ := Aside0.mk (below_step HB.out hb); have n1_ := Aside0.mk hbox; have n2_ := Aside0.mk ((by rw [hg]; exact Nat.le_refl _) : w.heap.size ≤ gi); clear HB; have HB := n0_; have BKi := n1_; have GEi := n2_; clear n0_ n1_ n2_ hb hbox hg) | ((with_reducible refine gate_callee (f := 41) rfl ?_); refine gL 11 Tryz.func41 #[.slice A0 l0.length c0] ?_; (with_reducible refine (span_May.calls _ _ _ l0 false _ ?side1 ?side2 H1.out).mono ?_); (case side1 => exact (Kd.C_below HR0.out HB.out)); (case side2 => exact HC0.out); rintro e w4 ⟨rfl, hb⟩; refine ⟨_, rfl, ?_⟩; have n0_ := Aside0.mk (below_step HB.out hb); have n1_ := Aside0.mk (blk_below BKi.out hb); clear HB BKi hb; have HB := n0_; have BKi := n1_; clear n0_ n1_))
   exact ⟨_, results_list (rs := [.tmp 6, .tmp 7]) rfl (by simp) (.tmp (.tmp .nil)), _, rfl, Kd.R_nil _ _ _ _ _, HB.out⟩
 | true =>
   rw [if_pos rfl] at H
   obtain ⟨b, A2_, H⟩ := Option.bind_eq_some_iff.mp H
   cases b with
   | false =>
     simp only [Bool.false_eq_true, if_false, Option.some.injEq, Prod.mk.injEq] at H
     obtain ⟨rfl, rfl⟩ := H
     have H1 := Aside0.mk A1_
     have H2 := Aside0.mk A2_
     clear A1_ A2_
     go_wp2_with (first | ((with_reducible refine gate_dst (N := 5) rfl ?_); refine box_event ?hg (N := 5) ?hd (cs := #[.func (.func 90) #[] #[]]) (t := 99) ?hr ?_; (case hd => rfl); (case hg => rfl); (case hr => (go_simp; done)); intro gi hg w3 hbox hb; have n0_ := Aside0.mk (below_step HB.out hb); have n1_ := Aside0.mk hbox; have n2_ := Aside0.mk ((by rw [hg]; exact Nat.le_refl _) : w.heap.size ≤ gi); clear HB; have HB := n0_; have BKi := n1_; have GEi := n2_; clear n0_ n1_ n2_ hb hbox hg) | ((with_reducible refine gate_callee (f := 41) rfl ?_); refine gL 11 Tryz.func41 #[.slice A0 l0.length c0] ?_; (with_reducible refine (span_May.calls _ _ _ l0 true _ ?side1 ?side2 H1.out).mono ?_); (case side1 => exact (Kd.C_below HR0.out HB.out)); (case side2 => exact HC0.out); rintro e w4 ⟨rfl, hb⟩; refine ⟨_, rfl, ?_⟩; have n0_ := Aside0.mk (below_step HB.out hb); have n1_ := Aside0.mk (blk_below BKi.out hb); clear HB BKi hb; have HB := n0_; have BKi := n1_; clear n0_ n1_) | (go_at_call 41; (with_reducible refine (span_May.calls _ _ _ l1 false _ ?side1 ?side2 H2.out).mono ?_); (case side1 => exact (Kd.C_below HR1.out HB.out)); (case side2 => exact HC1.out); rintro e w5 ⟨rfl, hb⟩; have n0_ := Aside0.mk (below_step HB.out hb); have n1_ := Aside0.mk (blk_below BKi.out hb); clear HB BKi hb; have HB := n0_; have BKi := n1_; clear n0_ n1_))
     exact ⟨_, results_list (rs := [.tmp 6, .tmp 7]) rfl (by simp) (.tmp (.tmp .nil)), _, rfl, Kd.R_nil _ _ _ _ _, HB.out⟩
   | true =>
     rw [if_pos rfl] at H
     obtain ⟨xs, A3_, H⟩ := Option.bind_eq_some_iff.mp H
     obtain ⟨o, A4_, H⟩ := Option.bind_eq_some_iff.mp H
     simp only [Option.some.injEq, Prod.mk.injEq] at H
     obtain ⟨rfl, rfl⟩ := H
     have H1 := Aside0.mk A1_
     have H2 := Aside0.mk A2_
     have H3 := Aside0.mk A3_
     have H4 := Aside0.mk A4_
     clear A1_ A2_ A3_ A4_
     go_wp2_with (first | ((with_reducible refine gate_dst (N := 5) rfl ?_); refine box_event ?hg (N := 5) ?hd (cs := #[.func (.func 90) #[] #[]]) (t := 99) ?hr ?_; (case hd => rfl); (case hg => rfl); (case hr => (go_simp; done)); intro gi hg w3 hbox hb; have n0_ := Aside0.mk (below_step HB.out hb); have n1_ := Aside0.mk hbox; have n2_ := Aside0.mk ((by rw [hg]; exact Nat.le_refl _) : w.heap.size ≤ gi); clear HB; have HB := n0_; have BKi := n1_; have GEi := n2_; clear n0_ n1_ n2_ hb hbox hg) | ((with_reducible refine gate_callee (f := 41) rfl ?_); refine gL 11 Tryz.func41 #[.slice A0 l0.length c0] ?_; (with_reducible refine (span_May.calls _ _ _ l0 true _ ?side1 ?side2 H1.out).mono ?_); (case side1 => exact (Kd.C_below HR0.out HB.out)); (case side2 => exact HC0.out); rintro e w4 ⟨rfl, hb⟩; refine ⟨_, rfl, ?_⟩; have n0_ := Aside0.mk (below_step HB.out hb); have n1_ := Aside0.mk (blk_below BKi.out hb); clear HB BKi hb; have HB := n0_; have BKi := n1_; clear n0_ n1_) | (go_at_call 41; (with_reducible refine (span_May.calls _ _ _ l1 true _ ?side1 ?side2 H2.out).mono ?_); (case side1 => exact (Kd.C_below HR1.out HB.out)); (case side2 => exact HC1.out); rintro e w5 ⟨rfl, hb⟩; have n0_ := Aside0.mk (below_step HB.out hb); have n1_ := Aside0.mk (blk_below BKi.out hb); clear HB BKi hb; have HB := n0_; have BKi := n1_; clear n0_ n1_) | ((with_reducible refine gate_dst (N := 8) rfl ?_); refine box_event ?hg (N := 8) ?hd (cs := #[.slice none 0 0]) (t := 22) ?hr ?_; (case hd => rfl); (case hg => rfl); (case hr => (go_simp; done)); intro go_ hg w6 hbox hb; have n0_ := Aside0.mk (below_step HB.out hb); have n1_ := Aside0.mk (blk_below BKi.out hb); have n2_ := Aside0.mk hbox; have n3_ := Aside0.mk ((by rw [hg]; exact below_size HB.out) : w.heap.size ≤ go_); have n4_ := Aside0.mk ((by rw [hg]; exact Nat.ne_of_lt (blk_lt BKi.out)) : gi ≠ go_); clear HB BKi; have HB := n0_; have BKi := n1_; have BKo := n2_; have GEo := n3_; have NBio := n4_; clear n0_ n1_ n2_ n3_ n4_ hb hbox hg) | ((with_reducible refine gate_dst (N := 2) rfl ?_); refine box_event ?hg (N := 2) ?hd (cs := #[.slice A0 l0.length c0]) (t := 22) ?hr ?_; (case hd => rfl); (case hg => rfl); (case hr => (go_simp; done)); intro ga hg w7 hbox hb; have n0_ := Aside0.mk (below_step HB.out hb); have n1_ := Aside0.mk (blk_below BKi.out hb); have n2_ := Aside0.mk (blk_below BKo.out hb); have n3_ := Aside0.mk hbox; have n4_ := Aside0.mk ((by rw [hg]; exact below_size HB.out) : w.heap.size ≤ ga); have n5_ := Aside0.mk ((by rw [hg]; exact Nat.ne_of_lt (blk_lt BKi.out)) : gi ≠ ga); have n6_ := Aside0.mk ((by rw [hg]; exact Nat.ne_of_lt (blk_lt BKo.out)) : go_ ≠ ga); clear HB BKi BKo; have HB := n0_; have BKi := n1_; have BKo := n2_; have BKa := n3_; have GEa := n4_; have NBia := n5_; have NBoa := n6_; clear n0_ n1_ n2_ n3_ n4_ n5_ n6_ hb hbox hg) | ((with_reducible refine gate_dst (N := 3) rfl ?_); refine box_event ?hg (N := 3) ?hd (cs := #[.slice A1 l1.length c1]) (t := 22) ?hr ?_; (case hd => rfl); (case hg => rfl); (case hr => (go_simp; done)); intro gb hg w8 hbox hb; have n0_ := Aside0.mk (below_step HB.out hb); have n1_ := Aside0.mk (blk_below BKi.out hb); have n2_ := Aside0.mk (blk_below BKo.out hb); have n3_ := Aside0.mk (blk_below BKa.out hb); have n4_ := Aside0.mk hbox; have n5_ := Aside0.mk ((by rw [hg]; exact below_size HB.out) : w.heap.size ≤ gb); have n6_ := Aside0.mk ((by rw [hg]; exact Nat.ne_of_lt (blk_lt BKi.out)) : gi ≠ gb); have n7_ := Aside0.mk ((by rw [hg]; exact Nat.ne_of_lt (blk_lt BKo.out)) : go_ ≠ gb); have n8_ := Aside0.mk ((by rw [hg]; exact Nat.ne_of_lt (blk_lt BKa.out)) : ga ≠ gb); clear HB BKi BKo BKa; have HB := n0_; have BKi := n1_; have BKo := n2_; have BKa := n3_; have BKb := n4_; have GEb := n5_; have NBib := n6_; have NBob := n7_; have NBab := n8_; clear n0_ n1_ n2_ n3_ n4_ n5_ n6_ n7_ n8_ hb hbox hg) | go_in)
     have HC0' := HC0
     have HC1' := HC1
     refine (wpIn_wide (n := 4)).1 ?_
     refine XR.wp_range (α := S98) (w0 := w) (by decide) (gf := 127) (lb := #[.pointer (some ⟨ga, 0, none⟩), .pointer (some ⟨gb, 0, none⟩)]) rfl (enters_of Tryz.func127 (by kernel_rfl) rfl)
       (span_parts_1.iter k A0 c0 l0 A1 c1 l1 xs w w8 ga gb HR0.out HC0'.out HR1.out HC1'.out HB.out BKa.out BKb.out GEa.out GEb.out NBab.out H3.out)
       (by rintro k_ (rfl | rfl); exact blk_lt BKa.out; exact blk_lt BKb.out) (fun _ => rfl)
       (fun G_ pre X => ∃ (o1 : List S64) (v : Value), span_both_fn90.go pre [] = some o1 ∧ X.heap[go_]? = some (.cells #[v] 22 (0, 0)) ∧ Kd.R k64 64 X w.heap.size (fun k_ => w.heap.size ≤ k_ ∧ (k_ ≠ gi ∧ k_ ≠ go_ ∧ k_ ≠ ga ∧ k_ ≠ gb ∧ k_ ≠ w8.heap.size ∧ k_ ≠ w8.heap.size + 1 ∧ ¬ G_ k_)) v o1 ∧ X.heap[gi]? = some (.cells #[.func (.func 90) #[] #[]] 99 (0, 0)) ∧ Below w.heap.size w X)
       (fun _ _ _ => False)
       ?hI ?hIG (fun _ _ _ _ h _ => h) ?hIB ?hIp (fun _ _ _ _ _ h _ _ _ => h) ?h0
       (fun Y x a' Z => a' = { tmps := #[.slice A0 l0.length c0, .slice A1 l1.length c1, .func (.func 90) #[] #[], undef, undef, .pointer (some ⟨gi, 0, none⟩), .slice none 0 0, .int .i64 0, .pointer (some ⟨go_, 0, none⟩), .pointer (some ⟨Y.heap.size, 0, none⟩), .slice A0 l0.length c0, .bool true, .bool false, .bool false, .slice A1 l1.length c1, .bool true, .bool false, .bool false, .slice A0 l0.length c0, .slice A1 l1.length c1, .func (.func 127) #[] #[.pointer (some ⟨ga, 0, none⟩), .pointer (some ⟨gb, 0, none⟩)], .agg #[.int .i64 x.f0.f0, .int .i64 x.f0.f1, .bool x.f1, .bool x.f2], undef, undef, undef, undef, undef, undef, undef, undef], defers := [] } ∧ Z.heap[Y.heap.size]? = some (.cells #[.int .i64 x.f0.f0, .int .i64 x.f0.f1, .bool x.f1, .bool x.f2] 98 (0, 0)))
       ?hAx ?assign ?body ?done ?stop
     case hI =>
       rintro G_ pre X Y ⟨o1, v, hg, ho, hr, hi, hb⟩ hXY
       exact ⟨o1, v, hg, blk_below ho hXY, Kd.R_below hr hXY, blk_below hi hXY, below_step hb hXY⟩
     case hIG =>
       rintro G_ G2_ pre X ⟨o1, v, hg, ho, hr, hi, hb⟩ hG
       refine ⟨o1, v, hg, ho, Kd.R_mono (Kd.R_tight rfl hr) (fun k_ hk => ?_), hi, hb⟩
       have hq := hr.1 k_ hk.symm
       have hlt := Kd.R_lt hr k_ hk.symm
       exact ⟨hq.1, hq.2.1, hq.2.2.1, hq.2.2.2.1, hq.2.2.2.2.1, hq.2.2.2.2.2.1, hq.2.2.2.2.2.2.1, fun h2 => (hG k_ h2).elim hq.2.2.2.2.2.2.2 (fun z => by omega)⟩
     case hIB =>
       rintro G_ pre X ⟨o1, v, hg, ho, hr, hi, hb⟩
       exact hb
     case hIp =>
       rintro G_ pre X l o2 ⟨o1, v, hg, ho, hr, hi, hb⟩ hl hl2 hlt
       have hio : l ≠ gi := by have := blk_lt BKi.out; omega
       have hoo : l ≠ go_ := by have := blk_lt BKo.out; omega
       refine ⟨o1, v, hg, (World.putObj_heap_other (Ne.symm hoo)).trans ho, ?_, (World.putObj_heap_other (Ne.symm hio)).trans hi, XR.below_putObj hb (by have := HB.out.size; omega) hlt o2⟩
       exact Kd.R_step hr (fun k_ hk _ => World.putObj_heap_other (by have h5 := hk.2.2.2.2.2.1; have h6 := hk.2.2.2.2.2.2.1; omega))
     case h0 => exact ⟨[], _, rfl, BKo.out, Kd.R_nil _ _ _ _ _, BKi.out, HB.out⟩
     case hAx =>
       rintro Y x a' Z l o2 ⟨rfl, hz⟩ hl hl2 hlt
       exact ⟨rfl, (World.putObj_heap_other (by omega)).trans hz⟩
     case assign =>
       intro G_ pre x Y hI hsz
       gi_wp2
       exact ⟨(Below.refl _ Y).alloc (Nat.le_refl _) _, trivial, World.alloc_heap_new Y _⟩
     case body =>
       rintro G_ pre x rest Y Z a' hx hGY ⟨o1, v, hg, ho, hr, hi, hb⟩ hsX hYZ ⟨rfl, hz⟩
       have hsY : Y.heap.size < Z.heap.size := blk_lt hz
       have hlgo : go_ < w8.heap.size := blk_lt BKo.out
       have hsn := span_both_fn90.go_snoc pre x []
       rw [hg] at hsn
       simp only [Option.bind_some] at hsn
       obtain ⟨o2, ho2⟩ := span_both_fn90.go_pre (pre ++ [x]) rest [] _ (by have h4 := H4.out; rw [hx] at h4; simpa using h4)
       rw [ho2] at hsn
       obtain ⟨t, ht, hs⟩ := Option.bind_eq_some_iff.mp hsn.symm
       have c1 : Z.cell? ⟨gi, 0, none⟩ = some (.func (.func 90) #[] #[]) := (blk_cell hi 0).trans rfl
       have c2 : Z.cell? ⟨Y.heap.size, 0, none⟩ = some (.int .i64 x.f0.f0) := (blk_cell hz 0).trans rfl
       have c3 : Z.cell? ⟨Y.heap.size, 1, none⟩ = some (.int .i64 x.f0.f1) := (blk_cell hz 1).trans rfl
       have c4 : Z.cell? ⟨Y.heap.size, 2, none⟩ = some (.bool x.f1) := (blk_cell hz 2).trans rfl
       have c5 : Z.cell? ⟨Y.heap.size, 3, none⟩ = some (.bool x.f2) := (blk_cell hz 3).trans rfl
       cases t with
       | false =>
         simp only [Bool.false_eq_true, if_false, Option.some.injEq] at hs
         subst hs
         gi_wp2_with (refine ⟨trivial, ?_⟩; gi_at_call 90; refine (CallsIn.inRound (w8.heap.size + 1) (callsIn_wide.2 (span_Or_1.calls _ _ _ _ false Z ht))).mono ?_; rintro e w9 ⟨rfl, hb9⟩)
         exact ⟨⟨_, v, ho2, blk_below ho hb9, Kd.R_below hr hb9, blk_below hi hb9, below_step hb hb9⟩, hb9.size, fun k_ hk _ => hb9.block k_ hk⟩
       | true =>
         simp only [if_true] at hs
         gi_wp2_with (first | (refine ⟨trivial, ?_⟩; gi_at_call 90; refine (CallsIn.inRound (w8.heap.size + 1) (callsIn_wide.2 (span_Or_1.calls _ _ _ _ true Z ht))).mono ?_; rintro e w9 ⟨rfl, hb9⟩; have d2 : w9.cell? ⟨Y.heap.size, 0, none⟩ = some (.int .i64 x.f0.f0) := (blk_cell (blk_below hz hb9) 0).trans rfl; have d3 : w9.cell? ⟨Y.heap.size, 1, none⟩ = some (.int .i64 x.f0.f1) := (blk_cell (blk_below hz hb9) 1).trans rfl; have d6 : w9.cell? ⟨go_, 0, none⟩ = some v := (blk_cell (blk_below ho hb9) 0).trans rfl) | (refine ⟨trivial, ?_⟩; gi_at_call 79; refine (CallsIn.inRound (w8.heap.size + 1) (callsIn_wide.2 (span_adds.calls (fun k_ => some k_ = v.ownBlock) v o1 x.f0.f0 x.f0.f1 o2 w w9 (below_step hb hb9) (Kd.R_tight rfl (Kd.R_below hr hb9)) hs))).mono ?_; rintro e w10 ⟨v0, rfl, hr10, hb10, hk10⟩; have hne : ∀ k_, some k_ = v.ownBlock → k_ ≠ gi ∧ k_ ≠ go_ ∧ k_ ≠ ga ∧ k_ ≠ gb ∧ k_ ≠ w8.heap.size ∧ k_ ≠ w8.heap.size + 1 ∧ ¬ G_ k_ := fun k_ e_ => (hr.1 k_ e_.symm).2; have hlt9 : Z.heap.size ≤ w9.heap.size := hb9.size; have ho10 := (hk10.2 go_ (blk_lt (blk_below ho hb9)) (fun e_ => (hne _ e_).2.1 rfl)).trans (blk_below ho hb9); have hi10 := (hk10.2 gi (blk_lt (blk_below hi hb9)) (fun e_ => (hne _ e_).1 rfl)).trans (blk_below hi hb9); obtain ⟨Av, cv, rfl⟩ := Kd.R_slice hr10; have e6 : w10.cell? ⟨go_, 0, none⟩ = some v := (blk_cell ho10 0).trans rfl; have e7 := blk_frozen ho10 0))
         have hlgi : gi < w8.heap.size := blk_lt BKi.out
         have hlga : ga < w8.heap.size := blk_lt BKa.out
         have hlgb : gb < w8.heap.size := blk_lt BKb.out
         have hgb : Below w.heap.size w (w10.setCell ⟨go_, 0, none⟩ (.slice Av o2.length cv)) := hb10.setCell (p := ⟨go_, 0, none⟩) GEo.out _
         have hrow : Kd.R k64 64 (w10.setCell ⟨go_, 0, none⟩ (.slice Av o2.length cv)) w.heap.size (fun k_ => w.heap.size ≤ k_ ∧ (k_ ≠ gi ∧ k_ ≠ go_ ∧ k_ ≠ ga ∧ k_ ≠ gb ∧ k_ ≠ w8.heap.size ∧ k_ ≠ w8.heap.size + 1 ∧ ¬ G_ k_)) (.slice Av o2.length cv) o2 := by
           have hr11 : Kd.R k64 64 w10 w.heap.size (fun k_ => w.heap.size ≤ k_ ∧ (k_ ≠ gi ∧ k_ ≠ go_ ∧ k_ ≠ ga ∧ k_ ≠ gb ∧ k_ ≠ w8.heap.size ∧ k_ ≠ w8.heap.size + 1 ∧ ¬ G_ k_)) (.slice Av o2.length cv) o2 := by
             refine Kd.R_mono hr10 (fun k_ hk => ?_)
             rcases hk with hk | hk
             ·exact hr.1 k_ hk.symm
             ·have := HB.out.size; have := below_size hb; refine ⟨by omega, by omega, by omega, by omega, by omega, by omega, by omega, fun h2 => by have := hGY k_ h2; omega⟩
           exact Kd.R_step hr11 (fun k_ hk _ => Below.heap_setCell _ _ _ k_ (by exact hk.2.2.1))
         refine ⟨⟨o2, _, ho2, blk_put ho10 0 _ rfl, hrow, blk_far hi10 (by exact NBio.out) _, hgb⟩, ?_, ?_⟩
         ·have := hk10.1; simp; omega
         ·intro k_ hk hkeep
          have hkgo : k_ ≠ go_ := by
            rcases hkeep with (rfl | rfl) | hh | hh | hh
            ·exact Ne.symm NBoa.out
            ·exact Ne.symm NBob.out
            ·have := hGY k_ hh; omega
            ·omega
            ·omega
          have hkv : ¬ some k_ = v.ownBlock := by
            intro e_
            have hq := hne _ e_
            rcases hkeep with (rfl | rfl) | hh | hh | hh
            ·exact hq.2.2.1 rfl
            ·exact hq.2.2.2.1 rfl
            ·exact hq.2.2.2.2.2.2 hh
            ·exact hq.2.2.2.2.1 hh
            ·exact hq.2.2.2.2.2.1 hh
          rw [Below.heap_setCell _ _ _ k_ hkgo, hk10.2 k_ (by omega) hkv, hb9.block k_ hk]
     case done =>
       rintro G_ W ⟨o1, v, hg, ho, hr, hi, hb⟩ hK
       obtain rfl : o1 = o := by have h4 := H4.out; rw [hg] at h4; exact Option.some.inj h4
       have cv1 : W.cell? ⟨go_, 0, none⟩ = some v := (blk_cell ho 0).trans rfl
       go_wp2
       refine ⟨by simp, .inl ⟨_, _, rfl, run_takeDeferred hK, ?_⟩⟩
       exact ⟨_, results_list (rs := [.tmp 6, .tmp 7]) rfl (by simp) (.tmp (.tmp .nil)), v, rfl, Kd.R_mono (Kd.R_step hr (fun k_ hk _ => World.putObj_heap_other (by have h5 := hk.2.2.2.2.2.1; have h6 := hk.2.2.2.2.2.2.1; omega))) (fun _ _ => trivial), XR.below_putObj hb (by have := HB.out.size; omega) (Array.getElem?_eq_some_iff.1 hK).1 _⟩
     case stop =>
       rintro c pre W _ h _
       exact h.elim
end
/-! ### span_Or: function 60 -/
def span_Or.f (k : Nat) (l0 : List (S64)) (l1 : List (S64)) : Option ((List (S64)) × Int) := (span_both_fn90.f k l0 l1).bind fun bt574 => (some (bt574.1, bt574.2))
set_option maxHeartbeats 8000000 in
set_option maxRecDepth 100000 in
theorem span_Or.calls (k : Nat) (A0 : Option Addr) (c0 : Nat) (l0 : List (S64)) (A1 : Option Addr) (c1 : Nat) (l1 : List (S64)) (r1 : List (S64)) (r2 : Int) (w : World) (hr0 : Kd.C k64 w A0 l0.length l0) (hc0 : l0.length ≤ c0) (hr1 : Kd.C k64 w A1 l1.length l1) (hc1 : l1.length ≤ c1) (h : span_Or.f k l0 l1 = some (r1, r2)) :
  Calls Tryz.prog 60 #[.slice A0 l0.length c0, .slice A1 l1.length c1] w fun e w' => ∃ v0_ : Value, e = .returned (.tuple #[v0_, .int .i64 r2]) ∧ Kd.R k64 64 w' w.heap.size (fun _ => True) v0_ r1 ∧ Below w.heap.size w w' := by
 have HR0 := Aside0.mk hr0
 have HC0 := Aside0.mk hc0
 clear hr0 hc0
 have HR1 := Aside0.mk hr1
 have HC1 := Aside0.mk hc1
 clear hr1 hc1
 have HB := Aside0.mk (Below.refl w.heap.size w)
 have H := h
 clear h
 unfold span_Or.f at H
 replace H := bd H
 obtain ⟨⟨t574, t577⟩, A3, H⟩ := H
 dsimp only at H
 simp only [Option.some.injEq, Prod.mk.injEq] at H
 obtain ⟨rfl, rfl⟩ := H
 go_enter Tryz.func60, Tryz.ntmps60
 go_wp2_with (((with_reducible refine gate_callee (f := 87) rfl ?_); refine gL 8 Tryz.func87 #[.slice A0 l0.length c0, .slice A1 l1.length c1, .func (.func 90) #[] #[]] ?_; (with_reducible refine (span_both_fn90.calls k _ _ l0 _ _ l1  t574 t577 _ ?side1 ?side2 ?side3 ?side4 A3.out).mono ?_); (case side1 => exact cx HR0.out); (case side2 => exact HC0.out); (case side3 => exact cx HR1.out); (case side4 => exact HC1.out); rintro e w4 ⟨v575, rfl, ho0, hb⟩; refine ⟨_, rfl, ?_⟩; have HO576 := Aside0.mk (Kd.R_lower ho0 (below_size (bh HB.out))); replace HB := bsa HB hb; clear hb ho0))
 go_ret2
 exact ⟨_, er, by exact HO576.out, bh HB.out⟩
end Go.Proofs.YtjgmdjieandemaaGreat.Print
end
section
namespace Go.Proofs.YtjgmdjieandemaaGreat.Print
open Go.RowKit Go.Proofs.YtjgmdjieandemaaGreatW.PrintWords Go.Proofs.YtjgmdjieandemaaGreatW.PrintLast Go.Proofs.YtjgmdjieandemaaGreatW.PrintMore
attribute [local go_sem] max2_int min2_int max_two min_two max_three min_three max_four min_four   -- for this text's walks alone
set_option linter.unusedVariables false
set_option linter.unusedSimpArgs false
attribute [local go_sem high] eqA64
/-! ### poslist_List_together_fn59_fn60: function 55 -/
def poslist_List_together_fn59_fn60.j0 : Nat → Bool → Int → List (S64) → List Int → List Int → Int → List (S64) → List Int → List Int → Option (Int × (List (S64)) × List Int × List Int)
 | 0, _, _, _, _, _, _, _, _, _ => none
 | k + 1, x22, x579000, x579001, x579002, x579003, x580000, x580001, x580002, x580003 => if x22 = true then ((poslist_List_bits.f k x579000 x579001 x579002 x579003).bind fun t581 => ((poslist_List_bits.f k x580000 x580001 x580002 x580003).bind fun t584 => ((words_Or.f k t581 t584).bind fun bt587 => ((words_Spans.f k bt587.1).bind fun bt591 => ((poslist_best.f k bt591.1).bind fun bt595 => (some (bt595.1, bt595.2.1, bt595.2.2.1, bt595.2.2.2))))))) else ((poslist_List_Spans.f k x579000 x579001 x579002 x579003).bind fun t605 => ((poslist_List_Spans.f k x580000 x580001 x580002 x580003).bind fun t608 => ((span_Or.f k t605 t608).bind fun bt611 => ((poslist_best.f k bt611.1).bind fun bt615 => (some (bt615.1, bt615.2.1, bt615.2.2.1, bt615.2.2.2))))))
def poslist_List_together_fn59_fn60.f (k : Nat) (a0_0 : Int) (l0_1 : List (S64)) (l0_2 : List Int) (l0_3 : List Int) (a1_0 : Int) (l1_1 : List (S64)) (l1_2 : List Int) (l1_3 : List Int)   : Option (Int × (List (S64)) × List Int × List Int) := if a0_0 = 2 then (poslist_List_together_fn59_fn60.j0 k true a0_0 l0_1 l0_2 l0_3 a1_0 l1_1 l1_2 l1_3) else (poslist_List_together_fn59_fn60.j0 k (a1_0 == 2) a0_0 l0_1 l0_2 l0_3 a1_0 l1_1 l1_2 l1_3)
theorem poslist_List_together_fn59_fn60.j0_succ (k) (a0) (a1) (a2) (a3) (a4) (a5) (a6) (a7) (a8) : type_of% (@poslist_List_together_fn59_fn60.j0.eq_2 a0 a1 a2 a3 a4 a5 a6 a7 a8 k) := poslist_List_together_fn59_fn60.j0.eq_2 a0 a1 a2 a3 a4 a5 a6 a7 a8 k
def poslist_List_together_fn59_fn60.T2 : Bool × List (List Nat × List Nat) := (true, [([], []), ([], []), ([1], [1]), ([], []), ([3, 2], [3]), ([0, 2, 4, 4], [0, 2, 4]), ([5], [5]), ([6], [6]), ([6], [6]), ([7, 5, 0, 1, 2, 3, 4, 5, 6, 7], [7]), ([8, 9, 0, 1, 2, 3, 4, 5, 6, 7, 8, 9], [8])])
def poslist_List_together_fn59_fn60.B2 : List Nat := [0, 0, 2, 0, 14, 31, 63, 127, 127, 255, 1023]
theorem poslist_List_together_fn59_fn60.tab2 : rtab .any (opsOf Tryz.f55 2) = poslist_List_together_fn59_fn60.T2 := by kernel_rfl
theorem poslist_List_together_fn59_fn60.bits2 : waitsOk poslist_List_together_fn59_fn60.T2.2 poslist_List_together_fn59_fn60.B2 = true := by kernel_rfl
def poslist_List_together_fn59_fn60.T5 : Bool × List (List Nat × List Nat) := (true, [([], []), ([], []), ([1], [1]), ([], []), ([3, 2], [3]), ([0, 2, 4, 4], [0, 2, 4]), ([5], [5]), ([6], [6]), ([6], [6]), ([7, 5, 0, 1, 2, 3, 4, 5, 6, 7], [7]), ([8, 9, 0, 1, 2, 3, 4, 5, 6, 7, 8, 9], [8])])
def poslist_List_together_fn59_fn60.B5 : List Nat := [0, 0, 2, 0, 14, 31, 63, 127, 127, 255, 1023]
theorem poslist_List_together_fn59_fn60.tab5 : rtab .any (opsOf Tryz.f55 5) = poslist_List_together_fn59_fn60.T5 := by kernel_rfl
theorem poslist_List_together_fn59_fn60.bits5 : waitsOk poslist_List_together_fn59_fn60.T5.2 poslist_List_together_fn59_fn60.B5 = true := by kernel_rfl
set_option maxHeartbeats 8000000 in
set_option maxRecDepth 100000 in
theorem poslist_List_together_fn59_fn60.calls (k : Nat) (a0_0 : Int) (A0_1 : Option Addr) (c0_1 : Nat) (l0_1 : List (S64)) (A0_2 : Option Addr) (c0_2 : Nat) (l0_2 : List Int) (A0_3 : Option Addr) (c0_3 : Nat) (l0_3 : List Int) (a1_0 : Int) (A1_1 : Option Addr) (c1_1 : Nat) (l1_1 : List (S64)) (A1_2 : Option Addr) (c1_2 : Nat) (l1_2 : List Int) (A1_3 : Option Addr) (c1_3 : Nat) (l1_3 : List Int)   (r1 : Int) (r2 : List (S64)) (r3 : List Int) (r4 : List Int) (w : World) (hr0_1 : Kd.C k64 w A0_1 l0_1.length l0_1) (hc0_1 : l0_1.length ≤ c0_1) (hr0_2 : Kd.C (Kd.int .i64) w A0_2 l0_2.length l0_2) (hc0_2 : l0_2.length ≤ c0_2) (hr0_3 : Kd.C (Kd.int .i64) w A0_3 l0_3.length l0_3) (hc0_3 : l0_3.length ≤ c0_3) (hr1_1 : Kd.C k64 w A1_1 l1_1.length l1_1) (hc1_1 : l1_1.length ≤ c1_1) (hr1_2 : Kd.C (Kd.int .i64) w A1_2 l1_2.length l1_2) (hc1_2 : l1_2.length ≤ c1_2) (hr1_3 : Kd.C (Kd.int .i64) w A1_3 l1_3.length l1_3) (hc1_3 : l1_3.length ≤ c1_3) (h : poslist_List_together_fn59_fn60.f k a0_0 l0_1 l0_2 l0_3 a1_0 l1_1 l1_2 l1_3 = some (r1, r2, r3, r4)) :
  Calls Tryz.prog 55 #[.agg #[.int .i64 a0_0, .slice A0_1 l0_1.length c0_1, .slice A0_2 l0_2.length c0_2, .slice A0_3 l0_3.length c0_3], .agg #[.int .i64 a1_0, .slice A1_1 l1_1.length c1_1, .slice A1_2 l1_2.length c1_2, .slice A1_3 l1_3.length c1_3], .func (.func 59) #[] #[], .func (.func 60) #[] #[]] w fun e w' => ∃ v1_ v2_ v3_ : Value, e = .returned (.agg #[.int .i64 r1, v1_, v2_, v3_]) ∧ Kd.R k64 64 w' w.heap.size (fun _ => True) v1_ r2 ∧ Kd.R (Kd.int .i64) 3 w' w.heap.size (fun k_ => some k_ ≠ (v3_ : Value).ownBlock) v2_ r3 ∧ Kd.R (Kd.int .i64) 3 w' w.heap.size (fun k_ => some k_ ≠ (v2_ : Value).ownBlock) v3_ r4 ∧ Below w.heap.size w w' := by
 have hu27 := Tryz.underlying27
 have HR0_1 := Aside0.mk hr0_1
 have HC0_1 := Aside0.mk hc0_1
 clear hr0_1 hc0_1
 have HR0_2 := Aside0.mk hr0_2
 have HC0_2 := Aside0.mk hc0_2
 clear hr0_2 hc0_2
 have HR0_3 := Aside0.mk hr0_3
 have HC0_3 := Aside0.mk hc0_3
 clear hr0_3 hc0_3
 have HR1_1 := Aside0.mk hr1_1
 have HC1_1 := Aside0.mk hc1_1
 clear hr1_1 hc1_1
 have HR1_2 := Aside0.mk hr1_2
 have HC1_2 := Aside0.mk hc1_2
 clear hr1_2 hc1_2
 have HR1_3 := Aside0.mk hr1_3
 have HC1_3 := Aside0.mk hc1_3
 clear hr1_3 hc1_3
 have HB := Aside0.mk (Below.refl w.heap.size w)
 have H := h
 clear h
 unfold poslist_List_together_fn59_fn60.f at H
 have HC5 := Aside0.mk H
 clear H
 go_enter Tryz.func55, Tryz.ntmps55
 go_upto_region 1 with (first | ((with_reducible refine gate_dst (N := 4) rfl ?_); refine boxE HB 4 27 #[.int .i64 a0_0, .slice A0_1 l0_1.length c0_1, .slice A0_2 l0_2.length c0_2, .slice A0_3 l0_3.length c0_3] ?_; clear HB; intro gb578 w6 BK578 GW578 hg hb HB; have GE578 := GW578; clear hb hg) | ((with_reducible refine gate_dst (N := 5) rfl ?_); refine boxE HB 5 27 #[.int .i64 a1_0, .slice A1_1 l1_1.length c1_1, .slice A1_2 l1_2.length c1_2, .slice A1_3 l1_3.length c1_3] ?_; clear HB; intro gb579 w7 BK579 GW579 hg hb HB; have GE579 := GW579; have NB578_579 := bna BK578 hg; have NB579_578 := bma BK578 hg; replace BK578 := bba BK578 hb; clear hb hg) | ((with_reducible refine gate_dst (N := 8) rfl ?_); refine boxE HB 8 27 #[.int .i64 0, .slice none 0 0, .slice none 0 0, .slice none 0 0] ?_; clear HB; intro gb580 w8 BK580 GW580 hg hb HB; have GE580 := GW580; have NB578_580 := bna BK578 hg; have NB580_578 := bma BK578 hg; replace BK578 := bba BK578 hb; have NB579_580 := bna BK579 hg; have NB580_579 := bma BK579 hg; replace BK579 := bba BK579 hb; clear hb hg))
 (simp only [Act.put, List.setIfInBounds_toArray, List.set_cons_zero, List.set_cons_succ])
 go_cut [22] (fun v22 wc => ∃ (kq : Nat) (x22_4 : Bool), v22 = .bool x22_4 ∧ Aside0 (poslist_List_together_fn59_fn60.j0 kq x22_4 a0_0 l0_1 l0_2 l0_3 a1_0 l1_1 l1_2 l1_3 = some (r1, r2, r3, r4)) ∧ Aside0 (kq ≤ k) ∧ Aside0 (wc.heap[gb578]? = some (.cells #[.int .i64 a0_0, (.slice A0_1 l0_1.length c0_1), (.slice A0_2 l0_2.length c0_2), (.slice A0_3 l0_3.length c0_3)] 27 (0, 0))) ∧ Aside0 (wc.heap[gb579]? = some (.cells #[.int .i64 a1_0, (.slice A1_1 l1_1.length c1_1), (.slice A1_2 l1_2.length c1_2), (.slice A1_3 l1_3.length c1_3)] 27 (0, 0))) ∧ Aside0 (wc.heap[gb580]? = some (.cells #[.int .i64 0, (.slice none 0 0), (.slice none 0 0), (.slice none 0 0)] 27 (0, 0))) ∧ Aside0 (Below w.heap.size w wc))
 case first =>
  have H := HC5.out
  clear HC5
  replace H := ife H
  rcases H with ⟨-, c9b0, c9b1, H⟩ | ⟨c9, c9b0, c9b1, H⟩
  ·(skip)
   have H' := Aside0.mk H
   clear H
   have hnb10 := NB578_579.out
   have hnc10 := NB579_578.out
   have hnb11 := NB578_580.out
   have hnc11 := NB580_578.out
   obtain ⟨hcz12_0, hcz12_1, hcz12_2, hcz12_3, hfz12_0, hfz12_1, hfz12_2, hfz12_3⟩ := b4 BK578
   go_wp2
   go_meet
   case rel => exact ⟨_, (true), (by rfl), H', ⟨by omega⟩, ⟨bx BK578.out⟩, ⟨bx BK579.out⟩, ⟨bx BK580.out⟩, ⟨bh HB.out⟩⟩
  ·(skip)
   have H' := Aside0.mk H
   clear H
   have hnb13 := NB578_579.out
   have hnc13 := NB579_578.out
   have hnb14 := NB578_580.out
   have hnc14 := NB580_578.out
   obtain ⟨hcz15_0, hcz15_1, hcz15_2, hcz15_3, hfz15_0, hfz15_1, hfz15_2, hfz15_3⟩ := b4 BK578
   have hnb16 := NB579_580.out
   have hnc16 := NB580_579.out
   obtain ⟨hcz17_0, hcz17_1, hcz17_2, hcz17_3, hfz17_0, hfz17_1, hfz17_2, hfz17_3⟩ := b4 BK579
   go_wp2
   go_meet
   case rel => exact ⟨_, ((a1_0 == 2)), (by rfl), H', ⟨by omega⟩, ⟨bx BK578.out⟩, ⟨bx BK579.out⟩, ⟨bx BK580.out⟩, ⟨bh HB.out⟩⟩
 case rest =>
  clear HC5
  obtain ⟨kq, x22_4, rfl, HA, HJ4, BK578, BK579, BK580, HB⟩ := hcut
  cases kq with
  | zero => exact absurd HA.out (by simp [poslist_List_together_fn59_fn60.j0])
  | succ kj4 =>
   have H := HA.out
   clear HA
   simp only [poslist_List_together_fn59_fn60.j0] at H
   replace H := ifb H
   rcases H with ⟨rfl, H⟩ | ⟨rfl, H⟩
   ·replace H := bd H
    obtain ⟨t581, A19, H⟩ := H
    replace H := bd H
    obtain ⟨t584, A20, H⟩ := H
    replace H := bd H
    obtain ⟨⟨t587, t590⟩, A21, H⟩ := H
    dsimp only at H
    replace H := bd H
    obtain ⟨⟨t591, t592⟩, A22, H⟩ := H
    dsimp only at H
    replace H := bd H
    obtain ⟨⟨t595, t596, t599, t602⟩, A23, H⟩ := H
    dsimp only at H
    simp only [Option.some.injEq, Prod.mk.injEq] at H
    obtain ⟨rfl, rfl, rfl, rfl⟩ := H
    go_wp2
    replace BK578 := Aside0.mk (blk_drew BK578.out)
    replace BK579 := Aside0.mk (blk_drew BK579.out)
    replace BK580 := Aside0.mk (blk_drew BK580.out)
    replace HB := Aside0.mk (below_drew1 HB.out)
    refine start_ (n := 11) (S := fun w' => w'.cell? ⟨gb578, 0, none⟩ = some (.int .i64 a0_0) ∧ w'.cell? ⟨gb578, 1, none⟩ = some (.slice A0_1 l0_1.length c0_1) ∧ w'.cell? ⟨gb578, 2, none⟩ = some (.slice A0_2 l0_2.length c0_2) ∧ w'.cell? ⟨gb578, 3, none⟩ = some (.slice A0_3 l0_3.length c0_3) ∧ w'.cell? ⟨gb579, 0, none⟩ = some (.int .i64 a1_0) ∧ w'.cell? ⟨gb579, 1, none⟩ = some (.slice A1_1 l1_1.length c1_1) ∧ w'.cell? ⟨gb579, 2, none⟩ = some (.slice A1_2 l1_2.length c1_2) ∧ w'.cell? ⟨gb579, 3, none⟩ = some (.slice A1_3 l1_3.length c1_3)) (ds := []) #[false, false, false, false, false, false, false, false, false, false, false] (by kernel_rfl) rfl rfl ⟨(blk_cell BK578.out 0).trans rfl, (blk_cell BK578.out 1).trans rfl, (blk_cell BK578.out 2).trans rfl, (blk_cell BK578.out 3).trans rfl, (blk_cell BK579.out 0).trans rfl, (blk_cell BK579.out 1).trans rfl, (blk_cell BK579.out 2).trans rfl, (blk_cell BK579.out 3).trans rfl⟩ (fun hHeld => ?_); refine with_tabW poslist_List_together_fn59_fn60.tab2 poslist_List_together_fn59_fn60.bits2 (fun HT_ HW_ => ?_)
    generalize wc.drew = w24 at BK578 BK579 BK580 HB hHeld ⊢
    refine puA HT_ 0 24 (bv 11 1) ?_
    refine taA HT_ HW_ hHeld 1 25 (bv 11 3) ?_
    refine taA HT_ HW_ hHeld 3 27 (bv 11 11) ?_
    refine one_ (i := 2) (N := some 26) #[true, true, true, true, false, false, false, false, false, false, false] rfl rfl (one_of HT_.out (by kernel_rfl)) (by decide) (fun K hK => ?_)
    refine goes_ Tryz.func84 (by kernel_rfl) rfl #[.agg #[.int .i64 a0_0, .slice A0_1 l0_1.length c0_1, .slice A0_2 l0_2.length c0_2, .slice A0_3 l0_3.length c0_3]] (by rfl) rfl rfl (by (simp only [List.map_toArray, List.map_cons, List.map_nil]); rfl) ?_
    with_reducible refine (poslist_List_bits.calls kj4 a0_0 _ _ l0_1 (fun k_ => k_ < w.heap.size) _ _ l0_2 _ _ l0_3 t581 _ ?side1 ?side2 ?side3 ?side4 ?side5 A19.out).mono ?_
    (case side1 => exact cx (Kd.C_below HR0_1.out HB.out))
    (case side2 => exact HC0_1.out)
    (case side3 => exact Kd.V_mk HC0_2.out (Kd.F_below (Kd.C_F (Kd.heap_int .i64) HR0_2.out) (bh HB.out)))
    (case side4 => exact cx (Kd.C_below HR0_3.out HB.out))
    (case side5 => exact HC0_3.out)
    rintro e w25 ⟨v582, rfl, ho0, hb⟩
    refine ⟨_, rfl, ?_⟩
    have HO583 := Aside0.mk (Kd.V_lower (Kd.V_mono (ok' := fun k_ => k_ ≠ gb578 ∧ k_ ≠ gb579 ∧ k_ ≠ gb580) ho0 (fun k_ hk_ => ⟨Or.elim hk_ (fun hs_ => fun e_ => Nat.not_le.2 hs_ (by rw [e_]; exact GW578.out)) (fun hn_ => (Kd.freshB (g := gb578) (o := .cells #[.int .i64 a0_0, .slice A0_1 l0_1.length c0_1, .slice A0_2 l0_2.length c0_2, .slice A0_3 l0_3.length c0_3] 27 (0, 0)) (bx BK578.out) k_ hn_)), Or.elim hk_ (fun hs_ => fun e_ => Nat.not_le.2 hs_ (by rw [e_]; exact GW579.out)) (fun hn_ => (Kd.freshB (g := gb579) (o := .cells #[.int .i64 a1_0, .slice A1_1 l1_1.length c1_1, .slice A1_2 l1_2.length c1_2, .slice A1_3 l1_3.length c1_3] 27 (0, 0)) (bx BK579.out) k_ hn_)), Or.elim hk_ (fun hs_ => fun e_ => Nat.not_le.2 hs_ (by rw [e_]; exact GW580.out)) (fun hn_ => (Kd.freshB (g := gb580) (o := .cells #[.int .i64 0, .slice none 0 0, .slice none 0 0, .slice none 0 0] 27 (0, 0)) (bx BK580.out) k_ hn_))⟩)) (below_size (bh HB.out)))
    replace BK578 := bba BK578 hb
    replace BK579 := bba BK579 hb
    replace BK580 := bba BK580 hb
    replace HB := bsa HB hb
    clear hb ho0
    refine hK.out _ _ ⟨(blk_cell BK578.out 0).trans rfl, (blk_cell BK578.out 1).trans rfl, (blk_cell BK578.out 2).trans rfl, (blk_cell BK578.out 3).trans rfl, (blk_cell BK579.out 0).trans rfl, (blk_cell BK579.out 1).trans rfl, (blk_cell BK579.out 2).trans rfl, (blk_cell BK579.out 3).trans rfl⟩ (fun hHeld => ?_)
    clear hK K
    refine norm_ (a' := ?_) ?_ ?_
    rotate_left
    ·show Act.put _ (some 26) _ = _
     simp only [Act.put, List.setIfInBounds_toArray, List.set_cons_zero, List.set_cons_succ, i64_w, i32_w]
     rfl
    refine one_ (i := 4) (N := some 28) #[true, true, true, true, true, false, false, false, false, false, false] rfl rfl (one_of HT_.out (by kernel_rfl)) (by decide) (fun K hK => ?_)
    refine goes_ Tryz.func84 (by kernel_rfl) rfl #[.agg #[.int .i64 a1_0, .slice A1_1 l1_1.length c1_1, .slice A1_2 l1_2.length c1_2, .slice A1_3 l1_3.length c1_3]] (by rfl) rfl rfl (by (simp only [List.map_toArray, List.map_cons, List.map_nil]); rfl) ?_
    with_reducible refine (poslist_List_bits.calls kj4 a1_0 _ _ l1_1 (fun k_ => k_ < w.heap.size) _ _ l1_2 _ _ l1_3 t584 _ ?side1 ?side2 ?side3 ?side4 ?side5 A20.out).mono ?_
    (case side1 => exact cx (Kd.C_below HR1_1.out HB.out))
    (case side2 => exact HC1_1.out)
    (case side3 => exact Kd.V_mk HC1_2.out (Kd.F_below (Kd.C_F (Kd.heap_int .i64) HR1_2.out) (bh HB.out)))
    (case side4 => exact cx (Kd.C_below HR1_3.out HB.out))
    (case side5 => exact HC1_3.out)
    rintro e w26 ⟨v585, rfl, ho0, hb⟩
    refine ⟨_, rfl, ?_⟩
    replace HO583 := Aside0.mk (Kd.V_below (by exact HO583.out) hb)
    have HO586 := Aside0.mk (Kd.V_lower (Kd.V_mono (ok' := fun k_ => k_ ≠ gb578 ∧ k_ ≠ gb579 ∧ k_ ≠ gb580) ho0 (fun k_ hk_ => ⟨Or.elim hk_ (fun hs_ => fun e_ => Nat.not_le.2 hs_ (by rw [e_]; exact GW578.out)) (fun hn_ => (Kd.freshB (g := gb578) (o := .cells #[.int .i64 a0_0, .slice A0_1 l0_1.length c0_1, .slice A0_2 l0_2.length c0_2, .slice A0_3 l0_3.length c0_3] 27 (0, 0)) (bx BK578.out) k_ hn_)), Or.elim hk_ (fun hs_ => fun e_ => Nat.not_le.2 hs_ (by rw [e_]; exact GW579.out)) (fun hn_ => (Kd.freshB (g := gb579) (o := .cells #[.int .i64 a1_0, .slice A1_1 l1_1.length c1_1, .slice A1_2 l1_2.length c1_2, .slice A1_3 l1_3.length c1_3] 27 (0, 0)) (bx BK579.out) k_ hn_)), Or.elim hk_ (fun hs_ => fun e_ => Nat.not_le.2 hs_ (by rw [e_]; exact GW580.out)) (fun hn_ => (Kd.freshB (g := gb580) (o := .cells #[.int .i64 0, .slice none 0 0, .slice none 0 0, .slice none 0 0] 27 (0, 0)) (bx BK580.out) k_ hn_))⟩)) (below_size (bh HB.out)))
    replace BK578 := bba BK578 hb
    replace BK579 := bba BK579 hb
    replace BK580 := bba BK580 hb
    replace HB := bsa HB hb
    clear hb ho0
    obtain ⟨Ao27, co27, eo27⟩ := Kd.V_slice HO583.out
    (subst eo27)
    obtain ⟨Ao28, co28, eo28⟩ := Kd.V_slice HO586.out
    (subst eo28)
    refine hK.out _ _ ⟨(blk_cell BK578.out 0).trans rfl, (blk_cell BK578.out 1).trans rfl, (blk_cell BK578.out 2).trans rfl, (blk_cell BK578.out 3).trans rfl, (blk_cell BK579.out 0).trans rfl, (blk_cell BK579.out 1).trans rfl, (blk_cell BK579.out 2).trans rfl, (blk_cell BK579.out 3).trans rfl⟩ (fun hHeld => ?_)
    clear hK K
    refine norm_ (a' := ?_) ?_ ?_
    rotate_left
    ·show Act.put _ (some 28) _ = _
     simp only [Act.put, List.setIfInBounds_toArray, List.set_cons_zero, List.set_cons_succ, i64_w, i32_w]
     rfl
    refine one_ (i := 5) (N := some 29) #[true, true, true, true, true, true, false, false, false, false, false] rfl rfl (one_of HT_.out (by kernel_rfl)) (by decide) (fun K hK => ?_)
    (refine goesW_ Tryz.func59 (by kernel_rfl) rfl #[.slice Ao27 t581.length co27, .slice Ao28 t584.length co28] (by rfl) rfl rfl rfl (by (simp only [List.map_toArray, List.map_cons, List.map_nil]); rfl) ?_)
    with_reducible refine (words_Or.calls kj4 _ _ t581 _ _ t584 t587 t590 _ ?side1 ?side2 ?side3 ?side4 A21.out).mono ?_
    (case side1 => exact cx (Kd.V_reads' HO583.out).2.2)
    (case side2 => exact (Kd.V_reads' HO583.out).2.1)
    (case side3 => exact cx (Kd.V_reads' HO586.out).2.2)
    (case side4 => exact (Kd.V_reads' HO586.out).2.1)
    rintro e w29 ⟨v588, rfl, ho0, hb⟩
    refine ⟨_, rfl, ?_⟩
    replace HO583 := Aside0.mk (Kd.V_below (by exact HO583.out) hb)
    replace HO586 := Aside0.mk (Kd.V_below (by exact HO586.out) hb)
    have HO589 := Aside0.mk (Kd.V_lower (Kd.V_mono (ok' := fun k_ => k_ ≠ gb578 ∧ k_ ≠ gb579 ∧ k_ ≠ gb580) ho0 (fun k_ hk_ => ⟨(Kd.freshB (g := gb578) (o := .cells #[.int .i64 a0_0, .slice A0_1 l0_1.length c0_1, .slice A0_2 l0_2.length c0_2, .slice A0_3 l0_3.length c0_3] 27 (0, 0)) (bx BK578.out) k_ hk_), (Kd.freshB (g := gb579) (o := .cells #[.int .i64 a1_0, .slice A1_1 l1_1.length c1_1, .slice A1_2 l1_2.length c1_2, .slice A1_3 l1_3.length c1_3] 27 (0, 0)) (bx BK579.out) k_ hk_), (Kd.freshB (g := gb580) (o := .cells #[.int .i64 0, .slice none 0 0, .slice none 0 0, .slice none 0 0] 27 (0, 0)) (bx BK580.out) k_ hk_)⟩)) (below_size (bh HB.out)))
    replace BK578 := bba BK578 hb
    replace BK579 := bba BK579 hb
    replace BK580 := bba BK580 hb
    replace HB := bsa HB hb
    clear hb ho0
    refine hK.out _ _ ⟨(blk_cell BK578.out 0).trans rfl, (blk_cell BK578.out 1).trans rfl, (blk_cell BK578.out 2).trans rfl, (blk_cell BK578.out 3).trans rfl, (blk_cell BK579.out 0).trans rfl, (blk_cell BK579.out 1).trans rfl, (blk_cell BK579.out 2).trans rfl, (blk_cell BK579.out 3).trans rfl⟩ (fun hHeld => ?_)
    clear hK K
    refine norm_ (a' := ?_) ?_ ?_
    rotate_left
    ·show Act.put _ (some 29) _ = _
     simp only [Act.put, List.setIfInBounds_toArray, List.set_cons_zero, List.set_cons_succ, i64_w, i32_w]
     rfl
    refine puA HT_ 6 23 (bv 11 127) ?_
    refine puA HT_ 7 30 (bv 11 255) ?_
    refine puA HT_ 8 31 (bv 11 511) ?_
    refine puA HT_ 9 9 (bv 11 1023) ?_
    refine puA HT_ 10 10 (bv 11 2047) ?_
    refine done_ (done_of HT_.out (by kernel_rfl)) ?_
    obtain ⟨Ao30, co30, eo30⟩ := Kd.V_slice HO589.out
    subst eo30
    go_wp2_with (first | ((with_reducible refine gate_callee (f := 53) rfl ?_); refine gL 34 Tryz.func53 #[.slice Ao30 t587.length co30] ?_; (with_reducible refine (words_Spans.calls kj4 _ _ t587 t591 t592 _ ?side1 ?side2 A22.out).mono ?_); (case side1 => exact cx (Kd.V_reads' HO589.out).2.2); (case side2 => exact (Kd.V_reads' HO589.out).2.1); rintro e w31 ⟨v593, rfl, ho0, hb⟩; refine ⟨_, rfl, ?_⟩; replace HO583 := Aside0.mk (Kd.V_elder' (by exact HO583.out) (Kd.R_base ho0) hb); replace HO586 := Aside0.mk (Kd.V_elder' (by exact HO586.out) (Kd.R_base ho0) hb); replace HO589 := Aside0.mk (Kd.V_elder' (by exact HO589.out) (Kd.R_base ho0) hb); have HO594 := Aside0.mk (Kd.R_lower ho0 (below_size (bh HB.out))); replace BK578 := bba BK578 hb; replace BK579 := bba BK579 hb; replace BK580 := bba BK580 hb; replace HB := bsa HB hb; clear hb ho0; obtain ⟨Ao32, co32, eo32⟩ := Kd.R_slice HO594.out; subst eo32) | ((with_reducible refine gate_callee (f := 64) rfl ?_); refine gL 38 Tryz.func64 #[.slice Ao32 t591.length co32] ?_; (with_reducible refine (poslist_best.calls kj4 _ _ t591 t595 t596 t599 t602 _ ?side1 ?side2 A23.out).mono ?_); (case side1 => exact cx (Kd.R_reads' HO594.out).2.2); (case side2 => exact (Kd.R_reads' HO594.out).2.1); rintro e w33 ⟨v597, v600, v603, rfl, ho0, ho1, ho2, hb⟩; refine ⟨_, rfl, ?_⟩; replace HO583 := Aside0.mk (Kd.V_mono (Kd.V_told (Kd.V_told (Kd.V_told (Kd.V_old (by exact HO583.out) hb) (Kd.R_base ho0)) (Kd.R_base ho1)) (Kd.R_base ho2)) (fun _ h_ => h_.1)); replace HO586 := Aside0.mk (Kd.V_mono (Kd.V_told (Kd.V_told (Kd.V_told (Kd.V_old (by exact HO586.out) hb) (Kd.R_base ho0)) (Kd.R_base ho1)) (Kd.R_base ho2)) (fun _ h_ => h_.1)); replace HO589 := Aside0.mk (Kd.V_mono (Kd.V_told (Kd.V_told (Kd.V_told (Kd.V_old (by exact HO589.out) hb) (Kd.R_base ho0)) (Kd.R_base ho1)) (Kd.R_base ho2)) (fun _ h_ => h_.1)); have HO598 := Aside0.mk (Kd.R_lower (Kd.R_new' ho0 (Kd.R_lt (rx HO594.out))) (below_size (bh HB.out))); replace HO594 := Aside0.mk (Kd.R_elder' (rx HO594.out) (Kd.R_base ho0) hb); have HO601 := Aside0.mk (Kd.R_lower ho1 (below_size (bh HB.out))); have HO604 := Aside0.mk (Kd.R_lower ho2 (below_size (bh HB.out))); replace BK578 := bba BK578 hb; replace BK579 := bba BK579 hb; replace BK580 := bba BK580 hb; replace HB := bsa HB hb; clear hb ho0 ho1 ho2; have hnb34 := NB580_578.out; have hnc34 := NB578_580.out; have hnb35 := NB580_579.out; have hnc35 := NB579_580.out; obtain ⟨hcz36_0, hcz36_1, hcz36_2, hcz36_3, hfz36_0, hfz36_1, hfz36_2, hfz36_3⟩ := b4 BK580; obtain ⟨Ao37, co37, eo37⟩ := Kd.R_slice HO598.out; subst eo37; obtain ⟨Ao38, co38, eo38⟩ := Kd.R_slice HO601.out; subst eo38; obtain ⟨Ao39, co39, eo39⟩ := Kd.R_slice HO604.out; subst eo39) | ((with_reducible refine gate_store (t := 27) (p := 8) rfl ?_); refine stE 27 8 ((((w33.setCell ⟨gb580, 0, none⟩ (.int .i64 t595)).setCell ⟨gb580, 1, none⟩ (.slice Ao37 t596.length co37)).setCell ⟨gb580, 2, none⟩ (.slice Ao38 t599.length co38)).setCell ⟨gb580, 3, none⟩ (.slice Ao39 t602.length co39)) ?_; intro w40 hw; have n0_ : Aside0 (Kd.V (Kd.int .i64) 3 w40 w.heap.size (fun k_ => some k_ ≠ (.slice Ao32 t591.length co32 : Value).ownBlock ∧ some k_ ≠ (.slice Ao37 t596.length co37 : Value).ownBlock ∧ some k_ ≠ (.slice Ao38 t599.length co38 : Value).ownBlock ∧ some k_ ≠ (.slice Ao39 t602.length co39 : Value).ownBlock ∧ k_ ≠ gb578 ∧ k_ ≠ gb579 ∧ k_ ≠ gb580) (.slice Ao27 t581.length co27) t581) := ⟨(by rw [hw]; exact (by exact Kd.V_mono (Kd.V_far (p := ⟨gb580, 3, none⟩) (Kd.V_far (p := ⟨gb580, 2, none⟩) (Kd.V_far (p := ⟨gb580, 1, none⟩) (Kd.V_far (p := ⟨gb580, 0, none⟩) (Kd.V_mono HO583.out (fun k_ hk => (⟨hk, hk.1.1.1.1.2.2⟩ : _ ∧ k_ ≠ gb580))) (fun _ hk => hk.2) (.int .i64 t595)) (fun _ hk => hk.2) (.slice Ao37 t596.length co37)) (fun _ hk => hk.2) (.slice Ao38 t599.length co38)) (fun _ hk => hk.2) (.slice Ao39 t602.length co39)) (fun _ hk => ⟨hk.1.1.1.1.2, ⟨hk.1.1.1.2, ⟨hk.1.1.2, ⟨hk.1.2, ⟨hk.1.1.1.1.1.1, ⟨hk.1.1.1.1.1.2.1, hk.1.1.1.1.1.2.2⟩⟩⟩⟩⟩⟩)))⟩; have n1_ : Aside0 (Kd.V (Kd.int .i64) 3 w40 w.heap.size (fun k_ => some k_ ≠ (.slice Ao32 t591.length co32 : Value).ownBlock ∧ some k_ ≠ (.slice Ao37 t596.length co37 : Value).ownBlock ∧ some k_ ≠ (.slice Ao38 t599.length co38 : Value).ownBlock ∧ some k_ ≠ (.slice Ao39 t602.length co39 : Value).ownBlock ∧ k_ ≠ gb578 ∧ k_ ≠ gb579 ∧ k_ ≠ gb580) (.slice Ao28 t584.length co28) t584) := ⟨(by rw [hw]; exact (by exact Kd.V_mono (Kd.V_far (p := ⟨gb580, 3, none⟩) (Kd.V_far (p := ⟨gb580, 2, none⟩) (Kd.V_far (p := ⟨gb580, 1, none⟩) (Kd.V_far (p := ⟨gb580, 0, none⟩) (Kd.V_mono HO586.out (fun k_ hk => (⟨hk, hk.1.1.1.1.2.2⟩ : _ ∧ k_ ≠ gb580))) (fun _ hk => hk.2) (.int .i64 t595)) (fun _ hk => hk.2) (.slice Ao37 t596.length co37)) (fun _ hk => hk.2) (.slice Ao38 t599.length co38)) (fun _ hk => hk.2) (.slice Ao39 t602.length co39)) (fun _ hk => ⟨hk.1.1.1.1.2, ⟨hk.1.1.1.2, ⟨hk.1.1.2, ⟨hk.1.2, ⟨hk.1.1.1.1.1.1, ⟨hk.1.1.1.1.1.2.1, hk.1.1.1.1.1.2.2⟩⟩⟩⟩⟩⟩)))⟩; have n2_ : Aside0 (Kd.V (Kd.int .i64) 3 w40 w.heap.size (fun k_ => some k_ ≠ (.slice Ao32 t591.length co32 : Value).ownBlock ∧ some k_ ≠ (.slice Ao37 t596.length co37 : Value).ownBlock ∧ some k_ ≠ (.slice Ao38 t599.length co38 : Value).ownBlock ∧ some k_ ≠ (.slice Ao39 t602.length co39 : Value).ownBlock ∧ k_ ≠ gb578 ∧ k_ ≠ gb579 ∧ k_ ≠ gb580) (.slice Ao30 t587.length co30) t587) := ⟨(by rw [hw]; exact (by exact Kd.V_mono (Kd.V_far (p := ⟨gb580, 3, none⟩) (Kd.V_far (p := ⟨gb580, 2, none⟩) (Kd.V_far (p := ⟨gb580, 1, none⟩) (Kd.V_far (p := ⟨gb580, 0, none⟩) (Kd.V_mono HO589.out (fun k_ hk => (⟨hk, hk.1.1.1.1.2.2⟩ : _ ∧ k_ ≠ gb580))) (fun _ hk => hk.2) (.int .i64 t595)) (fun _ hk => hk.2) (.slice Ao37 t596.length co37)) (fun _ hk => hk.2) (.slice Ao38 t599.length co38)) (fun _ hk => hk.2) (.slice Ao39 t602.length co39)) (fun _ hk => ⟨hk.1.1.1.1.2, ⟨hk.1.1.1.2, ⟨hk.1.1.2, ⟨hk.1.2, ⟨hk.1.1.1.1.1.1, ⟨hk.1.1.1.1.1.2.1, hk.1.1.1.1.1.2.2⟩⟩⟩⟩⟩⟩)))⟩; have n3_ := rsm (fun k_ => some k_ ≠ (.slice Ao37 t596.length co37 : Value).ownBlock) HO594 hw (fun _ hk => hk.2); have n4_ := rsm (fun k_ => some k_ ≠ (.slice Ao32 t591.length co32 : Value).ownBlock) HO598 hw (fun _ hk => hk.2); have n5_ := rst HO601 hw; have n6_ := rst HO604 hw; have n7_ : Aside0 (w40.heap[gb578]? = some (.cells #[.int .i64 a0_0, .slice A0_1 l0_1.length c0_1, .slice A0_2 l0_2.length c0_2, .slice A0_3 l0_3.length c0_3] 27 (0, 0))) := ⟨(by rw [hw]; exact (bx BK578.out))⟩; have n8_ : Aside0 (w40.heap[gb579]? = some (.cells #[.int .i64 a1_0, .slice A1_1 l1_1.length c1_1, .slice A1_2 l1_2.length c1_2, .slice A1_3 l1_3.length c1_3] 27 (0, 0))) := ⟨(by rw [hw]; exact (bx BK579.out))⟩; have n9_ := sps #[.int .i64 t595, .slice Ao37 t596.length co37, .slice Ao38 t599.length co38, .slice Ao39 t602.length co39] BK580 hw (.p (.p (.p (.p .nil)))); have n10_ := bhw HB hw; clear hw HO583 HO586 HO589 HO594 HO598 HO601 HO604 BK578 BK579 BK580 HB; have HO583 := n0_; have HO586 := n1_; have HO589 := n2_; have HO594 := n3_; have HO598 := n4_; have HO601 := n5_; have HO604 := n6_; have BK578 := n7_; have BK579 := n8_; have BK580 := n9_; have HB := n10_; clear n0_ n1_ n2_ n3_ n4_ n5_ n6_ n7_ n8_ n9_ n10_))
    refine bodyPost_ret (results_cell_row rfl _ _ gb580 27 #[.int .i64 t595, .slice Ao37 t596.length co37, .slice Ao38 t599.length co38, .slice Ao39 t602.length co39] (0, 0) _ rfl (bx BK580.out) Tryz.underlying27 rfl (by kernel_rfl)) rfl ?_
    exact ⟨_, _, _, er, by exact Kd.R_mono HO598.out (fun _ hk => trivial), by exact HO601.out, by exact HO604.out, bh HB.out⟩
   ·replace H := bd H
    obtain ⟨t605, A41, H⟩ := H
    replace H := bd H
    obtain ⟨t608, A42, H⟩ := H
    replace H := bd H
    obtain ⟨⟨t611, t612⟩, A43, H⟩ := H
    dsimp only at H
    replace H := bd H
    obtain ⟨⟨t615, t616, t619, t622⟩, A44, H⟩ := H
    dsimp only at H
    simp only [Option.some.injEq, Prod.mk.injEq] at H
    obtain ⟨rfl, rfl, rfl, rfl⟩ := H
    go_wp2
    replace BK578 := Aside0.mk (blk_drew BK578.out)
    replace BK579 := Aside0.mk (blk_drew BK579.out)
    replace BK580 := Aside0.mk (blk_drew BK580.out)
    replace HB := Aside0.mk (below_drew1 HB.out)
    refine start_ (n := 11) (S := fun w' => w'.cell? ⟨gb578, 0, none⟩ = some (.int .i64 a0_0) ∧ w'.cell? ⟨gb578, 1, none⟩ = some (.slice A0_1 l0_1.length c0_1) ∧ w'.cell? ⟨gb578, 2, none⟩ = some (.slice A0_2 l0_2.length c0_2) ∧ w'.cell? ⟨gb578, 3, none⟩ = some (.slice A0_3 l0_3.length c0_3) ∧ w'.cell? ⟨gb579, 0, none⟩ = some (.int .i64 a1_0) ∧ w'.cell? ⟨gb579, 1, none⟩ = some (.slice A1_1 l1_1.length c1_1) ∧ w'.cell? ⟨gb579, 2, none⟩ = some (.slice A1_2 l1_2.length c1_2) ∧ w'.cell? ⟨gb579, 3, none⟩ = some (.slice A1_3 l1_3.length c1_3)) (ds := []) #[false, false, false, false, false, false, false, false, false, false, false] (by kernel_rfl) rfl rfl ⟨(blk_cell BK578.out 0).trans rfl, (blk_cell BK578.out 1).trans rfl, (blk_cell BK578.out 2).trans rfl, (blk_cell BK578.out 3).trans rfl, (blk_cell BK579.out 0).trans rfl, (blk_cell BK579.out 1).trans rfl, (blk_cell BK579.out 2).trans rfl, (blk_cell BK579.out 3).trans rfl⟩ (fun hHeld => ?_); refine with_tabW poslist_List_together_fn59_fn60.tab5 poslist_List_together_fn59_fn60.bits5 (fun HT_ HW_ => ?_)
    generalize wc.drew = w45 at BK578 BK579 BK580 HB hHeld ⊢
    refine puA HT_ 0 40 (bv 11 1) ?_
    refine taA HT_ HW_ hHeld 1 41 (bv 11 3) ?_
    refine taA HT_ HW_ hHeld 3 43 (bv 11 11) ?_
    refine one_ (i := 2) (N := some 42) #[true, true, true, true, false, false, false, false, false, false, false] rfl rfl (one_of HT_.out (by kernel_rfl)) (by decide) (fun K hK => ?_)
    refine goes_ Tryz.func20 (by kernel_rfl) rfl #[.agg #[.int .i64 a0_0, .slice A0_1 l0_1.length c0_1, .slice A0_2 l0_2.length c0_2, .slice A0_3 l0_3.length c0_3]] (by rfl) rfl rfl (by (simp only [List.map_toArray, List.map_cons, List.map_nil]); rfl) ?_
    with_reducible refine (poslist_List_Spans.calls kj4 a0_0 _ _ l0_1 _ _ l0_2 _ _ l0_3 t605 _ ?side1 ?side2 ?side3 ?side4 ?side5 ?side6 A41.out).mono ?_
    (case side1 => exact cx (Kd.C_below HR0_1.out HB.out))
    (case side2 => exact HC0_1.out)
    (case side3 => exact cx (Kd.C_below HR0_2.out HB.out))
    (case side4 => exact HC0_2.out)
    (case side5 => exact cx (Kd.C_below HR0_3.out HB.out))
    (case side6 => exact HC0_3.out)
    rintro e w46 ⟨v606, rfl, ho0, hb⟩
    refine ⟨_, rfl, ?_⟩
    have HO607 := Aside0.mk (Kd.R_lower ho0 (below_size (bh HB.out)))
    replace BK578 := bba BK578 hb
    replace BK579 := bba BK579 hb
    replace BK580 := bba BK580 hb
    replace HB := bsa HB hb
    clear hb ho0
    refine hK.out _ _ ⟨(blk_cell BK578.out 0).trans rfl, (blk_cell BK578.out 1).trans rfl, (blk_cell BK578.out 2).trans rfl, (blk_cell BK578.out 3).trans rfl, (blk_cell BK579.out 0).trans rfl, (blk_cell BK579.out 1).trans rfl, (blk_cell BK579.out 2).trans rfl, (blk_cell BK579.out 3).trans rfl⟩ (fun hHeld => ?_)
    clear hK K
    refine norm_ (a' := ?_) ?_ ?_
    rotate_left
    ·show Act.put _ (some 42) _ = _
     simp only [Act.put, List.setIfInBounds_toArray, List.set_cons_zero, List.set_cons_succ, i64_w, i32_w]
     rfl
    refine one_ (i := 4) (N := some 44) #[true, true, true, true, true, false, false, false, false, false, false] rfl rfl (one_of HT_.out (by kernel_rfl)) (by decide) (fun K hK => ?_)
    refine goes_ Tryz.func20 (by kernel_rfl) rfl #[.agg #[.int .i64 a1_0, .slice A1_1 l1_1.length c1_1, .slice A1_2 l1_2.length c1_2, .slice A1_3 l1_3.length c1_3]] (by rfl) rfl rfl (by (simp only [List.map_toArray, List.map_cons, List.map_nil]); rfl) ?_
    with_reducible refine (poslist_List_Spans.calls kj4 a1_0 _ _ l1_1 _ _ l1_2 _ _ l1_3 t608 _ ?side1 ?side2 ?side3 ?side4 ?side5 ?side6 A42.out).mono ?_
    (case side1 => exact cx (Kd.C_below HR1_1.out HB.out))
    (case side2 => exact HC1_1.out)
    (case side3 => exact cx (Kd.C_below HR1_2.out HB.out))
    (case side4 => exact HC1_2.out)
    (case side5 => exact cx (Kd.C_below HR1_3.out HB.out))
    (case side6 => exact HC1_3.out)
    rintro e w47 ⟨v609, rfl, ho0, hb⟩
    refine ⟨_, rfl, ?_⟩
    have HO610 := Aside0.mk (Kd.R_lower (Kd.R_new' ho0 (Kd.R_lt (rx HO607.out))) (below_size (bh HB.out)))
    replace HO607 := Aside0.mk (Kd.R_elder' (rx HO607.out) (Kd.R_base ho0) hb)
    replace BK578 := bba BK578 hb
    replace BK579 := bba BK579 hb
    replace BK580 := bba BK580 hb
    replace HB := bsa HB hb
    clear hb ho0
    obtain ⟨Ao48, co48, eo48⟩ := Kd.R_slice HO607.out
    (subst eo48)
    obtain ⟨Ao49, co49, eo49⟩ := Kd.R_slice HO610.out
    (subst eo49)
    refine hK.out _ _ ⟨(blk_cell BK578.out 0).trans rfl, (blk_cell BK578.out 1).trans rfl, (blk_cell BK578.out 2).trans rfl, (blk_cell BK578.out 3).trans rfl, (blk_cell BK579.out 0).trans rfl, (blk_cell BK579.out 1).trans rfl, (blk_cell BK579.out 2).trans rfl, (blk_cell BK579.out 3).trans rfl⟩ (fun hHeld => ?_)
    clear hK K
    refine norm_ (a' := ?_) ?_ ?_
    rotate_left
    ·show Act.put _ (some 44) _ = _
     simp only [Act.put, List.setIfInBounds_toArray, List.set_cons_zero, List.set_cons_succ, i64_w, i32_w]
     rfl
    refine one_ (i := 5) (N := some 45) #[true, true, true, true, true, true, false, false, false, false, false] rfl rfl (one_of HT_.out (by kernel_rfl)) (by decide) (fun K hK => ?_)
    (refine goesW_ Tryz.func60 (by kernel_rfl) rfl #[.slice Ao48 t605.length co48, .slice Ao49 t608.length co49] (by rfl) rfl rfl rfl (by (simp only [List.map_toArray, List.map_cons, List.map_nil]); rfl) ?_)
    with_reducible refine (span_Or.calls kj4 _ _ t605 _ _ t608 t611 t612 _ ?side1 ?side2 ?side3 ?side4 A43.out).mono ?_
    (case side1 => exact cx (Kd.R_reads' HO607.out).2.2)
    (case side2 => exact (Kd.R_reads' HO607.out).2.1)
    (case side3 => exact cx (Kd.R_reads' HO610.out).2.2)
    (case side4 => exact (Kd.R_reads' HO610.out).2.1)
    rintro e w50 ⟨v613, rfl, ho0, hb⟩
    refine ⟨_, rfl, ?_⟩
    have HO614 := Aside0.mk (Kd.R_lower (Kd.R_new' (Kd.R_new' ho0 (Kd.R_lt (rx HO607.out))) (Kd.R_lt (rx HO610.out))) (below_size (bh HB.out)))
    replace HO607 := Aside0.mk (Kd.R_elder' (rx HO607.out) (Kd.R_base ho0) hb)
    replace HO610 := Aside0.mk (Kd.R_elder' (rx HO610.out) (Kd.R_base ho0) hb)
    replace BK578 := bba BK578 hb
    replace BK579 := bba BK579 hb
    replace BK580 := bba BK580 hb
    replace HB := bsa HB hb
    clear hb ho0
    refine hK.out _ _ ⟨(blk_cell BK578.out 0).trans rfl, (blk_cell BK578.out 1).trans rfl, (blk_cell BK578.out 2).trans rfl, (blk_cell BK578.out 3).trans rfl, (blk_cell BK579.out 0).trans rfl, (blk_cell BK579.out 1).trans rfl, (blk_cell BK579.out 2).trans rfl, (blk_cell BK579.out 3).trans rfl⟩ (fun hHeld => ?_)
    clear hK K
    refine norm_ (a' := ?_) ?_ ?_
    rotate_left
    ·show Act.put _ (some 45) _ = _
     simp only [Act.put, List.setIfInBounds_toArray, List.set_cons_zero, List.set_cons_succ, i64_w, i32_w]
     rfl
    refine puA HT_ 6 39 (bv 11 127) ?_
    refine puA HT_ 7 46 (bv 11 255) ?_
    refine puA HT_ 8 47 (bv 11 511) ?_
    refine puA HT_ 9 13 (bv 11 1023) ?_
    refine puA HT_ 10 14 (bv 11 2047) ?_
    refine done_ (done_of HT_.out (by kernel_rfl)) ?_
    obtain ⟨Ao51, co51, eo51⟩ := Kd.R_slice HO614.out
    subst eo51
    go_wp2_with (first | ((with_reducible refine gate_callee (f := 64) rfl ?_); refine gL 49 Tryz.func64 #[.slice Ao51 t611.length co51] ?_; (with_reducible refine (poslist_best.calls kj4 _ _ t611 t615 t616 t619 t622 _ ?side1 ?side2 A44.out).mono ?_); (case side1 => exact cx (Kd.R_reads' HO614.out).2.2); (case side2 => exact (Kd.R_reads' HO614.out).2.1); rintro e w52 ⟨v617, v620, v623, rfl, ho0, ho1, ho2, hb⟩; refine ⟨_, rfl, ?_⟩; have HO618 := Aside0.mk (Kd.R_lower (Kd.R_new' (Kd.R_new' (Kd.R_new' ho0 (Kd.R_lt (rx HO607.out))) (Kd.R_lt (rx HO610.out))) (Kd.R_lt (rx HO614.out))) (below_size (bh HB.out))); replace HO607 := Aside0.mk (Kd.R_elder' (rx HO607.out) (Kd.R_base ho0) hb); replace HO610 := Aside0.mk (Kd.R_elder' (rx HO610.out) (Kd.R_base ho0) hb); replace HO614 := Aside0.mk (Kd.R_elder' (rx HO614.out) (Kd.R_base ho0) hb); have HO621 := Aside0.mk (Kd.R_lower ho1 (below_size (bh HB.out))); have HO624 := Aside0.mk (Kd.R_lower ho2 (below_size (bh HB.out))); replace BK578 := bba BK578 hb; replace BK579 := bba BK579 hb; replace BK580 := bba BK580 hb; replace HB := bsa HB hb; clear hb ho0 ho1 ho2; have hnb53 := NB580_578.out; have hnc53 := NB578_580.out; have hnb54 := NB580_579.out; have hnc54 := NB579_580.out; obtain ⟨hcz55_0, hcz55_1, hcz55_2, hcz55_3, hfz55_0, hfz55_1, hfz55_2, hfz55_3⟩ := b4 BK580; obtain ⟨Ao56, co56, eo56⟩ := Kd.R_slice HO618.out; subst eo56; obtain ⟨Ao57, co57, eo57⟩ := Kd.R_slice HO621.out; subst eo57; obtain ⟨Ao58, co58, eo58⟩ := Kd.R_slice HO624.out; subst eo58) | ((with_reducible refine gate_store (t := 27) (p := 8) rfl ?_); refine stE 27 8 ((((w52.setCell ⟨gb580, 0, none⟩ (.int .i64 t615)).setCell ⟨gb580, 1, none⟩ (.slice Ao56 t616.length co56)).setCell ⟨gb580, 2, none⟩ (.slice Ao57 t619.length co57)).setCell ⟨gb580, 3, none⟩ (.slice Ao58 t622.length co58)) ?_; intro w59 hw; have n0_ := rsm (fun k_ => some k_ ≠ (.slice Ao49 t608.length co49 : Value).ownBlock ∧ some k_ ≠ (.slice Ao51 t611.length co51 : Value).ownBlock ∧ some k_ ≠ (.slice Ao56 t616.length co56 : Value).ownBlock) HO607 hw (fun _ hk => ⟨hk.1.1.2, ⟨hk.1.2, hk.2⟩⟩); have n1_ := rsm (fun k_ => some k_ ≠ (.slice Ao48 t605.length co48 : Value).ownBlock ∧ some k_ ≠ (.slice Ao51 t611.length co51 : Value).ownBlock ∧ some k_ ≠ (.slice Ao56 t616.length co56 : Value).ownBlock) HO610 hw (fun _ hk => ⟨hk.1.1.2, ⟨hk.1.2, hk.2⟩⟩); have n2_ := rsm (fun k_ => some k_ ≠ (.slice Ao48 t605.length co48 : Value).ownBlock ∧ some k_ ≠ (.slice Ao49 t608.length co49 : Value).ownBlock ∧ some k_ ≠ (.slice Ao56 t616.length co56 : Value).ownBlock) HO614 hw (fun _ hk => ⟨hk.1.1.2, ⟨hk.1.2, hk.2⟩⟩); have n3_ := rsm (fun k_ => some k_ ≠ (.slice Ao48 t605.length co48 : Value).ownBlock ∧ some k_ ≠ (.slice Ao49 t608.length co49 : Value).ownBlock ∧ some k_ ≠ (.slice Ao51 t611.length co51 : Value).ownBlock) HO618 hw (fun _ hk => ⟨hk.1.1.2, ⟨hk.1.2, hk.2⟩⟩); have n4_ := rst HO621 hw; have n5_ := rst HO624 hw; have n6_ : Aside0 (w59.heap[gb578]? = some (.cells #[.int .i64 a0_0, .slice A0_1 l0_1.length c0_1, .slice A0_2 l0_2.length c0_2, .slice A0_3 l0_3.length c0_3] 27 (0, 0))) := ⟨(by rw [hw]; exact (bx BK578.out))⟩; have n7_ : Aside0 (w59.heap[gb579]? = some (.cells #[.int .i64 a1_0, .slice A1_1 l1_1.length c1_1, .slice A1_2 l1_2.length c1_2, .slice A1_3 l1_3.length c1_3] 27 (0, 0))) := ⟨(by rw [hw]; exact (bx BK579.out))⟩; have n8_ := sps #[.int .i64 t615, .slice Ao56 t616.length co56, .slice Ao57 t619.length co57, .slice Ao58 t622.length co58] BK580 hw (.p (.p (.p (.p .nil)))); have n9_ := bhw HB hw; clear hw HO607 HO610 HO614 HO618 HO621 HO624 BK578 BK579 BK580 HB; have HO607 := n0_; have HO610 := n1_; have HO614 := n2_; have HO618 := n3_; have HO621 := n4_; have HO624 := n5_; have BK578 := n6_; have BK579 := n7_; have BK580 := n8_; have HB := n9_; clear n0_ n1_ n2_ n3_ n4_ n5_ n6_ n7_ n8_ n9_))
    refine bodyPost_ret (results_cell_row rfl _ _ gb580 27 #[.int .i64 t615, .slice Ao56 t616.length co56, .slice Ao57 t619.length co57, .slice Ao58 t622.length co58] (0, 0) _ rfl (bx BK580.out) Tryz.underlying27 rfl (by kernel_rfl)) rfl ?_
    exact ⟨_, _, _, er, by exact Kd.R_mono HO618.out (fun _ hk => trivial), by exact HO621.out, by exact HO624.out, bh HB.out⟩
/-! ### poslist_List_Or: function 24 -/
def poslist_List_Or.f (k : Nat) (a0_0 : Int) (l0_1 : List (S64)) (l0_2 : List Int) (l0_3 : List Int) (a1_0 : Int) (l1_1 : List (S64)) (l1_2 : List Int) (l1_3 : List Int) : Option (Int × (List (S64)) × List Int × List Int) := (poslist_List_together_fn59_fn60.f k a0_0 l0_1 l0_2 l0_3 a1_0 l1_1 l1_2 l1_3).bind fun bt628 => (some (bt628.1, bt628.2.1, bt628.2.2.1, bt628.2.2.2))
set_option maxHeartbeats 8000000 in
set_option maxRecDepth 100000 in
theorem poslist_List_Or.calls (k : Nat) (a0_0 : Int) (A0_1 : Option Addr) (c0_1 : Nat) (l0_1 : List (S64)) (A0_2 : Option Addr) (c0_2 : Nat) (l0_2 : List Int) (A0_3 : Option Addr) (c0_3 : Nat) (l0_3 : List Int) (a1_0 : Int) (A1_1 : Option Addr) (c1_1 : Nat) (l1_1 : List (S64)) (A1_2 : Option Addr) (c1_2 : Nat) (l1_2 : List Int) (A1_3 : Option Addr) (c1_3 : Nat) (l1_3 : List Int) (r1 : Int) (r2 : List (S64)) (r3 : List Int) (r4 : List Int) (w : World) (hr0_1 : Kd.C k64 w A0_1 l0_1.length l0_1) (hc0_1 : l0_1.length ≤ c0_1) (hr0_2 : Kd.C (Kd.int .i64) w A0_2 l0_2.length l0_2) (hc0_2 : l0_2.length ≤ c0_2) (hr0_3 : Kd.C (Kd.int .i64) w A0_3 l0_3.length l0_3) (hc0_3 : l0_3.length ≤ c0_3) (hr1_1 : Kd.C k64 w A1_1 l1_1.length l1_1) (hc1_1 : l1_1.length ≤ c1_1) (hr1_2 : Kd.C (Kd.int .i64) w A1_2 l1_2.length l1_2) (hc1_2 : l1_2.length ≤ c1_2) (hr1_3 : Kd.C (Kd.int .i64) w A1_3 l1_3.length l1_3) (hc1_3 : l1_3.length ≤ c1_3) (h : poslist_List_Or.f k a0_0 l0_1 l0_2 l0_3 a1_0 l1_1 l1_2 l1_3 = some (r1, r2, r3, r4)) :
  Calls Tryz.prog 24 #[.agg #[.int .i64 a0_0, .slice A0_1 l0_1.length c0_1, .slice A0_2 l0_2.length c0_2, .slice A0_3 l0_3.length c0_3], .agg #[.int .i64 a1_0, .slice A1_1 l1_1.length c1_1, .slice A1_2 l1_2.length c1_2, .slice A1_3 l1_3.length c1_3]] w fun e w' => ∃ v1_ v2_ v3_ : Value, e = .returned (.agg #[.int .i64 r1, v1_, v2_, v3_]) ∧ Kd.R k64 64 w' w.heap.size (fun _ => True) v1_ r2 ∧ Kd.R (Kd.int .i64) 3 w' w.heap.size (fun k_ => some k_ ≠ (v3_ : Value).ownBlock) v2_ r3 ∧ Kd.R (Kd.int .i64) 3 w' w.heap.size (fun k_ => some k_ ≠ (v2_ : Value).ownBlock) v3_ r4 ∧ Below w.heap.size w w' := by
 have hu27 := Tryz.underlying27
 have HR0_1 := Aside0.mk hr0_1
 have HC0_1 := Aside0.mk hc0_1
 clear hr0_1 hc0_1
 have HR0_2 := Aside0.mk hr0_2
 have HC0_2 := Aside0.mk hc0_2
 clear hr0_2 hc0_2
 have HR0_3 := Aside0.mk hr0_3
 have HC0_3 := Aside0.mk hc0_3
 clear hr0_3 hc0_3
 have HR1_1 := Aside0.mk hr1_1
 have HC1_1 := Aside0.mk hc1_1
 clear hr1_1 hc1_1
 have HR1_2 := Aside0.mk hr1_2
 have HC1_2 := Aside0.mk hc1_2
 clear hr1_2 hc1_2
 have HR1_3 := Aside0.mk hr1_3
 have HC1_3 := Aside0.mk hc1_3
 clear hr1_3 hc1_3
 have HB := Aside0.mk (Below.refl w.heap.size w)
 have H := h
 clear h
 unfold poslist_List_Or.f at H
 replace H := bd H
 obtain ⟨⟨t628, t629, t632, t635⟩, A3, H⟩ := H
 dsimp only at H
 simp only [Option.some.injEq, Prod.mk.injEq] at H
 obtain ⟨rfl, rfl, rfl, rfl⟩ := H
 go_enter Tryz.func24, Tryz.ntmps24
 go_wp2_with (first | ((with_reducible refine gate_dst (N := 2) rfl ?_); refine boxE HB 2 27 #[.int .i64 a0_0, .slice A0_1 l0_1.length c0_1, .slice A0_2 l0_2.length c0_2, .slice A0_3 l0_3.length c0_3] ?_; clear HB; intro gb625 w4 BK625 GW625 hg hb HB; have GE625 := GW625; clear hb hg) | ((with_reducible refine gate_dst (N := 3) rfl ?_); refine boxE HB 3 27 #[.int .i64 a1_0, .slice A1_1 l1_1.length c1_1, .slice A1_2 l1_2.length c1_2, .slice A1_3 l1_3.length c1_3] ?_; clear HB; intro gb626 w5 BK626 GW626 hg hb HB; have GE626 := GW626; have NB625_626 := bna BK625 hg; have NB626_625 := bma BK625 hg; replace BK625 := bba BK625 hb; clear hb hg) | ((with_reducible refine gate_dst (N := 4) rfl ?_); refine boxE HB 4 27 #[.int .i64 0, .slice none 0 0, .slice none 0 0, .slice none 0 0] ?_; clear HB; intro gb627 w6 BK627 GW627 hg hb HB; have GE627 := GW627; have NB625_627 := bna BK625 hg; have NB627_625 := bma BK625 hg; replace BK625 := bba BK625 hb; have NB626_627 := bna BK626 hg; have NB627_626 := bma BK626 hg; replace BK626 := bba BK626 hb; clear hb hg; have hnb7 := NB625_626.out; have hnc7 := NB626_625.out; have hnb8 := NB625_627.out; have hnc8 := NB627_625.out; obtain ⟨hcz9_0, hcz9_1, hcz9_2, hcz9_3, hfz9_0, hfz9_1, hfz9_2, hfz9_3⟩ := b4 BK625; have hnb10 := NB626_627.out; have hnc10 := NB627_626.out; obtain ⟨hcz11_0, hcz11_1, hcz11_2, hcz11_3, hfz11_0, hfz11_1, hfz11_2, hfz11_3⟩ := b4 BK626) | ((with_reducible refine gate_callee (f := 55) rfl ?_); refine gL 7 Tryz.func55 #[.agg #[.int .i64 a0_0, .slice A0_1 l0_1.length c0_1, .slice A0_2 l0_2.length c0_2, .slice A0_3 l0_3.length c0_3], .agg #[.int .i64 a1_0, .slice A1_1 l1_1.length c1_1, .slice A1_2 l1_2.length c1_2, .slice A1_3 l1_3.length c1_3], .func (.func 59) #[] #[], .func (.func 60) #[] #[]] ?_; (with_reducible refine (poslist_List_together_fn59_fn60.calls k a0_0 _ _ l0_1 _ _ l0_2 _ _ l0_3 a1_0 _ _ l1_1 _ _ l1_2 _ _ l1_3   t628 t629 t632 t635 _ ?side1 ?side2 ?side3 ?side4 ?side5 ?side6 ?side7 ?side8 ?side9 ?side10 ?side11 ?side12 A3.out).mono ?_); (case side1 => exact cx (Kd.C_below HR0_1.out HB.out)); (case side2 => exact HC0_1.out); (case side3 => exact cx (Kd.C_below HR0_2.out HB.out)); (case side4 => exact HC0_2.out); (case side5 => exact cx (Kd.C_below HR0_3.out HB.out)); (case side6 => exact HC0_3.out); (case side7 => exact cx (Kd.C_below HR1_1.out HB.out)); (case side8 => exact HC1_1.out); (case side9 => exact cx (Kd.C_below HR1_2.out HB.out)); (case side10 => exact HC1_2.out); (case side11 => exact cx (Kd.C_below HR1_3.out HB.out)); (case side12 => exact HC1_3.out); rintro e w12 ⟨v630, v633, v636, rfl, ho0, ho1, ho2, hb⟩; refine ⟨_, rfl, ?_⟩; have HO631 := Aside0.mk (Kd.R_lower ho0 (below_size (bh HB.out))); have HO634 := Aside0.mk (Kd.R_lower ho1 (below_size (bh HB.out))); have HO637 := Aside0.mk (Kd.R_lower ho2 (below_size (bh HB.out))); replace BK625 := bba BK625 hb; replace BK626 := bba BK626 hb; replace BK627 := bba BK627 hb; replace HB := bsa HB hb; clear hb ho0 ho1 ho2; obtain ⟨hcz13_0, hcz13_1, hcz13_2, hcz13_3, hfz13_0, hfz13_1, hfz13_2, hfz13_3⟩ := b4 BK627; obtain ⟨Ao14, co14, eo14⟩ := Kd.R_slice HO631.out; subst eo14; obtain ⟨Ao15, co15, eo15⟩ := Kd.R_slice HO634.out; subst eo15; obtain ⟨Ao16, co16, eo16⟩ := Kd.R_slice HO637.out; subst eo16) | ((with_reducible refine gate_store (t := 27) (p := 4) rfl ?_); refine stE 27 4 ((((w12.setCell ⟨gb627, 0, none⟩ (.int .i64 t628)).setCell ⟨gb627, 1, none⟩ (.slice Ao14 t629.length co14)).setCell ⟨gb627, 2, none⟩ (.slice Ao15 t632.length co15)).setCell ⟨gb627, 3, none⟩ (.slice Ao16 t635.length co16)) ?_; intro w17 hw; have n0_ := rsm (fun _ => True) HO631 hw (fun _ hk => trivial); have n1_ := rst HO634 hw; have n2_ := rst HO637 hw; have n3_ : Aside0 (w17.heap[gb625]? = some (.cells #[.int .i64 a0_0, .slice A0_1 l0_1.length c0_1, .slice A0_2 l0_2.length c0_2, .slice A0_3 l0_3.length c0_3] 27 (0, 0))) := ⟨(by rw [hw]; exact (bx BK625.out))⟩; have n4_ : Aside0 (w17.heap[gb626]? = some (.cells #[.int .i64 a1_0, .slice A1_1 l1_1.length c1_1, .slice A1_2 l1_2.length c1_2, .slice A1_3 l1_3.length c1_3] 27 (0, 0))) := ⟨(by rw [hw]; exact (bx BK626.out))⟩; have n5_ := sps #[.int .i64 t628, .slice Ao14 t629.length co14, .slice Ao15 t632.length co15, .slice Ao16 t635.length co16] BK627 hw (.p (.p (.p (.p .nil)))); have n6_ := bhw HB hw; clear hw HO631 HO634 HO637 BK625 BK626 BK627 HB; have HO631 := n0_; have HO634 := n1_; have HO637 := n2_; have BK625 := n3_; have BK626 := n4_; have BK627 := n5_; have HB := n6_; clear n0_ n1_ n2_ n3_ n4_ n5_ n6_))
 refine bodyPost_ret (results_cell_row rfl _ _ gb627 27 #[.int .i64 t628, .slice Ao14 t629.length co14, .slice Ao15 t632.length co15, .slice Ao16 t635.length co16] (0, 0) _ rfl (bx BK627.out) Tryz.underlying27 rfl (by kernel_rfl)) rfl ?_
 exact ⟨_, _, _, er, by exact HO631.out, by exact HO634.out, by exact HO637.out, bh HB.out⟩
/-! ### peristyleref14_Same: function 27 -/
def peristyleref14_Same.l0 : Nat → List (S64) → List (S64) → Int → Option (Bool)
 | 0, _, _, _ => none
 | k + 1, x0, x1, x5 => if x5 < (x0.length : Int) then (if 0 ≤ x5 then (if x5 < (x1.length : Int) then (if (!(((rd_T64 x0 x5).f0) == ((rd_T64 x1 x5).f0)) || (!(((rd_T64 x0 x5).f1) == ((rd_T64 x1 x5).f1)))) = true then (some false) else (peristyleref14_Same.l0 k x0 x1 (wrap64 (x5 + 1)))) else (none)) else (none)) else (some true)
def peristyleref14_Same.f (k : Nat) (l0 : List (S64)) (l1 : List (S64)) : Option (Bool) := if (l0.length : Int) = (l1.length : Int) then (peristyleref14_Same.l0 k l0 l1 0) else (some false)
theorem peristyleref14_Same.l0_succ (k) (a0) (a1) (a2) : type_of% (@peristyleref14_Same.l0.eq_2 a0 a1 a2 k) := peristyleref14_Same.l0.eq_2 a0 a1 a2 k
set_option maxHeartbeats 8000000 in
set_option maxRecDepth 100000 in
theorem peristyleref14_Same.calls (k : Nat) (A0 : Option Addr) (c0 : Nat) (l0 : List (S64)) (A1 : Option Addr) (c1 : Nat) (l1 : List (S64)) (r : Bool) (w : World) (hr0 : Kd.C k64 w A0 l0.length l0) (hc0 : l0.length ≤ c0) (hr1 : Kd.C k64 w A1 l1.length l1) (hc1 : l1.length ≤ c1) (h : peristyleref14_Same.f k l0 l1 = some r) :
  Calls Tryz.prog 27 #[.slice A0 l0.length c0, .slice A1 l1.length c1] w fun e w' => e = .returned (.bool r) ∧ Drawn0 w w' := by
 have hu64 := Tryz.underlying64
 have HR0 := Aside0.mk hr0
 have HC0 := Aside0.mk hc0
 clear hr0 hc0
 have HR1 := Aside0.mk hr1
 have HC1 := Aside0.mk hc1
 clear hr1 hc1
 have H := h
 clear h
 unfold peristyleref14_Same.f at H
 replace H := ife H
 rcases H with ⟨c3, c3b0, c3b1, H⟩ | ⟨c3, c3b0, c3b1, H⟩
 ·have c3b2 : (l0.length == l1.length) = true := by (simp at c3 ⊢; omega)
  clear c3
  have H' := Aside0.mk H
  clear H
  go_enter Tryz.func27, Tryz.ntmps27
  go_wp2
  repeat (go_quiet (fail))
  go_loopg [5] k (fun kq v5 w' => ∃ (x5_1 : Int), v5 = .int .i64 x5_1 ∧ Aside0 (peristyleref14_Same.l0 kq l0 l1 x5_1 = some r) ∧ Aside0 (kq ≤ k) ∧ Drawn0 w w')
  case atStart => exact ⟨(0), (by rfl), H', ⟨Nat.le_refl _⟩, by repeat (exact Drawn0.refl _)⟩
  case round =>
   clear H' c3b0 c3b1 c3b2
   obtain ⟨x5_1, rfl, HA, HK1, ⟨m1, rfl⟩⟩ := hrel
   cases gk with
   | zero => exact absurd HA.out (by simp [peristyleref14_Same.l0])
   | succ k1 =>
    have H := HA.out
    clear HA
    simp only [peristyleref14_Same.l0] at H
    replace H := ifd H
    rcases H with ⟨-, c4b0, H⟩ | ⟨-, c4b0, H⟩
    ·replace H := ifn H
     obtain ⟨-, c5b0, H⟩ := H
     replace H := ifn H
     obtain ⟨-, c6b0, H⟩ := H
     replace H := ifd H
     rcases H with ⟨c7, -, H⟩ | ⟨c7, -, H⟩
     ·have c7b0 : (!(((rd_T64 l0 x5_1).f0) == ((rd_T64 l1 x5_1).f0)) || (!(((rd_T64 l0 x5_1).f1) == ((rd_T64 l1 x5_1).f1)))) = true := c7
      clear c7
      obtain rfl := Option.some.inj H
      have p638 : 0 ≤ (x5_1 : Int) := ad
      have q638 : x5_1 < (l0.length : Int) := ad
      obtain ⟨ad638, e638, hx638_0, hx638_1⟩ := at_T64 HR0.out x5_1 p638 q638
      cases e638
      replace p638 := eq_true p638
      replace q638 := eq_true q638
      have p639 : 0 ≤ (x5_1 : Int) := ad
      have q639 : x5_1 < (l1.length : Int) := ad
      obtain ⟨ad639, e639, hx639_0, hx639_1⟩ := at_T64 HR1.out x5_1 p639 q639
      cases e639
      replace p639 := eq_true p639
      replace q639 := eq_true q639
      go_wp2
      repeat (go_quiet (fail); go_wp2)
      go_ret
      exact ⟨by rfl, by repeat (first | exact Drawn0.refl _ | apply Drawn0.step)⟩
     ·have c7b0 : (!(((rd_T64 l0 x5_1).f0) == ((rd_T64 l1 x5_1).f0)) || (!(((rd_T64 l0 x5_1).f1) == ((rd_T64 l1 x5_1).f1)))) = false := by simpa using c7
      clear c7
      have H' := Aside0.mk H
      clear H
      have p638 : 0 ≤ (x5_1 : Int) := ad
      have q638 : x5_1 < (l0.length : Int) := ad
      obtain ⟨ad638, e638, hx638_0, hx638_1⟩ := at_T64 HR0.out x5_1 p638 q638
      cases e638
      replace p638 := eq_true p638
      replace q638 := eq_true q638
      have p639 : 0 ≤ (x5_1 : Int) := ad
      have q639 : x5_1 < (l1.length : Int) := ad
      obtain ⟨ad639, e639, hx639_0, hx639_1⟩ := at_T64 HR1.out x5_1 p639 q639
      cases e639
      replace p639 := eq_true p639
      replace q639 := eq_true q639
      go_wp2
      repeat (go_quiet (fail); go_wp2)
      go_roundg k1
      case measure => have := HK1.out; omega
      case rel => exact ⟨(wrap64 (x5_1 + 1)), (by rfl), H', ⟨by have := HK1.out; omega⟩, by repeat (first | exact Drawn0.refl _ | apply Drawn0.step)⟩
    ·obtain rfl := Option.some.inj H
     go_wp2
     repeat (go_quiet (fail))
     go_ret
     exact ⟨by rfl, by repeat (first | exact Drawn0.refl _ | apply Drawn0.step)⟩
 ·have c3b2 : (l0.length == l1.length) = false := by (simp at c3 ⊢; omega)
  obtain rfl := Option.some.inj H
  go_enter Tryz.func27, Tryz.ntmps27
  go_wp2
  repeat (go_quiet (fail))
  go_ret
  exact ⟨by rfl, by repeat (exact Drawn0.refl _)⟩
end Go.Proofs.YtjgmdjieandemaaGreat.Print
end
