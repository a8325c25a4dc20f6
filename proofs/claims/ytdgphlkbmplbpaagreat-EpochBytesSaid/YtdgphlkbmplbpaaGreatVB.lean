-- Functions and laws: texts of the session's own and of the kit's print program, joined; what nothing names is left out.
import Derived.Test.YtdgphlkbmplbpaaGreatVA
import Derived.Test.YtdgphlkbmplbpaaGreatVW
import Derived.Test.YtdgphlkbmplbpaaGreatVR
section
namespace Go.Proofs.YtdgphlkbmplbpaaGreat.Print
open Go.RowKit Go.Proofs.YtdgphlkbmplbpaaGreatW.PrintWords Go.Proofs.YtdgphlkbmplbpaaGreatW.PrintLast Go.Proofs.YtdgphlkbmplbpaaGreatW.PrintMore
attribute [local go_sem] max2_int min2_int max_two min_two max_three min_three max_four min_four   -- for this text's walks alone
set_option linter.unusedVariables false
set_option linter.unusedSimpArgs false
/-! ### span_adds: function 77 -/
def span_adds.f (l0 : List (S70)) (a1_0 : Int) (a1_1 : Int) : Option ((List (S70))) := if a1_0 ≥ a1_1 then (some l0) else (if (wrap64 ((l0.length : Int) - 1)) ≥ 0 then (if 0 ≤ (wrap64 ((l0.length : Int) - 1)) then (if (wrap64 ((l0.length : Int) - 1)) < (l0.length : Int) then (if ((rd_T70 l0 (wrap64 ((l0.length : Int) - 1))).f1) ≥ a1_0 then (some (l0.set ((wrap64 ((l0.length : Int) - 1)) : Int).toNat (⟨(rd_T70 l0 (wrap64 ((l0.length : Int) - 1))).f0, mx ((rd_T70 l0 (wrap64 ((l0.length : Int) - 1))).f1) a1_1⟩ : S70))) else (if l0.length < 8796093022208 then (some (l0 ++ [(⟨a1_0, a1_1⟩ : S70)])) else (none))) else (none)) else (none)) else (if l0.length < 8796093022208 then (some (l0 ++ [(⟨a1_0, a1_1⟩ : S70)])) else (none)))
def span_adds.T4 : Bool × List (List Nat × List Nat) := (true, [([], []), ([0], [0]), ([1], [1]), ([2], [2]), ([2], [2]), ([3, 4, 2], [2, 3, 4]), ([5, 2], [2, 5]), ([6, 2], [2, 6]), ([2], [2]), ([8, 2], [2, 8]), ([7, 9, 2], [2, 7, 9]), ([2, 10], [2, 10]), ([11, 2], [11])])
def span_adds.B4 : List Nat := [0, 1, 3, 7, 7, 31, 63, 127, 7, 263, 1023, 2047, 4095]
theorem span_adds.tab4 : rtab .any (opsOf Tryz.f77 4) = span_adds.T4 := by kernel_rfl
theorem span_adds.bits4 : waitsOk span_adds.T4.2 span_adds.B4 = true := by kernel_rfl
def span_adds.T5 : Bool × List (List Nat × List Nat) := (true, [([], []), ([], []), ([], []), ([], []), ([2, 3], [2, 3]), ([4], [4]), ([5], [5]), ([], []), ([7], [7]), ([6, 8], [6, 8]), ([0, 1, 0, 1, 2, 3, 4, 5, 6, 7, 8, 9], [0, 1]), ([10, 0, 1, 2, 3, 4, 5, 6, 7, 8, 9], [10]), ([11, 9, 0, 1, 2, 3, 4, 5, 6, 7, 8, 9], [9, 11])])
def span_adds.B5 : List Nat := [0, 0, 0, 0, 12, 28, 60, 0, 128, 508, 1023, 2047, 4095]
theorem span_adds.tab5 : rtab .any (opsOf Tryz.f77 5) = span_adds.T5 := by kernel_rfl
theorem span_adds.bits5 : waitsOk span_adds.T5.2 span_adds.B5 = true := by kernel_rfl
set_option maxHeartbeats 8000000 in
set_option maxRecDepth 100000 in
theorem span_adds.calls (P0_ : Nat → Prop) (u9000_ : Value) (l0 : List (S70)) (a1_0 : Int) (a1_1 : Int) (r : List (S70)) (w0 w : World) (hB : Below w0.heap.size w0 w) (ho0 : Kd.R k70 70 w w0.heap.size P0_ u9000_ l0) (h : span_adds.f l0 a1_0 a1_1 = some r) :
  Calls Tryz.prog 77 #[u9000_, .agg #[.int .i64 a1_0, .int .i64 a1_1]] w fun e w' => ∃ v0_ : Value, e = .returned (v0_) ∧ Kd.R k70 70 w' w0.heap.size (fun k_ => (P0_ k_ ∨ w.heap.size ≤ k_)) v0_ r ∧ Below w0.heap.size w0 w' ∧ Kept w w' (fun k_ => P0_ k_) := by
 have hu70 := Tryz.underlying70
 have HO0 := Aside0.mk (show Kd.R k70 70 w w0.heap.size (fun k_ => (P0_ k_ ∨ w.heap.size ≤ k_)) u9000_ l0 from Kd.R_mono ho0 (fun k_ hk => (.inl hk)))
 have HK := Aside0.mk (Kept.refl w (fun k_ => P0_ k_))
 have HW0 := Aside0.mk hB.size
 have HB := Aside0.mk hB
 clear hB
 have H := h
 clear h
 unfold span_adds.f at H
 replace H := ifd H
 rcases H with ⟨-, c3b0, H⟩ | ⟨-, c3b0, H⟩
 ·obtain rfl := Option.some.inj H
  go_enter Tryz.func77, Tryz.ntmps77
  go_wp2_with (((with_reducible refine gate_dst (N := 3) rfl ?_); refine box_event ?hg (N := 3) ?hd (cs := #[.int .i64 a1_0, .int .i64 a1_1]) (t := 70) ?hr ?_; (case hd => rfl); (case hg => rfl); (case hr => (go_simp; done)); intro gb176 hg w4 hbox hb; replace HO0 := Aside0.mk (Kd.R_below (Kd.R_elderB (rx HO0.out) gb176 (Nat.le_of_eq hg.symm)) hb); have BK176 := Aside0.mk (hbox); have GW176 := Aside0.mk ((by rw [hg]; exact (by exact HK.out.1) : w.heap.size ≤ gb176)); replace HK := Aside0.mk (Kept.below (S := (fun k_ => P0_ k_)) (by repeat ((with_reducible exact HK.out))) hb); have GE176 := Aside0.mk ((by rw [hg]; exact (below_size (bh HB.out)) : w0.heap.size ≤ gb176)); replace HB := bsa HB hb; clear hb hbox hg; obtain ⟨Ao5, co5, eo5⟩ := Kd.R_slice HO0.out; subst eo5; obtain ⟨hcz6_0, hcz6_1, hfz6_0, hfz6_1⟩ := b2 BK176))
  go_ret
  exact ⟨_, er, by exact Kd.R_mono HO0.out (fun _ hk => hk.1), bh HB.out, by repeat ((with_reducible exact HK.out))⟩
 ·replace H := ifd H
  rcases H with ⟨-, c7b0, H⟩ | ⟨-, c7b0, H⟩
  ·obtain ⟨ji8, hji8⟩ : ∃ j_ : Int, (wrap64 ((l0.length : Int) - 1)) = j_ := ⟨_, rfl⟩
   replace H : (if 0 ≤ (ji8) then (if (ji8) < (l0.length : Int) then (if ((rd_T70 l0 (ji8)).f1) ≥ a1_0 then (some (l0.set ((ji8) : Int).toNat (⟨(rd_T70 l0 (ji8)).f0, mx ((rd_T70 l0 (ji8)).f1) a1_1⟩ : S70))) else (if l0.length < 8796093022208 then (some (l0 ++ [(⟨a1_0, a1_1⟩ : S70)])) else (none))) else (none)) else (none)) = some r := by (rw [hji8] at H; exact H)
   (rw [hji8] at c7b0)
   have hji8w : (IntKind.i64.wrap ((l0.length : Int) - 1)) = ji8 := (i64_w _).trans hji8
   replace H := ifn H
   obtain ⟨-, c9b0, H⟩ := H
   replace H := ifn H
   obtain ⟨-, c10b0, H⟩ := H
   replace H := ifd H
   rcases H with ⟨-, c11b0, H⟩ | ⟨-, c11b0, H⟩
   ·obtain ⟨ji12, hji12⟩ : ∃ j_ : Int, (mx ((rd_T70 l0 (ji8)).f1) a1_1) = j_ := ⟨_, rfl⟩
    replace H : (some (l0.set ((ji8) : Int).toNat (⟨(rd_T70 l0 (ji8)).f0, ji12⟩ : S70))) = some r := by (rw [hji12] at H; exact H)
    have hji12_ : (if ((rd_T70 l0 (ji8)).f1) < a1_1 then a1_1 else ((rd_T70 l0 (ji8)).f1)) = ji12 := hji12
    obtain ⟨y179, hy179⟩ : ∃ y_ : List (S70), y_ = (l0.set ((ji8) : Int).toNat (⟨(rd_T70 l0 (ji8)).f0, ji12⟩ : S70)) := ⟨_, rfl⟩
    replace H : (some y179) = some r := by (rw [hy179]; with_reducible exact H)
    have Ny179 := Aside0.mk hy179
    clear hy179
    obtain rfl := Option.some.inj H
    go_enter Tryz.func77, Tryz.ntmps77
    go_wp2_with (((with_reducible refine gate_dst (N := 3) rfl ?_); refine box_event ?hg (N := 3) ?hd (cs := #[.int .i64 a1_0, .int .i64 a1_1]) (t := 70) ?hr ?_; (case hd => rfl); (case hg => rfl); (case hr => (go_simp; done)); intro gb176 hg w14 hbox hb; replace HO0 := Aside0.mk (Kd.R_below (Kd.R_elderB (rx HO0.out) gb176 (Nat.le_of_eq hg.symm)) hb); have BK176 := Aside0.mk (hbox); have GW176 := Aside0.mk ((by rw [hg]; exact (by exact HK.out.1) : w.heap.size ≤ gb176)); replace HK := Aside0.mk (Kept.below (S := (fun k_ => P0_ k_)) (by repeat ((with_reducible exact HK.out))) hb); have GE176 := Aside0.mk ((by rw [hg]; exact (below_size (bh HB.out)) : w0.heap.size ≤ gb176)); replace HB := bsa HB hb; clear hb hbox hg; obtain ⟨Ao15, co15, eo15⟩ := Kd.R_slice HO0.out; subst eo15; obtain ⟨hcz16_0, hcz16_1, hfz16_0, hfz16_1⟩ := b2 BK176))
    replace HO0 := Aside0.mk (Kd.R_drew HO0.out)
    replace BK176 := Aside0.mk (blk_drew BK176.out)
    replace HK := Aside0.mk (Kept.drew HK.out)
    replace HB := Aside0.mk (below_drew1 HB.out)
    have p177 : 0 ≤ ((ji8) : Int) := ad
    have q177 : (ji8) < (l0.length : Int) := ad
    obtain ⟨ad177, e177, hx177_0, hx177_1⟩ := at_T70 (Kd.R_reads' HO0.out).2.2 (ji8) p177 q177
    cases e177
    replace p177 := eq_true p177
    replace q177 := eq_true q177
    refine start_ (n := 13) (S := fun w' => w'.cell? ⟨gb176, 0, none⟩ = some (.int .i64 a1_0) ∧ w'.cell? ⟨gb176, 1, none⟩ = some (.int .i64 a1_1) ∧ w'.cell? (ad177.add (((ji8)).toNat * 2)) = some (.int .i64 ((rd_T70 l0 (ji8)).f0)) ∧ w'.cell? ⟨(ad177.add (((ji8)).toNat * 2)).block, (ad177.add (((ji8)).toNat * 2)).off + 1, none⟩ = some (.int .i64 ((rd_T70 l0 (ji8)).f1))) (ds := []) #[false, false, false, false, false, false, false, false, false, false, false, false, false] (by kernel_rfl) rfl rfl ⟨(blk_cell BK176.out 0).trans rfl, (blk_cell BK176.out 1).trans rfl, hx177_0, hx177_1⟩ (fun hHeld => ?_); refine with_tabW span_adds.tab4 span_adds.bits4 (fun HT_ HW_ => ?_)
    generalize w14.drew = w17 at HO0 BK176 HK HB hx177_0 hx177_1 hHeld ⊢
    refine puA HT_ 0 20 (bv 13 1) ?_
    refine puA HT_ 1 21 (bv 13 3) ?_
    refine puA HT_ 2 22 (bv 13 7) ?_
    refine puA HT_ 3 23 (bv 13 15) ?_
    refine puA HT_ 4 24 (bv 13 31) ?_
    refine puA HT_ 5 25 (bv 13 63) ?_
    refine puA HT_ 6 26 (bv 13 127) ?_
    refine puA HT_ 8 28 (bv 13 383) ?_
    refine taA HT_ HW_ hHeld 7 27 (bv 13 511) ?_
    refine taA HT_ HW_ hHeld 9 29 (bv 13 1023) ?_
    refine puA HT_ 10 30 (bv 13 2047) ?_
    refine puA HT_ 11 31 (bv 13 4095) ?_
    refine puA HT_ 12 19 (bv 13 8191) ?_
    refine done_ (done_of HT_.out (by kernel_rfl)) ?_
    go_wp2
    replace HO0 := Aside0.mk (Kd.R_drew HO0.out)
    replace BK176 := Aside0.mk (blk_drew BK176.out)
    replace HK := Aside0.mk (Kept.drew HK.out)
    replace HB := Aside0.mk (below_drew1 HB.out)
    have p178 : 0 ≤ ((ji8) : Int) := ad
    have q178 : (ji8) < (l0.length : Int) := ad
    obtain ⟨ad178, e178, hx178_0, hx178_1⟩ := at_T70 (Kd.R_reads' HO0.out).2.2 (ji8) p178 q178
    obtain rfl : ad177 = ad178 := (by injection e178)
    replace p178 := eq_true p178
    replace q178 := eq_true q178
    have p13 : 0 ≤ ((ji8) : Int) := ad
    have q13 : ((ji8) : Int) < ((l0.length : Int) : Int) := ad
    obtain ⟨go13, co13, eo13, gb13, gl13, cl13, HG13⟩ := Kd.R_form HO0.out (by omega)
    (cases eo13)
    have GB13 := Aside0.mk gb13
    have GG13 := Aside0.mk HG13
    clear gb13 gl13 HG13
    have HMgo13 := Aside0.mk (show (P0_ go13 ∨ w.heap.size ≤ go13) from (HO0.out.1 _ rfl).1)
    (simp only [add_plain] at hx177_0)
    (simp only [add_plain] at hx177_1)
    (simp only [add_plain] at hx178_0)
    (simp only [add_plain] at hx178_1)
    obtain ⟨ce13, hcl13, hM13, hcc13, hfr13⟩ := Kd.R_elem HO0.out z70 ((ji8) : Int) p13 q13
    obtain rfl := k70_openM hM13
    have hx13_0 : World.cell? _ ⟨go13, ((ji8) : Int).toNat * 2, none⟩ = some (.int .i64 ((rd_T70 l0 (ji8)).f0)) := hcc13 0 _ rfl
    have hx13_1 : World.cell? _ ⟨go13, ((ji8) : Int).toNat * 2 + 1, none⟩ = some (.int .i64 ((rd_T70 l0 (ji8)).f1)) := hcc13 1 _ rfl
    have hf13_0 : World.frozen? _ ⟨go13, ((ji8) : Int).toNat * 2, none⟩ = false := hfr13 0
    have hf13_1 : World.frozen? _ ⟨go13, ((ji8) : Int).toNat * 2 + 1, none⟩ = false := hfr13 1
    clear hcl13 hcc13 hfr13 hM13
    replace p13 := eq_true p13
    replace q13 := eq_true q13
    obtain ⟨ce19, hcl19, hM19, hcc19, hfr19⟩ := Kd.R_elem HO0.out z70 ((ji8) : Int) (of_decide_eq_true (by assumption)) (by have h_ : ((ji8) : Int) < ((l0.length : Int) : Int) := of_decide_eq_true (by assumption); exact h_)
    obtain rfl := k70_openM hM19
    have HP19 := (Kd.R_seg HO0.out ((ji8) : Int) (of_decide_eq_true (by assumption)) (by have h_ : ((ji8) : Int) < ((l0.length : Int) : Int) := of_decide_eq_true (by assumption); exact h_) (seg := [.int .i64 ji12]) (j := 1) hcl19 hcc19 (show 2 ≤ 2 from by decide) (x' := (⟨(rd_T70 l0 (ji8)).f0, ji12⟩ : S70)) (k70_mkM _ _ _ (⟨(rd_T70 l0 (ji8)).f0, ji12⟩ : S70) ) (fun _ hk => hk)).1
    rw [← Ny179.out] at HP19
    have HQ19 := Aside0.mk HP19
    clear hcl19 hcc19 hfr19 hM19 HP19
    refine start_ (n := 13) (S := fun w' => w'.cell? ⟨gb176, 0, none⟩ = some (.int .i64 a1_0) ∧ w'.cell? ⟨gb176, 1, none⟩ = some (.int .i64 a1_1) ∧ w'.cell? ⟨go13, ((ji8)).toNat * 2, none⟩ = some (.int .i64 ((rd_T70 l0 (ji8)).f0)) ∧ w'.cell? ⟨go13, ((ji8)).toNat * 2 + 1, none⟩ = some (.int .i64 ((rd_T70 l0 (ji8)).f1))) (ds := [12]) #[false, false, false, false, false, false, false, false, false, false, false, false, false] (by kernel_rfl) rfl rfl ⟨(blk_cell BK176.out 0).trans rfl, (blk_cell BK176.out 1).trans rfl, hx178_0, hx178_1⟩ (fun hHeld => ?_); refine with_tabW span_adds.tab5 span_adds.bits5 (fun HT_ HW_ => ?_)
    generalize w17.drew = w18 at HO0 BK176 HK HB GG13 HQ19 hf13_0 hf13_1 hx13_0 hx13_1 hx177_0 hx177_1 hx178_0 hx178_1 hHeld ⊢
    refine puA HT_ 0 32 (bv 13 1) ?_
    refine puA HT_ 1 33 (bv 13 3) ?_
    refine puA HT_ 2 34 (bv 13 7) ?_
    refine puA HT_ 3 35 (bv 13 15) ?_
    refine puA HT_ 4 36 (bv 13 31) ?_
    refine puA HT_ 5 37 (bv 13 63) ?_
    refine puA HT_ 7 39 (bv 13 191) ?_
    refine taA HT_ HW_ hHeld 6 38 (bv 13 255) ?_
    refine taA HT_ HW_ hHeld 8 40 (bv 13 511) ?_
    refine puA HT_ 9 41 (bv 13 1023) ?_
    refine puA HT_ 10 42 (bv 13 2047) ?_
    refine puA HT_ 11 43 (bv 13 4095) ?_
    refine last_ (i := 12) (N := none) #[true, true, true, true, true, true, true, true, true, true, true, true, true] rfl rfl (one_of HT_.out (by kernel_rfl)) (by decide) (fun K hK => ?_)
    refine skip_ (w1 := ?_) (by rfl) rfl ?_ ?_
    rotate_left
    ·go_simp
     rfl
    refine hK.out _ _ ?_
    clear hK K
    refine done_ (done_of HT_.out (by kernel_rfl)) ?_
    go_wp2
    go_ret
    exact ⟨_, by rfl, by exact Kd.R_mono HQ19.out (fun _ hk => hk.1), by repeat ((with_reducible first | exact HB.out | refine below_set ?_ GB13.out)), by repeat ((with_reducible first | exact HK.out | refine Kept.setCell ?_ HMgo13.out _))⟩
   ·replace H := ifn H
    obtain ⟨c20, -, H⟩ := H
    have LMc20 := Aside0.mk c20
    clear c20
    obtain ⟨y180, hy180⟩ : ∃ y_ : List (S70), y_ = (l0 ++ [(⟨a1_0, a1_1⟩ : S70)]) := ⟨_, rfl⟩
    replace H : (some y180) = some r := by (rw [hy180]; with_reducible exact H)
    have Ny180 := Aside0.mk hy180
    clear hy180
    obtain rfl := Option.some.inj H
    go_enter Tryz.func77, Tryz.ntmps77
    go_wp2_with (((with_reducible refine gate_dst (N := 3) rfl ?_); refine box_event ?hg (N := 3) ?hd (cs := #[.int .i64 a1_0, .int .i64 a1_1]) (t := 70) ?hr ?_; (case hd => rfl); (case hg => rfl); (case hr => (go_simp; done)); intro gb176 hg w21 hbox hb; replace HO0 := Aside0.mk (Kd.R_below (Kd.R_elderB (rx HO0.out) gb176 (Nat.le_of_eq hg.symm)) hb); have BK176 := Aside0.mk (hbox); have GW176 := Aside0.mk ((by rw [hg]; exact (by exact HK.out.1) : w.heap.size ≤ gb176)); replace HK := Aside0.mk (Kept.below (S := (fun k_ => P0_ k_)) (by repeat ((with_reducible exact HK.out))) hb); have GE176 := Aside0.mk ((by rw [hg]; exact (below_size (bh HB.out)) : w0.heap.size ≤ gb176)); replace HB := bsa HB hb; clear hb hbox hg; obtain ⟨Ao22, co22, eo22⟩ := Kd.R_slice HO0.out; subst eo22; obtain ⟨hcz23_0, hcz23_1, hfz23_0, hfz23_1⟩ := b2 BK176))
    replace HO0 := Aside0.mk (Kd.R_drew HO0.out)
    replace BK176 := Aside0.mk (blk_drew BK176.out)
    replace HK := Aside0.mk (Kept.drew HK.out)
    replace HB := Aside0.mk (below_drew1 HB.out)
    have p177 : 0 ≤ ((ji8) : Int) := ad
    have q177 : (ji8) < (l0.length : Int) := ad
    obtain ⟨ad177, e177, hx177_0, hx177_1⟩ := at_T70 (Kd.R_reads' HO0.out).2.2 (ji8) p177 q177
    cases e177
    replace p177 := eq_true p177
    replace q177 := eq_true q177
    refine start_ (n := 13) (S := fun w' => w'.cell? ⟨gb176, 0, none⟩ = some (.int .i64 a1_0) ∧ w'.cell? ⟨gb176, 1, none⟩ = some (.int .i64 a1_1) ∧ w'.cell? (ad177.add (((ji8)).toNat * 2)) = some (.int .i64 ((rd_T70 l0 (ji8)).f0)) ∧ w'.cell? ⟨(ad177.add (((ji8)).toNat * 2)).block, (ad177.add (((ji8)).toNat * 2)).off + 1, none⟩ = some (.int .i64 ((rd_T70 l0 (ji8)).f1))) (ds := []) #[false, false, false, false, false, false, false, false, false, false, false, false, false] (by kernel_rfl) rfl rfl ⟨(blk_cell BK176.out 0).trans rfl, (blk_cell BK176.out 1).trans rfl, hx177_0, hx177_1⟩ (fun hHeld => ?_); refine with_tabW span_adds.tab4 span_adds.bits4 (fun HT_ HW_ => ?_)
    generalize w21.drew = w24 at HO0 BK176 HK HB hx177_0 hx177_1 hHeld ⊢
    refine puA HT_ 0 20 (bv 13 1) ?_
    refine puA HT_ 1 21 (bv 13 3) ?_
    refine puA HT_ 2 22 (bv 13 7) ?_
    refine puA HT_ 3 23 (bv 13 15) ?_
    refine puA HT_ 4 24 (bv 13 31) ?_
    refine puA HT_ 5 25 (bv 13 63) ?_
    refine puA HT_ 6 26 (bv 13 127) ?_
    refine puA HT_ 8 28 (bv 13 383) ?_
    refine taA HT_ HW_ hHeld 7 27 (bv 13 511) ?_
    refine taA HT_ HW_ hHeld 9 29 (bv 13 1023) ?_
    refine puA HT_ 10 30 (bv 13 2047) ?_
    refine puA HT_ 11 31 (bv 13 4095) ?_
    refine puA HT_ 12 19 (bv 13 8191) ?_
    refine done_ (done_of HT_.out (by kernel_rfl)) ?_
    obtain ⟨hcz25_0, hcz25_1, hfz25_0, hfz25_1⟩ := b2 BK176
    go_wp2_with (((with_reducible refine gate_builtin (b := .append) (xs := #[.tmp 9, .tmp 11]) rfl ?_); at_builtin; refine Kd.R_append k70 (w0 := w0) w0.heap.size rfl (.tmp 9) (.tmp 11) 26 70 (.agg #[(.int .i64 0), (.int .i64 0)]) 16 rfl Tryz.underlying26 info70 rfl (by decide) (by omega) (.slice (some ad177) l0.length co22) l0 (⟨a1_0, a1_1⟩ : S70) [.int .i64 a1_0, .int .i64 a1_1] (fun k_ => (P0_ k_ ∨ w.heap.size ≤ k_) ∧ k_ ≠ gb176) (fun _ => False) rfl rfl ?aP (fun _ hk => hk.elim) ?aF ?aO ?aB ?aS ?aL ?_; (case aP => exact k70_mkM _ _ _ (⟨a1_0, a1_1⟩ : S70)); (case aB => exact (bh HB.out)); (case aF => exact (fun k_ hk => ⟨(.inr (Nat.le_trans (by exact HK.out.1) hk)), Kd.freshB (g := gb176) (o := .cells #[.int .i64 a1_0, .int .i64 a1_1] 70 (0, 0)) (bx BK176.out) k_ hk⟩)); (case aO => exact (rx HO0.out)); (case aS => exact (below_size (bh HB.out))); (case aL => have := LMc20.out; omega); intro v181 w26 ho hb hg hat; rw [← Ny180.out] at ho; have n0_ := Aside0.mk (blk_grown (g := gb176) (o := .cells #[.int .i64 a1_0, .int .i64 a1_1] 70 (0, 0)) (bx BK176.out) hg (Kd.R_away HO0.out (fun _ hk => hk.2))); have n1_ := Aside0.mk (hb); have n2_ := Aside0.mk (Kept.of_grown (S := (fun k_ => P0_ k_)) hg (by repeat ((with_reducible exact HK.out))) (fun k_ e_ => (HO0.out.1 k_ e_).1)); have n3_ := Aside0.mk (ho); clear BK176 HB HK HO0; have BK176 := n0_; have HB := n1_; have HK := n2_; have HO182 := n3_; clear n0_ n1_ n2_ n3_ ho hb hg hat))
    go_ret
    exact ⟨_, by rfl, by exact Kd.R_mono HO182.out (fun _ hk => hk.1), bh HB.out, by repeat ((with_reducible exact HK.out))⟩
  ·replace H := ifn H
   obtain ⟨c27, -, H⟩ := H
   have LMc27 := Aside0.mk c27
   clear c27
   obtain ⟨y183, hy183⟩ : ∃ y_ : List (S70), y_ = (l0 ++ [(⟨a1_0, a1_1⟩ : S70)]) := ⟨_, rfl⟩
   replace H : (some y183) = some r := by (rw [hy183]; with_reducible exact H)
   have Ny183 := Aside0.mk hy183
   clear hy183
   obtain rfl := Option.some.inj H
   go_enter Tryz.func77, Tryz.ntmps77
   go_wp2_with (((with_reducible refine gate_dst (N := 3) rfl ?_); refine box_event ?hg (N := 3) ?hd (cs := #[.int .i64 a1_0, .int .i64 a1_1]) (t := 70) ?hr ?_; (case hd => rfl); (case hg => rfl); (case hr => (go_simp; done)); intro gb176 hg w28 hbox hb; replace HO0 := Aside0.mk (Kd.R_below (Kd.R_elderB (rx HO0.out) gb176 (Nat.le_of_eq hg.symm)) hb); have BK176 := Aside0.mk (hbox); have GW176 := Aside0.mk ((by rw [hg]; exact (by exact HK.out.1) : w.heap.size ≤ gb176)); replace HK := Aside0.mk (Kept.below (S := (fun k_ => P0_ k_)) (by repeat ((with_reducible exact HK.out))) hb); have GE176 := Aside0.mk ((by rw [hg]; exact (below_size (bh HB.out)) : w0.heap.size ≤ gb176)); replace HB := bsa HB hb; clear hb hbox hg; obtain ⟨Ao29, co29, eo29⟩ := Kd.R_slice HO0.out; subst eo29; obtain ⟨hcz30_0, hcz30_1, hfz30_0, hfz30_1⟩ := b2 BK176))
   replace HO0 := Aside0.mk (Kd.R_drew HO0.out)
   replace BK176 := Aside0.mk (blk_drew BK176.out)
   replace HK := Aside0.mk (Kept.drew HK.out)
   replace HB := Aside0.mk (below_drew1 HB.out)
   refine start_ (n := 13) (S := fun w' => True) (ds := []) #[false, false, false, false, false, false, false, false, false, false, false, false, false] (by kernel_rfl) rfl rfl trivial (fun hHeld => ?_); refine with_tabW span_adds.tab4 span_adds.bits4 (fun HT_ HW_ => ?_)
   generalize w28.drew = w31 at HO0 BK176 HK HB hHeld ⊢
   refine puA HT_ 0 20 (bv 13 1) ?_
   refine puA HT_ 1 21 (bv 13 3) ?_
   refine puA HT_ 2 22 (bv 13 7) ?_
   refine puU HT_ 3 23 (bv 13 15) ?_
   refine puU HT_ 4 24 (bv 13 31) ?_
   refine puU HT_ 5 25 (bv 13 63) ?_
   refine puU HT_ 6 26 (bv 13 127) ?_
   refine puU HT_ 7 27 (bv 13 255) ?_
   refine puU HT_ 8 28 (bv 13 511) ?_
   refine puU HT_ 9 29 (bv 13 1023) ?_
   refine puU HT_ 10 30 (bv 13 2047) ?_
   refine puA HT_ 11 31 (bv 13 4095) ?_
   refine puA HT_ 12 19 (bv 13 8191) ?_
   refine done_ (done_of HT_.out (by kernel_rfl)) ?_
   obtain ⟨hcz32_0, hcz32_1, hfz32_0, hfz32_1⟩ := b2 BK176
   go_wp2_with (((with_reducible refine gate_builtin (b := .append) (xs := #[.tmp 9, .tmp 11]) rfl ?_); at_builtin; refine Kd.R_append k70 (w0 := w0) w0.heap.size rfl (.tmp 9) (.tmp 11) 26 70 (.agg #[(.int .i64 0), (.int .i64 0)]) 16 rfl Tryz.underlying26 info70 rfl (by decide) (by omega) (.slice Ao29 l0.length co29) l0 (⟨a1_0, a1_1⟩ : S70) [.int .i64 a1_0, .int .i64 a1_1] (fun k_ => (P0_ k_ ∨ w.heap.size ≤ k_) ∧ k_ ≠ gb176) (fun _ => False) rfl rfl ?aP (fun _ hk => hk.elim) ?aF ?aO ?aB ?aS ?aL ?_; (case aP => exact k70_mkM _ _ _ (⟨a1_0, a1_1⟩ : S70)); (case aB => exact (bh HB.out)); (case aF => exact (fun k_ hk => ⟨(.inr (Nat.le_trans (by exact HK.out.1) hk)), Kd.freshB (g := gb176) (o := .cells #[.int .i64 a1_0, .int .i64 a1_1] 70 (0, 0)) (bx BK176.out) k_ hk⟩)); (case aO => exact (rx HO0.out)); (case aS => exact (below_size (bh HB.out))); (case aL => have := LMc27.out; omega); intro v184 w33 ho hb hg hat; rw [← Ny183.out] at ho; have n0_ := Aside0.mk (blk_grown (g := gb176) (o := .cells #[.int .i64 a1_0, .int .i64 a1_1] 70 (0, 0)) (bx BK176.out) hg (Kd.R_away HO0.out (fun _ hk => hk.2))); have n1_ := Aside0.mk (hb); have n2_ := Aside0.mk (Kept.of_grown (S := (fun k_ => P0_ k_)) hg (by repeat ((with_reducible exact HK.out))) (fun k_ e_ => (HO0.out.1 k_ e_).1)); have n3_ := Aside0.mk (ho); clear BK176 HB HK HO0; have BK176 := n0_; have HB := n1_; have HK := n2_; have HO185 := n3_; clear n0_ n1_ n2_ n3_ ho hb hg hat))
   go_ret
   exact ⟨_, er, by exact Kd.R_mono HO185.out (fun _ hk => hk.1), bh HB.out, by repeat ((with_reducible exact HK.out))⟩
/-! ### span_Of: function 43 -/
def span_Of.l0 : Nat → List (S70) → List Int → Int → Int → Option ((List (S70)) × Int)
 | 0, _, _, _, _ => none
 | k + 1, x5, x14, x15, x16 => if x16 < x15 then (if 0 ≤ x16 then (if x16 < (x14.length : Int) then ((span_adds.f x5 (rd x14 x16) (wrap64 ((rd x14 x16) + 1))).bind fun t192 => (span_Of.l0 k t192 x14 x15 (wrap64 (x16 + 1)))) else (none)) else (none)) else (some (x5, 0))
def span_Of.f (k : Nat) (l0 : List Int) : Option ((List (S70)) × Int) := (slices_ContainsFunc_int_int_fn74.f k l0).bind fun t186 => (if t186 = true then (some (([] : List (S70)), 1)) else ((slices_Clone_int_int.f l0).bind fun t187 => ((slices_Sort_int_int.f t187).bind fun t190 => (span_Of.l0 k ([] : List (S70)) t190 (t187.length : Int) 0))))
theorem span_Of.l0_succ (k) (a0) (a1) (a2) (a3) : type_of% (@span_Of.l0.eq_2 a0 a1 a2 a3 k) := span_Of.l0.eq_2 a0 a1 a2 a3 k
set_option maxHeartbeats 8000000 in
set_option maxRecDepth 100000 in
theorem span_Of.calls (k : Nat) (A0 : Option Addr) (c0 : Nat) (l0 : List Int) (r1 : List (S70)) (r2 : Int) (w : World) (hr0 : Kd.C (Kd.int .i64) w A0 l0.length l0) (hc0 : l0.length ≤ c0) (h : span_Of.f k l0 = some (r1, r2)) :
  Calls Tryz.prog 43 #[.slice A0 l0.length c0] w fun e w' => ∃ v0_ : Value, e = .returned (.tuple #[v0_, .int .i64 r2]) ∧ Kd.R k70 70 w' w.heap.size (fun _ => True) v0_ r1 ∧ Below w.heap.size w w' := by
 have hu70 := Tryz.underlying70
 have HR0 := Aside0.mk hr0
 have HC0 := Aside0.mk hc0
 clear hr0 hc0
 have HB := Aside0.mk (Below.refl w.heap.size w)
 have H := h
 clear h
 unfold span_Of.f at H
 replace H := bd H
 obtain ⟨t186, A2, H⟩ := H
 replace H := ifb H
 rcases H with ⟨rfl, H⟩ | ⟨rfl, H⟩
 ·simp only [Option.some.injEq, Prod.mk.injEq] at H
  obtain ⟨rfl, rfl⟩ := H
  go_enter Tryz.func43, Tryz.ntmps43
  go_wp2_with (((with_reducible refine gate_callee (f := 73) rfl ?_); refine gL 9 Tryz.func73 #[.slice A0 l0.length c0, .func (.func 74) #[] #[]] ?_; (with_reducible refine (slices_ContainsFunc_int_int_fn74.calls k _ _ l0  true _ ?side1 ?side2 A2.out).mono ?_); (case side1 => exact cx HR0.out); (case side2 => exact HC0.out); rintro e w4 ⟨rfl, hb⟩; refine ⟨_, rfl, ?_⟩; replace HB := bsa HB hb; clear hb))
  go_ret2
  exact ⟨_, er, nl, bh HB.out⟩
 ·replace H := bd H
  obtain ⟨t187, A5, H⟩ := H
  replace H := bd H
  obtain ⟨t190, A6, H⟩ := H
  have H' := Aside0.mk H
  clear H
  go_enter Tryz.func43, Tryz.ntmps43
  go_wp2_with (first | ((with_reducible refine gate_callee (f := 73) rfl ?_); refine gL 9 Tryz.func73 #[.slice A0 l0.length c0, .func (.func 74) #[] #[]] ?_; (with_reducible refine (slices_ContainsFunc_int_int_fn74.calls k _ _ l0  false _ ?side1 ?side2 A2.out).mono ?_); (case side1 => exact cx HR0.out); (case side2 => exact HC0.out); rintro e w7 ⟨rfl, hb⟩; refine ⟨_, rfl, ?_⟩; replace HB := bsa HB hb; clear hb) | ((with_reducible refine gate_callee (f := 75) rfl ?_); refine gL 11 Tryz.func75 #[.slice A0 l0.length c0] ?_; (with_reducible refine (slices_Clone_int_int.calls _ _ l0 t187 _ ?side1 ?side2 A5.out).mono ?_); (case side1 => exact cx (Kd.C_below HR0.out HB.out)); (case side2 => exact HC0.out); rintro e w8 ⟨v188, rfl, ho0, hb⟩; refine ⟨_, rfl, ?_⟩; have HO189 := Aside0.mk (Kd.R_lower ho0 (below_size (bh HB.out))); replace HB := bsa HB hb; clear hb ho0; obtain ⟨Ao9, co9, eo9⟩ := Kd.R_slice HO189.out; subst eo9) | ((with_reducible refine gate_callee (f := 76) rfl ?_); refine gL 13 Tryz.func76 #[.slice Ao9 t187.length co9] ?_; (with_reducible refine (slices_Sort_int_int.calls (fun k_ => some k_ = (.slice Ao9 t187.length co9 : Value).ownBlock) (.slice Ao9 t187.length co9) t187 t190 w _ ?side1 ?side2 A6.out).mono ?_); (case side1 => repeat ((with_reducible exact HB.out))); (case side2 => exact Kd.R_tight rfl HO189.out); rintro e w10 ⟨rfl, hy0, hb, hkp⟩; refine ⟨_, rfl, ?_⟩; replace HO189 := Aside0.mk (Kd.R_reok rfl hy0 (fun k_ e_ => HO189.out.1 k_ e_)); replace HB := Aside0.mk (hb); clear hb hkp hy0))
  go_loopg [5, 16] k (fun kq v5 v16 w' => ∃ (x5_1 : List (S70)) (x16_1 : Int), v16 = .int .i64 x16_1 ∧ Aside0 (span_Of.l0 kq x5_1 t190 (t187.length : Int) x16_1 = some (r1, r2)) ∧ Aside0 (kq ≤ k) ∧ Aside0 (Kd.R k70 70 w' w.heap.size (fun _ => True) v5 x5_1) ∧ Aside0 (Kd.R (Kd.int .i64) 3 w' w.heap.size (fun _ => True) (.slice Ao9 t187.length co9) t190) ∧ Aside0 (Below w.heap.size w w'))
  case atStart => exact ⟨(([] : List (S70))), (0), (by rfl), H', ⟨Nat.le_refl _⟩, ⟨nl⟩, ⟨by exact HO189.out⟩, ⟨bh HB.out⟩⟩
  case round =>
   clear H'
   obtain ⟨x5_1, x16_1, rfl, HA, HK1, HO_5, HO_14, HB⟩ := hrel
   have hl14_1 := (Kd.R_reads' HO_14.out).1
   rw [hl14_1] at HO_14
   (simp only [hl14_1])
   cases gk with
   | zero => exact absurd HA.out (by simp [span_Of.l0])
   | succ k1 =>
    have H := HA.out
    clear HA
    simp only [span_Of.l0] at H
    replace H := ifd H
    rcases H with ⟨c11, c11b0, H⟩ | ⟨c11, c11b0, H⟩
    ·((have c11b0l := c11b0; simp only [hl14_1] at c11b0l))
     clear c11
     replace H := ifn H
     obtain ⟨-, c12b0, H⟩ := H
     replace H := ifn H
     obtain ⟨-, c13b0, H⟩ := H
     replace H := bd H
     obtain ⟨t192, A14, H⟩ := H
     have H' := Aside0.mk H
     clear H
     have p191 : 0 ≤ (x16_1 : Int) := ad
     have q191 : x16_1 < (t190.length : Int) := ad
     obtain ⟨ad191, e191, hx191_0⟩ := Kd.at_int (Kd.R_reads' HO_14.out).2.2 x16_1 p191 q191
     cases e191
     replace p191 := eq_true p191
     replace q191 := eq_true q191
     obtain ⟨Ao15, co15, eo15⟩ := Kd.R_slice HO_5.out
     subst eo15
     go_wp2_with (((with_reducible refine gate_callee (f := 77) rfl ?_); refine gL 25 Tryz.func77 #[.slice Ao15 x5_1.length co15, .agg #[.int .i64 (rd t190 x16_1), .int .i64 (wrap64 ((rd t190 x16_1) + 1))]] ?_; (with_reducible refine (span_adds.calls (fun k_ => some k_ = (.slice Ao15 x5_1.length co15 : Value).ownBlock) (.slice Ao15 x5_1.length co15) x5_1 (rd t190 x16_1) (wrap64 ((rd t190 x16_1) + 1)) t192 w _ ?side1 ?side2 A14.out).mono ?_); (case side1 => repeat ((with_reducible exact HB.out))); (case side2 => exact Kd.R_tight rfl HO_5.out); rintro e w16 ⟨v193, rfl, ho0, hb, hkp⟩; refine ⟨_, rfl, ?_⟩; have n0_ := Aside0.mk (Kd.R_mono (ok' := fun k_ => True) (Kd.R_keptB ((Kd.R_apart' HO_14.out (Kd.R_typed HO_5.out) (by decide))) hkp (fun k_ hk_ hs_ => (hk_.2) hs_)) (fun k_ hk_ => trivial)); have n1_ := Aside0.mk (Kd.R_mono (ok' := fun k_ => True) ho0 (fun k_ hk_ => trivial)); have n2_ := Aside0.mk (hb); clear HO_14 HB HO_5; have HO_14 := n0_; have HO194 := n1_; have HB := n2_; clear n0_ n1_ n2_ hb hkp ho0))
     (simp only [← hl14_1])
     go_roundg k1
     case measure => have := HK1.out; omega
     case rel => exact ⟨(t192), (wrap64 (x16_1 + 1)), (by rfl), H', ⟨by have := HK1.out; omega⟩, ⟨by exact HO194.out⟩, ⟨by (simp only [hl14_1]); exact HO_14.out⟩, ⟨bh HB.out⟩⟩
    ·((have c11b0l := c11b0; simp only [hl14_1] at c11b0l))
     clear c11
     simp only [Option.some.injEq, Prod.mk.injEq] at H
     obtain ⟨rfl, rfl⟩ := H
     go_wp2
     go_ret2
     exact ⟨_, er, by exact HO_5.out, bh HB.out⟩
/-! ### poslist_From: function 29 -/
def poslist_From.f (k : Nat) (l0 : List Int) : Option (Int × (List (S70)) × List Int × List Int × Int) := (span_Of.f k l0).bind fun bt196 => (if bt196.2 = 0 then ((poslist_Best.f k bt196.1).bind fun bt200 => (some (bt200.1, bt200.2.1, bt200.2.2.1, bt200.2.2.2.1, bt200.2.2.2.2))) else (some (0, ([] : List (S70)), ([] : List Int), ([] : List Int), bt196.2)))
set_option maxHeartbeats 8000000 in
set_option maxRecDepth 100000 in
theorem poslist_From.calls (k : Nat) (A0 : Option Addr) (c0 : Nat) (l0 : List Int) (r1 : Int) (r2 : List (S70)) (r3 : List Int) (r4 : List Int) (r5 : Int) (w : World) (hr0 : Kd.C (Kd.int .i64) w A0 l0.length l0) (hc0 : l0.length ≤ c0) (h : poslist_From.f k l0 = some (r1, r2, r3, r4, r5)) :
  Calls Tryz.prog 29 #[.slice A0 l0.length c0] w fun e w' => ∃ v1_ v2_ v3_ : Value, e = .returned (.tuple #[.agg #[.int .i64 r1, v1_, v2_, v3_], .int .i64 r5]) ∧ Kd.R k70 70 w' w.heap.size (fun _ => True) v1_ r2 ∧ Kd.R (Kd.int .i64) 3 w' w.heap.size (fun k_ => some k_ ≠ (v3_ : Value).ownBlock) v2_ r3 ∧ Kd.R (Kd.int .i64) 3 w' w.heap.size (fun k_ => some k_ ≠ (v2_ : Value).ownBlock) v3_ r4 ∧ Below w.heap.size w w' := by
 have hu29 := Tryz.underlying29
 have HR0 := Aside0.mk hr0
 have HC0 := Aside0.mk hc0
 clear hr0 hc0
 have HB := Aside0.mk (Below.refl w.heap.size w)
 have H := h
 clear h
 unfold poslist_From.f at H
 replace H := bd H
 obtain ⟨⟨t196, t197⟩, A2, H⟩ := H
 dsimp only at H
 replace H := ife H
 rcases H with ⟨-, c3b0, c3b1, H⟩ | ⟨c3, c3b0, c3b1, H⟩
 ·replace H := bd H
  obtain ⟨⟨t200, t201, t204, t207, t210⟩, A4, H⟩ := H
  dsimp only at H
  simp only [Option.some.injEq, Prod.mk.injEq] at H
  obtain ⟨rfl, rfl, rfl, rfl, rfl⟩ := H
  go_enter Tryz.func29, Tryz.ntmps29
  go_wp2_with (first | ((with_reducible refine gate_dst (N := 2) rfl ?_); refine boxE HB 2 29 #[.int .i64 0, .slice none 0 0, .slice none 0 0, .slice none 0 0] ?_; clear HB; intro gb195 w5 BK195 GW195 hg hb HB; have GE195 := GW195; clear hb hg) | ((with_reducible refine gate_callee (f := 43) rfl ?_); refine gL 8 Tryz.func43 #[.slice A0 l0.length c0] ?_; (with_reducible refine (span_Of.calls k _ _ l0 t196 t197 _ ?side1 ?side2 A2.out).mono ?_); (case side1 => exact cx (Kd.C_below HR0.out HB.out)); (case side2 => exact HC0.out); rintro e w6 ⟨v198, rfl, ho0, hb⟩; refine ⟨_, rfl, ?_⟩; have HO199 := Aside0.mk (Kd.R_lower ho0 (below_size (bh HB.out))); replace BK195 := bba BK195 hb; replace HB := bsa HB hb; clear hb ho0; obtain ⟨Ao7, co7, eo7⟩ := Kd.R_slice HO199.out; subst eo7) | ((with_reducible refine gate_callee (f := 35) rfl ?_); refine gL 16 Tryz.func35 #[.slice Ao7 t196.length co7] ?_; (with_reducible refine (poslist_Best.calls k _ _ t196 t200 t201 t204 t207 t210 _ ?side1 ?side2 A4.out).mono ?_); (case side1 => exact cx (Kd.R_reads' HO199.out).2.2); (case side2 => exact (Kd.R_reads' HO199.out).2.1); rintro e w8 ⟨v202, v205, v208, rfl, ho0, ho1, ho2, hb⟩; refine ⟨_, rfl, ?_⟩; have HO203 := Aside0.mk (Kd.R_lower (Kd.R_new' ho0 (Kd.R_lt (rx HO199.out))) (below_size (bh HB.out))); replace HO199 := Aside0.mk (Kd.R_elder' (rx HO199.out) (Kd.R_base ho0) hb); have HO206 := Aside0.mk (Kd.R_lower ho1 (below_size (bh HB.out))); have HO209 := Aside0.mk (Kd.R_lower ho2 (below_size (bh HB.out))); replace BK195 := bba BK195 hb; replace HB := bsa HB hb; clear hb ho0 ho1 ho2; obtain ⟨hcz9_0, hcz9_1, hcz9_2, hcz9_3, hfz9_0, hfz9_1, hfz9_2, hfz9_3⟩ := b4 BK195; obtain ⟨Ao10, co10, eo10⟩ := Kd.R_slice HO203.out; subst eo10; obtain ⟨Ao11, co11, eo11⟩ := Kd.R_slice HO206.out; subst eo11; obtain ⟨Ao12, co12, eo12⟩ := Kd.R_slice HO209.out; subst eo12) | ((with_reducible refine gate_store (t := 29) (p := 2) rfl ?_); refine stE 29 2 ((((w8.setCell ⟨gb195, 0, none⟩ (.int .i64 t200)).setCell ⟨gb195, 1, none⟩ (.slice Ao10 t201.length co10)).setCell ⟨gb195, 2, none⟩ (.slice Ao11 t204.length co11)).setCell ⟨gb195, 3, none⟩ (.slice Ao12 t207.length co12)) ?_; intro w13 hw; replace HO199 := rsm (fun k_ => some k_ ≠ (.slice Ao10 t201.length co10 : Value).ownBlock) HO199 hw (fun _ hk => hk.2); replace HO203 := rsm (fun k_ => some k_ ≠ (.slice Ao7 t196.length co7 : Value).ownBlock) HO203 hw (fun _ hk => hk.2); replace HO206 := rst HO206 hw; replace HO209 := rst HO209 hw; replace BK195 := sps #[.int .i64 t200, .slice Ao10 t201.length co10, .slice Ao11 t204.length co11, .slice Ao12 t207.length co12] BK195 hw (.p (.p (.p (.p .nil)))); replace HB := bhw HB hw; clear hw))
  refine bodyPost_ret (results_ct rfl _ _ gb195 29 #[.int .i64 t200, .slice Ao10 t201.length co10, .slice Ao11 t204.length co11, .slice Ao12 t207.length co12] (0, 0) _ rfl (bx BK195.out) Tryz.underlying29 rfl (by kernel_rfl)) rfl ?_
  exact ⟨_, _, _, er, by exact Kd.R_mono HO203.out (fun _ hk => trivial), by exact HO206.out, by exact HO209.out, bh HB.out⟩
 ·simp only [Option.some.injEq, Prod.mk.injEq] at H
  obtain ⟨rfl, rfl, rfl, rfl, rfl⟩ := H
  go_enter Tryz.func29, Tryz.ntmps29
  go_wp2_with (first | ((with_reducible refine gate_dst (N := 2) rfl ?_); refine boxE HB 2 29 #[.int .i64 0, .slice none 0 0, .slice none 0 0, .slice none 0 0] ?_; clear HB; intro gb195 w14 BK195 GW195 hg hb HB; have GE195 := GW195; clear hb hg) | ((with_reducible refine gate_callee (f := 43) rfl ?_); refine gL 8 Tryz.func43 #[.slice A0 l0.length c0] ?_; (with_reducible refine (span_Of.calls k _ _ l0 t196 t197 _ ?side1 ?side2 A2.out).mono ?_); (case side1 => exact cx (Kd.C_below HR0.out HB.out)); (case side2 => exact HC0.out); rintro e w15 ⟨v198, rfl, ho0, hb⟩; refine ⟨_, rfl, ?_⟩; have HO199 := Aside0.mk (Kd.R_lower ho0 (below_size (bh HB.out))); replace BK195 := bba BK195 hb; replace HB := bsa HB hb; clear hb ho0; obtain ⟨hcz16_0, hcz16_1, hcz16_2, hcz16_3, hfz16_0, hfz16_1, hfz16_2, hfz16_3⟩ := b4 BK195) | ((with_reducible refine gate_store (t := 29) (p := 2) rfl ?_); refine stE 29 2 ((((w15.setCell ⟨gb195, 0, none⟩ (.int .i64 0)).setCell ⟨gb195, 1, none⟩ (.slice none 0 0)).setCell ⟨gb195, 2, none⟩ (.slice none 0 0)).setCell ⟨gb195, 3, none⟩ (.slice none 0 0)) ?_; intro w17 hw; replace HO199 := rsm (fun _ => True) HO199 hw (fun _ hk => trivial); replace BK195 := sps #[.int .i64 0, .slice none 0 0, .slice none 0 0, .slice none 0 0] BK195 hw (.p (.p (.p (.p .nil)))); replace HB := bhw HB hw; clear hw))
  refine bodyPost_ret (results_ct rfl _ _ gb195 29 #[.int .i64 0, .slice none 0 0, .slice none 0 0, .slice none 0 0] (0, 0) _ rfl (bx BK195.out) Tryz.underlying29 rfl (by kernel_rfl)) rfl ?_
  exact ⟨_, _, _, er, nl, nl, nl, bh HB.out⟩
/-! ### words_May: function 70 -/
def words_May.f (l0 : List Int) : Option (Bool) := if (l0.length : Int) ≤ 1024 then (if (l0.length : Int) = 0 then (some true) else (if 0 ≤ (wrap64 ((l0.length : Int) - 1)) then (if (wrap64 ((l0.length : Int) - 1)) < (l0.length : Int) then (some ((rd l0 (wrap64 ((l0.length : Int) - 1))) != 0)) else (none)) else (none))) else (some false)
set_option maxHeartbeats 8000000 in
set_option maxRecDepth 100000 in
theorem words_May.calls (A0 : Option Addr) (c0 : Nat) (l0 : List Int) (r : Bool) (w : World) (hr0 : Kd.C (Kd.int .i64) w A0 l0.length l0) (hc0 : l0.length ≤ c0) (h : words_May.f l0 = some r) :
  Calls Tryz.prog 70 #[.slice A0 l0.length c0] w fun e w' => e = .returned (.bool r) ∧ Drawn0 w w' := by
 have HR0 := Aside0.mk hr0
 have HC0 := Aside0.mk hc0
 clear hr0 hc0
 have H := h
 clear h
 unfold words_May.f at H
 replace H := ifd H
 rcases H with ⟨c2, c2b0, H⟩ | ⟨c2, c2b0, H⟩
 ·have c2b1 : decide (l0.length ≤ 1024) = true := decide_eq_true (by omega)
  clear c2
  replace H := ife H
  rcases H with ⟨-, c3b0, c3b1, H⟩ | ⟨c3, c3b0, c3b1, H⟩
  ·obtain rfl := Option.some.inj H
   go_enter Tryz.func70, Tryz.ntmps70
   go_wp2
   go_ret
   exact ⟨by rfl, by repeat (exact Drawn0.refl _)⟩
  ·have c3b2 : ¬ (l0 = []) := fun h_ => c3 (by rw [h_]; rfl)
   obtain ⟨ji4, hji4⟩ : ∃ j_ : Int, (wrap64 ((l0.length : Int) - 1)) = j_ := ⟨_, rfl⟩
   replace H : (if 0 ≤ (ji4) then (if (ji4) < (l0.length : Int) then (some ((rd l0 (ji4)) != 0)) else (none)) else (none)) = some r := by (rw [hji4] at H; exact H)
   have hji4w : (IntKind.i64.wrap ((l0.length : Int) - 1)) = ji4 := (i64_w _).trans hji4
   replace H := ifn H
   obtain ⟨-, c5b0, H⟩ := H
   replace H := ifn H
   obtain ⟨-, c6b0, H⟩ := H
   obtain rfl := Option.some.inj H
   have p211 : 0 ≤ ((ji4) : Int) := ad
   have q211 : (ji4) < (l0.length : Int) := ad
   obtain ⟨ad211, e211, hx211_0⟩ := Kd.at_int HR0.out (ji4) p211 q211
   cases e211
   replace p211 := eq_true p211
   replace q211 := eq_true q211
   go_enter Tryz.func70, Tryz.ntmps70
   go_wp2
   go_ret
   exact ⟨by rfl, by repeat (exact Drawn0.refl _)⟩
 ·have c2b1 : decide (l0.length ≤ 1024) = false := decide_eq_false (by omega)
  clear c2
  obtain rfl := Option.some.inj H
  go_enter Tryz.func70, Tryz.ntmps70
  go_wp2
  go_ret
  exact ⟨by rfl, by repeat (exact Drawn0.refl _)⟩
end Go.Proofs.YtdgphlkbmplbpaaGreat.Print
end
section
namespace Go.Proofs.YtdgphlkbmplbpaaGreat.Print
open Go.RowKit Go.Proofs.YtdgphlkbmplbpaaGreatW.PrintWords Go.Proofs.YtdgphlkbmplbpaaGreatW.PrintLast Go.Proofs.YtdgphlkbmplbpaaGreatW.PrintMore
attribute [local go_sem] max2_int min2_int max_two min_two max_three min_three max_four min_four   -- for this text's walks alone
set_option linter.unusedVariables false
set_option linter.unusedSimpArgs false
/-! ### bits_Field: function 98 -/
def bits_Field.f (a0 : Int) (a1 : Int) (a2 : Int) : Option (Int) := (bits_placed.f a1 a2).bind fun t212 => (if t212 = true then (if 0 ≤ a1 then ((bits_Mask.f a2).bind fun t213 => (some (Go.bits .and .i64 (wrap64 (shr .u64 (IntKind.u64.wrap (a0)) a1)) t213))) else (none)) else (some 0))
set_option maxHeartbeats 8000000 in
set_option maxRecDepth 100000 in
theorem bits_Field.calls (a0 : Int) (a1 : Int) (a2 : Int) (r : Int) (w : World) (h : bits_Field.f a0 a1 a2 = some r) :
  Calls Tryz.prog 98 #[.int .i64 a0, .int .i64 a1, .int .i64 a2] w fun e w' => e = .returned (.int .i64 r) ∧ Drawn0 w w' := by
 have H := h
 clear h
 unfold bits_Field.f at H
 replace H := bd H
 obtain ⟨t212, A4, H⟩ := H
 replace H := ifb H
 rcases H with ⟨rfl, H⟩ | ⟨rfl, H⟩
 ·replace H := ifn H
  obtain ⟨c6, -, H⟩ := H
  have c6b0 := eq_true c6
  have c6b1 : decide (0 ≤ a1) = true := decide_eq_true c6
  clear c6
  obtain ⟨ji7, hji7⟩ : ∃ j_ : Int, (shr .u64 (IntKind.u64.wrap (a0)) a1) = j_ := ⟨_, rfl⟩
  replace H : ((bits_Mask.f a2).bind fun t213 => (some (Go.bits .and .i64 (wrap64 (ji7)) t213))) = some r := by (rw [hji7] at H; exact H)
  have hji7_ : ((IntKind.u64.wrap (a0)) / 2 ^ min a1.toNat 64) = ji7 := hji7
  have hji7z : a1 ≤ 64 → ((IntKind.u64.wrap (a0)) / 2 ^ a1.toNat) = ji7 := shr_small hji7
  replace H := bd H
  obtain ⟨t213, A8, H⟩ := H
  obtain rfl := Option.some.inj H
  go_enter Tryz.func98, Tryz.ntmps98
  go_wp2_with ((go_at_call 121; (with_reducible refine (bits_placed.calls a1 a2 true _ A4.out).mono ?_); rintro e w' ⟨rfl, ⟨nd, rfl⟩⟩))
  repeat (go_quiet ((go_at_call 122; (with_reducible refine (bits_Mask.calls a2 t213 _ A8.out).mono ?_); rintro e w' ⟨rfl, ⟨nd, rfl⟩⟩; (exact ⟨rfl, _, Eq.trans (World.drewN_drewN _ _ _) (congrArg (World.drewN _) (Nat.add_assoc _ _ _))⟩))); go_wp2_with (fail))
  go_ret
  exact ⟨by rfl, by repeat (first | exact Drawn0.refl _ | apply Drawn0.step)⟩
 ·obtain rfl := Option.some.inj H
  go_enter Tryz.func98, Tryz.ntmps98
  go_wp2_with ((go_at_call 121; (with_reducible refine (bits_placed.calls a1 a2 false _ A4.out).mono ?_); rintro e w' ⟨rfl, ⟨nd, rfl⟩⟩))
  repeat (go_quiet (fail))
  go_ret
  exact ⟨by rfl, by repeat (first | exact Drawn0.refl _ | apply Drawn0.step)⟩
/-! ### words_Has: function 58 -/
def words_Has.f (l0 : List Int) (a1 : Int) : Option (Bool) := (words_May.f l0).bind fun t214 => (if t214 = true then (if a1 ≥ 0 then (if (a1 / 64) < (l0.length : Int) then (if 0 ≤ (a1 / 64) then ((bits_Field.f (rd l0 (a1 / 64)) (Go.bits .and .i64 a1 63) 1).bind fun t216 => (some (t216 == 1))) else (none)) else (some false)) else (some false)) else (some false))
set_option maxHeartbeats 8000000 in
set_option maxRecDepth 100000 in
theorem words_Has.calls (A0 : Option Addr) (c0 : Nat) (l0 : List Int) (a1 : Int) (r : Bool) (w : World) (hr0 : Kd.C (Kd.int .i64) w A0 l0.length l0) (hc0 : l0.length ≤ c0) (h : words_Has.f l0 a1 = some r) :
  Calls Tryz.prog 58 #[.slice A0 l0.length c0, .int .i64 a1] w fun e w' => e = .returned (.bool r) ∧ Drawn0 w w' := by
 have HR0 := Aside0.mk hr0
 have HC0 := Aside0.mk hc0
 clear hr0 hc0
 have H := h
 clear h
 unfold words_Has.f at H
 replace H := bd H
 obtain ⟨t214, A3, H⟩ := H
 replace H := ifb H
 rcases H with ⟨rfl, H⟩ | ⟨rfl, H⟩
 ·replace H := ifd H
  rcases H with ⟨-, c5b0, H⟩ | ⟨-, c5b0, H⟩
  ·replace H := ifd H
   rcases H with ⟨-, c6b0, H⟩ | ⟨-, c6b0, H⟩
   ·obtain ⟨ji7, hji7⟩ : ∃ j_ : Int, (a1 / 64) = j_ := ⟨_, rfl⟩
    replace H : (if 0 ≤ (ji7) then ((bits_Field.f (rd l0 (ji7)) (Go.bits .and .i64 a1 63) 1).bind fun t216 => (some (t216 == 1))) else (none)) = some r := by (rw [hji7] at H; exact H)
    (rw [hji7] at c6b0)
    replace H := ifn H
    obtain ⟨-, c8b0, H⟩ := H
    replace H := bd H
    obtain ⟨t216, A9, H⟩ := H
    obtain rfl := Option.some.inj H
    go_enter Tryz.func58, Tryz.ntmps58
    go_wp2_with (first | ((with_reducible refine gate_callee (f := 70) rfl ?_); refine gL 6 Tryz.func70 #[.slice A0 l0.length c0] ?_; (with_reducible refine (words_May.calls _ _ l0 true _ ?side1 ?side2 A3.out).mono ?_); (case side1 => exact cx HR0.out); (case side2 => exact HC0.out); rintro e w' ⟨rfl, ⟨nd, rfl⟩⟩; refine ⟨_, rfl, ?_⟩; have p215 : 0 ≤ ((ji7) : Int) := ad; have q215 : (ji7) < (l0.length : Int) := ad; obtain ⟨ad215, e215, hx215_0⟩ := Kd.at_int HR0.out (ji7) p215 q215; cases e215; replace p215 := eq_true p215; replace q215 := eq_true q215) | (go_at_call 98; (with_reducible refine (bits_Field.calls (rd l0 (ji7)) (Go.bits .and .i64 a1 63) 1 t216 _ A9.out).mono ?_); rintro e w' ⟨rfl, ⟨nd, rfl⟩⟩; clear A9))
    go_ret
    exact ⟨by rfl, by repeat (first | exact Drawn0.refl _ | apply Drawn0.step)⟩
   ·obtain rfl := Option.some.inj H
    go_enter Tryz.func58, Tryz.ntmps58
    go_wp2_with (((with_reducible refine gate_callee (f := 70) rfl ?_); refine gL 6 Tryz.func70 #[.slice A0 l0.length c0] ?_; (with_reducible refine (words_May.calls _ _ l0 true _ ?side1 ?side2 A3.out).mono ?_); (case side1 => exact cx HR0.out); (case side2 => exact HC0.out); rintro e w' ⟨rfl, ⟨nd, rfl⟩⟩; refine ⟨_, rfl, ?_⟩))
    go_ret
    exact ⟨by rfl, by repeat (first | exact Drawn0.refl _ | apply Drawn0.step)⟩
  ·obtain rfl := Option.some.inj H
   go_enter Tryz.func58, Tryz.ntmps58
   go_wp2_with (((with_reducible refine gate_callee (f := 70) rfl ?_); refine gL 6 Tryz.func70 #[.slice A0 l0.length c0] ?_; (with_reducible refine (words_May.calls _ _ l0 true _ ?side1 ?side2 A3.out).mono ?_); (case side1 => exact cx HR0.out); (case side2 => exact HC0.out); rintro e w' ⟨rfl, ⟨nd, rfl⟩⟩; refine ⟨_, rfl, ?_⟩))
   go_ret
   exact ⟨by rfl, by repeat (first | exact Drawn0.refl _ | apply Drawn0.step)⟩
 ·obtain rfl := Option.some.inj H
  go_enter Tryz.func58, Tryz.ntmps58
  go_wp2_with (((with_reducible refine gate_callee (f := 70) rfl ?_); refine gL 6 Tryz.func70 #[.slice A0 l0.length c0] ?_; (with_reducible refine (words_May.calls _ _ l0 false _ ?side1 ?side2 A3.out).mono ?_); (case side1 => exact cx HR0.out); (case side2 => exact HC0.out); rintro e w' ⟨rfl, ⟨nd, rfl⟩⟩; refine ⟨_, rfl, ?_⟩))
  go_ret
  exact ⟨by rfl, by repeat (first | exact Drawn0.refl _ | apply Drawn0.step)⟩
/-! ### cmp_isNaN_int: function 123 -/
def cmp_isNaN_int.f (a0 : Int) : Option (Bool) := some (a0 != a0)
set_option maxHeartbeats 8000000 in
set_option maxRecDepth 100000 in
theorem cmp_isNaN_int.calls (a0 : Int) (r : Bool) (w : World) (h : cmp_isNaN_int.f a0 = some r) :
  Calls Tryz.prog 123 #[.int .i64 a0] w fun e w' => e = .returned (.bool r) ∧ Drawn0 w w' := by
 have H := h
 clear h
 unfold cmp_isNaN_int.f at H
 obtain rfl := Option.some.inj H
 go_enter Tryz.func123, Tryz.ntmps123
 go_wp2
 go_ret
 exact ⟨by rfl, by repeat (exact Drawn0.refl _)⟩
/-! ### cmp_Less_int: function 99 -/
def cmp_Less_int.f (a0 : Int) (a1 : Int) : Option (Bool) := (cmp_isNaN_int.f a0).bind fun t217 => (if t217 = true then ((cmp_isNaN_int.f a1).bind fun t218 => (if t218 = true then (some (decide (a0 < a1))) else (some true))) else (some (decide (a0 < a1))))
set_option maxHeartbeats 8000000 in
set_option maxRecDepth 100000 in
theorem cmp_Less_int.calls (a0 : Int) (a1 : Int) (r : Bool) (w : World) (h : cmp_Less_int.f a0 a1 = some r) :
  Calls Tryz.prog 99 #[.int .i64 a0, .int .i64 a1] w fun e w' => e = .returned (.bool r) ∧ Drawn0 w w' := by
 have H := h
 clear h
 unfold cmp_Less_int.f at H
 replace H := bd H
 obtain ⟨t217, A3, H⟩ := H
 replace H := ifb H
 rcases H with ⟨rfl, H⟩ | ⟨rfl, H⟩
 ·replace H := bd H
  obtain ⟨t218, A5, H⟩ := H
  replace H := ifb H
  rcases H with ⟨rfl, H⟩ | ⟨rfl, H⟩
  ·obtain rfl := Option.some.inj H
   go_enter Tryz.func99, Tryz.ntmps99
   go_wp2_with (first | ((with_reducible refine gate_callee (f := 123) rfl ?_); refine gL 6 Tryz.func123 #[.int .i64 a0] ?_; (with_reducible refine (cmp_isNaN_int.calls a0 true _ A3.out).mono ?_); rintro e w' ⟨rfl, ⟨nd, rfl⟩⟩; refine ⟨_, rfl, ?_⟩) | (go_at_call 123; (with_reducible refine (cmp_isNaN_int.calls a1 true _ A5.out).mono ?_); rintro e w' ⟨rfl, ⟨nd, rfl⟩⟩; clear A5))
   go_ret
   exact ⟨by rfl, by repeat (first | exact Drawn0.refl _ | apply Drawn0.step)⟩
  ·obtain rfl := Option.some.inj H
   go_enter Tryz.func99, Tryz.ntmps99
   go_wp2_with (first | ((with_reducible refine gate_callee (f := 123) rfl ?_); refine gL 6 Tryz.func123 #[.int .i64 a0] ?_; (with_reducible refine (cmp_isNaN_int.calls a0 true _ A3.out).mono ?_); rintro e w' ⟨rfl, ⟨nd, rfl⟩⟩; refine ⟨_, rfl, ?_⟩) | (go_at_call 123; (with_reducible refine (cmp_isNaN_int.calls a1 false _ A5.out).mono ?_); rintro e w' ⟨rfl, ⟨nd, rfl⟩⟩; clear A5))
   go_ret
   exact ⟨by rfl, by repeat (first | exact Drawn0.refl _ | apply Drawn0.step)⟩
 ·obtain rfl := Option.some.inj H
  go_enter Tryz.func99, Tryz.ntmps99
  go_wp2_with (((with_reducible refine gate_callee (f := 123) rfl ?_); refine gL 6 Tryz.func123 #[.int .i64 a0] ?_; (with_reducible refine (cmp_isNaN_int.calls a0 false _ A3.out).mono ?_); rintro e w' ⟨rfl, ⟨nd, rfl⟩⟩; refine ⟨_, rfl, ?_⟩))
  go_ret
  exact ⟨by rfl, by repeat (first | exact Drawn0.refl _ | apply Drawn0.step)⟩
/-! ### slices_isNaN_int: function 100 -/
def slices_isNaN_int.f (a0 : Int) : Option (Bool) := some (a0 != a0)
set_option maxHeartbeats 8000000 in
set_option maxRecDepth 100000 in
theorem slices_isNaN_int.calls (a0 : Int) (r : Bool) (w : World) (h : slices_isNaN_int.f a0 = some r) :
  Calls Tryz.prog 100 #[.int .i64 a0] w fun e w' => e = .returned (.bool r) ∧ Drawn0 w w' := by
 have H := h
 clear h
 unfold slices_isNaN_int.f at H
 obtain rfl := Option.some.inj H
 go_enter Tryz.func100, Tryz.ntmps100
 go_wp2
 go_ret
 exact ⟨by rfl, by repeat (exact Drawn0.refl _)⟩
/-! ### slices_BinarySearch_int_int: function 59 -/
def slices_BinarySearch_int_int.l0 : Nat → List Int → Int → Int → Int → Int → Option (Int × Bool)
 | 0, _, _, _, _, _ => none
 | k + 1, x0, x1, x6, x7, x8 => if x7 < x8 then (if 0 ≤ (wrap64 ((IntKind.u64.wrap (wrap64 (x7 + x8))) / 2)) then (if (wrap64 ((IntKind.u64.wrap (wrap64 (x7 + x8))) / 2)) < (x0.length : Int) then ((cmp_Less_int.f (rd x0 (wrap64 ((IntKind.u64.wrap (wrap64 (x7 + x8))) / 2))) x1).bind fun t220 => (if t220 = true then (slices_BinarySearch_int_int.l0 k x0 x1 x6 (wrap64 ((wrap64 ((IntKind.u64.wrap (wrap64 (x7 + x8))) / 2)) + 1)) x8) else (slices_BinarySearch_int_int.l0 k x0 x1 x6 x7 (wrap64 ((IntKind.u64.wrap (wrap64 (x7 + x8))) / 2))))) else (none)) else (none)) else (if x7 < x6 then (if 0 ≤ x7 then (if x7 < (x0.length : Int) then (if (rd x0 x7) = x1 then (some (x7, true)) else ((slices_isNaN_int.f (rd x0 x7)).bind fun t223 => (if t223 = true then ((slices_isNaN_int.f x1).bind fun t224 => (some (x7, t224))) else (some (x7, false))))) else (none)) else (none)) else (some (x7, false)))
def slices_BinarySearch_int_int.f (k : Nat) (l0 : List Int) (a1 : Int) : Option (Int × Bool) := slices_BinarySearch_int_int.l0 k l0 a1 (l0.length : Int) 0 (l0.length : Int)
theorem slices_BinarySearch_int_int.l0_succ (k) (a0) (a1) (a2) (a3) (a4) : type_of% (@slices_BinarySearch_int_int.l0.eq_2 a0 a1 a2 a3 a4 k) := slices_BinarySearch_int_int.l0.eq_2 a0 a1 a2 a3 a4 k
set_option maxHeartbeats 8000000 in
set_option maxRecDepth 100000 in
theorem slices_BinarySearch_int_int.calls (k : Nat) (A0 : Option Addr) (c0 : Nat) (l0 : List Int) (a1 : Int) (r1 : Int) (r2 : Bool) (w : World) (hr0 : Kd.C (Kd.int .i64) w A0 l0.length l0) (hc0 : l0.length ≤ c0) (h : slices_BinarySearch_int_int.f k l0 a1 = some (r1, r2)) :
  Calls Tryz.prog 59 #[.slice A0 l0.length c0, .int .i64 a1] w fun e w' => e = .returned (.tuple #[.int .i64 r1, .bool r2]) ∧ Drawn0 w w' := by
 have HR0 := Aside0.mk hr0
 have HC0 := Aside0.mk hc0
 clear hr0 hc0
 have H := h
 clear h
 unfold slices_BinarySearch_int_int.f at H
 have H' := Aside0.mk H
 clear H
 go_enter Tryz.func59, Tryz.ntmps59
 go_wp2
 go_loopg [7, 8] k (fun kq v7 v8 w' => ∃ (x7_1 : Int) (x8_1 : Int), v7 = .int .i64 x7_1 ∧ v8 = .int .i64 x8_1 ∧ Aside0 (slices_BinarySearch_int_int.l0 kq l0 a1 (l0.length : Int) x7_1 x8_1 = some (r1, r2)) ∧ Aside0 (kq ≤ k) ∧ Drawn0 w w')
 case atStart => exact ⟨(0), ((l0.length : Int)), (by rfl), (by rfl), H', ⟨Nat.le_refl _⟩, by repeat (exact Drawn0.refl _)⟩
 case round =>
  clear H'
  obtain ⟨x7_1, x8_1, rfl, rfl, HA, HK1, ⟨m1, rfl⟩⟩ := hrel
  cases gk with
  | zero => exact absurd HA.out (by simp [slices_BinarySearch_int_int.l0])
  | succ k1 =>
   have H := HA.out
   clear HA
   simp only [slices_BinarySearch_int_int.l0] at H
   replace H := ifd H
   rcases H with ⟨-, c3b0, H⟩ | ⟨-, c3b0, H⟩
   ·obtain ⟨ji4, hji4⟩ : ∃ j_ : Int, (wrap64 ((IntKind.u64.wrap (wrap64 (x7_1 + x8_1))) / 2)) = j_ := ⟨_, rfl⟩
    replace H : (if 0 ≤ (ji4) then (if (ji4) < (l0.length : Int) then ((cmp_Less_int.f (rd l0 (ji4)) a1).bind fun t220 => (if t220 = true then (slices_BinarySearch_int_int.l0 k1 l0 a1 (l0.length : Int) (wrap64 ((ji4) + 1)) x8_1) else (slices_BinarySearch_int_int.l0 k1 l0 a1 (l0.length : Int) x7_1 ji4))) else (none)) else (none)) = some (r1, r2) := by (rw [hji4] at H; exact H)
    have hji4w : (IntKind.i64.wrap ((IntKind.u64.wrap (wrap64 (x7_1 + x8_1))) / 2)) = ji4 := (i64_w _).trans hji4
    replace H := ifn H
    obtain ⟨-, c5b0, H⟩ := H
    replace H := ifn H
    obtain ⟨-, c6b0, H⟩ := H
    replace H := bd H
    obtain ⟨t220, A7, H⟩ := H
    replace H := ifb H
    rcases H with ⟨rfl, H⟩ | ⟨rfl, H⟩
    ·have H' := Aside0.mk H
     clear H
     have p219 : 0 ≤ ((ji4) : Int) := ad
     have q219 : (ji4) < (l0.length : Int) := ad
     obtain ⟨ad219, e219, hx219_0⟩ := Kd.at_int HR0.out (ji4) p219 q219
     cases e219
     replace p219 := eq_true p219
     replace q219 := eq_true q219
     go_wp2_with (((with_reducible refine gate_callee (f := 99) rfl ?_); refine gL 27 Tryz.func99 #[.int .i64 (rd l0 (ji4)), .int .i64 a1] ?_; (with_reducible refine (cmp_Less_int.calls (rd l0 (ji4)) a1 true _ A7.out).mono ?_); rintro e w' ⟨rfl, ⟨nd, rfl⟩⟩; refine ⟨_, rfl, ?_⟩))
     go_roundg k1
     case measure => have := HK1.out; omega
     case rel => exact ⟨(wrap64 ((ji4) + 1)), (x8_1), (by rfl), (by rfl), (by exact H'), ⟨by have := HK1.out; omega⟩, by repeat (first | exact Drawn0.refl _ | apply Drawn0.step)⟩
    ·have H' := Aside0.mk H
     clear H
     have p219 : 0 ≤ ((ji4) : Int) := ad
     have q219 : (ji4) < (l0.length : Int) := ad
     obtain ⟨ad219, e219, hx219_0⟩ := Kd.at_int HR0.out (ji4) p219 q219
     cases e219
     replace p219 := eq_true p219
     replace q219 := eq_true q219
     go_wp2_with (((with_reducible refine gate_callee (f := 99) rfl ?_); refine gL 27 Tryz.func99 #[.int .i64 (rd l0 (ji4)), .int .i64 a1] ?_; (with_reducible refine (cmp_Less_int.calls (rd l0 (ji4)) a1 false _ A7.out).mono ?_); rintro e w' ⟨rfl, ⟨nd, rfl⟩⟩; refine ⟨_, rfl, ?_⟩))
     go_roundg k1
     case measure => have := HK1.out; omega
     case rel => exact ⟨(x7_1), (ji4), (by rfl), (by rfl), (by exact H'), ⟨by have := HK1.out; omega⟩, by repeat (first | exact Drawn0.refl _ | apply Drawn0.step)⟩
   ·replace H := ifd H
    rcases H with ⟨-, c9b0, H⟩ | ⟨-, c9b0, H⟩
    ·replace H := ifn H
     obtain ⟨-, c10b0, H⟩ := H
     replace H := ifn H
     obtain ⟨-, c11b0, H⟩ := H
     replace H := ife H
     rcases H with ⟨-, c12b0, c12b1, H⟩ | ⟨c12, c12b0, c12b1, H⟩
     ·simp only [Option.some.injEq, Prod.mk.injEq] at H
      obtain ⟨rfl, rfl⟩ := H
      have p221 : 0 ≤ (x7_1 : Int) := ad
      have q221 : x7_1 < (l0.length : Int) := ad
      obtain ⟨ad221, e221, hx221_0⟩ := Kd.at_int HR0.out x7_1 p221 q221
      cases e221
      replace p221 := eq_true p221
      replace q221 := eq_true q221
      go_wp2
      go_ret2
      exact ⟨by rfl, by repeat (first | exact Drawn0.refl _ | apply Drawn0.step)⟩
     ·replace H := bd H
      obtain ⟨t223, A13, H⟩ := H
      replace H := ifb H
      rcases H with ⟨rfl, H⟩ | ⟨rfl, H⟩
      ·replace H := bd H
       obtain ⟨t224, A15, H⟩ := H
       simp only [Option.some.injEq, Prod.mk.injEq] at H
       obtain ⟨rfl, rfl⟩ := H
       have p221 : 0 ≤ (x7_1 : Int) := ad
       have q221 : x7_1 < (l0.length : Int) := ad
       obtain ⟨ad221, e221, hx221_0⟩ := Kd.at_int HR0.out x7_1 p221 q221
       cases e221
       replace p221 := eq_true p221
       replace q221 := eq_true q221
       have p222 : 0 ≤ (x7_1 : Int) := ad
       have q222 : x7_1 < (l0.length : Int) := ad
       obtain ⟨ad222, e222, hx222_0⟩ := Kd.at_int HR0.out x7_1 p222 q222
       obtain rfl : ad221 = ad222 := (by injection e222)
       replace p222 := eq_true p222
       replace q222 := eq_true q222
       go_wp2_with (first | (go_at_call 100; (with_reducible refine (slices_isNaN_int.calls (rd l0 x7_1) true _ A13.out).mono ?_); rintro e w' ⟨rfl, ⟨nd, rfl⟩⟩; clear A13) | (go_at_call 100; (with_reducible refine (slices_isNaN_int.calls a1 t224 _ A15.out).mono ?_); rintro e w' ⟨rfl, ⟨nd, rfl⟩⟩; clear A15))
       go_ret2
       exact ⟨by rfl, by repeat (first | exact Drawn0.refl _ | apply Drawn0.step)⟩
      ·simp only [Option.some.injEq, Prod.mk.injEq] at H
       obtain ⟨rfl, rfl⟩ := H
       have p221 : 0 ≤ (x7_1 : Int) := ad
       have q221 : x7_1 < (l0.length : Int) := ad
       obtain ⟨ad221, e221, hx221_0⟩ := Kd.at_int HR0.out x7_1 p221 q221
       cases e221
       replace p221 := eq_true p221
       replace q221 := eq_true q221
       have p222 : 0 ≤ (x7_1 : Int) := ad
       have q222 : x7_1 < (l0.length : Int) := ad
       obtain ⟨ad222, e222, hx222_0⟩ := Kd.at_int HR0.out x7_1 p222 q222
       obtain rfl : ad221 = ad222 := (by injection e222)
       replace p222 := eq_true p222
       replace q222 := eq_true q222
       go_wp2_with ((go_at_call 100; (with_reducible refine (slices_isNaN_int.calls (rd l0 x7_1) false _ A13.out).mono ?_); rintro e w' ⟨rfl, ⟨nd, rfl⟩⟩; clear A13))
       go_ret2
       exact ⟨by rfl, by repeat (first | exact Drawn0.refl _ | apply Drawn0.step)⟩
    ·simp only [Option.some.injEq, Prod.mk.injEq] at H
     obtain ⟨rfl, rfl⟩ := H
     go_wp2
     go_ret2
     exact ⟨by rfl, by repeat (first | exact Drawn0.refl _ | apply Drawn0.step)⟩
/-! ### span_Has: function 60 -/
def span_Has.l0 : Nat → Bool → List (S70) → Int → Int → Int → Option (Bool)
 | 0, _, _, _, _, _ => none
 | k + 1, x7, x21, x28, x29, x227000 => if x29 < x28 then (if 0 ≤ x29 then (if x29 < (x21.length : Int) then (if x227000 ≥ ((rd_T70 x21 x29).f0) then (if x227000 < ((rd_T70 x21 x29).f1) then (if x7 = true then (some (decide (x29 ≥ 0))) else (some false)) else (span_Has.l0 k x7 x21 x28 (wrap64 (x29 + 1)) x227000)) else (span_Has.l0 k x7 x21 x28 (wrap64 (x29 + 1)) x227000)) else (none)) else (none)) else (if x7 = true then (some (decide ((-1) ≥ 0))) else (some false))
def span_Has.f (k : Nat) (l0 : List (S70)) (a1 : Int) : Option (Bool) := (span_May.f k l0).bind fun t227 => (if t227 = true then (span_Has.l0 k t227 l0 (l0.length : Int) 0 a1) else (some false))
theorem span_Has.l0_succ (k) (a0) (a1) (a2) (a3) (a4) : type_of% (@span_Has.l0.eq_2 a0 a1 a2 a3 a4 k) := span_Has.l0.eq_2 a0 a1 a2 a3 a4 k
set_option maxHeartbeats 8000000 in
set_option maxRecDepth 100000 in
theorem span_Has.calls (k : Nat) (A0 : Option Addr) (c0 : Nat) (l0 : List (S70)) (a1 : Int) (r : Bool) (w : World) (hr0 : Kd.C k70 w A0 l0.length l0) (hc0 : l0.length ≤ c0) (h : span_Has.f k l0 a1 = some r) :
  Calls Tryz.prog 60 #[.slice A0 l0.length c0, .int .i64 a1] w fun e w' => e = .returned (.bool r) ∧ Below w.heap.size w w' := by
 have hmf : ∀ (fn : Fn) (first cap : Array Value) (w : World), (Instr.makeFunc fn first cap).run Tryz.prog w = .ok (.func fn first cap) w := fun _ _ _ _ => rfl
 have hu70 := Tryz.underlying70
 have HR0 := Aside0.mk hr0
 have HC0 := Aside0.mk hc0
 clear hr0 hc0
 have HB := Aside0.mk (Below.refl w.heap.size w)
 have H := h
 clear h
 unfold span_Has.f at H
 replace H := bd H
 obtain ⟨t227, A3, H⟩ := H
 replace H := ifb H
 rcases H with ⟨rfl, H⟩ | ⟨rfl, H⟩
 ·have H' := Aside0.mk H
  clear H
  go_enter Tryz.func60, Tryz.ntmps60
  go_wp2_with (first | ((with_reducible refine gate_dst (N := 3) rfl ?_); refine boxE HB 3 3 #[.int .i64 a1] ?_; clear HB; intro gb226 w5 BK226 GW226 hg hb HB; have GE226 := GW226; clear hb hg) | ((with_reducible refine gate_callee (f := 62) rfl ?_); refine gL 6 Tryz.func62 #[.slice A0 l0.length c0] ?_; (with_reducible refine (span_May.calls k _ _ l0 true _ ?side1 ?side2 A3.out).mono ?_); (case side1 => exact cx (Kd.C_below HR0.out HB.out)); (case side2 => exact HC0.out); rintro e w6 ⟨rfl, hb⟩; refine ⟨_, rfl, ?_⟩; replace BK226 := bba BK226 hb; replace HB := bsa HB hb; clear hb) | go_in)
  go_loopg [8] k (fun kq v29 w' => ∃ (x29_1 : Int), v29 = .int .i64 x29_1 ∧ Aside0 (span_Has.l0 kq true l0 (l0.length : Int) x29_1 a1 = some r) ∧ Aside0 (kq ≤ k) ∧ Aside0 (w'.heap[gb226]? = some (.cells #[.int .i64 a1] 3 (0, 0))) ∧ Aside0 (Below w.heap.size w w'))
  case atStart => exact ⟨(0), (by rfl), H', ⟨Nat.le_refl _⟩, ⟨bx BK226.out⟩, ⟨bh HB.out⟩⟩
  case round =>
   clear H'
   obtain ⟨x29_1, rfl, HA, HK1, BK226, HB⟩ := hrel
   cases gk with
   | zero => exact absurd HA.out (by simp [span_Has.l0])
   | succ k1 =>
    have H := HA.out
    clear HA
    simp only [span_Has.l0] at H
    replace H := ifd H
    rcases H with ⟨-, c7b0, H⟩ | ⟨-, c7b0, H⟩
    ·replace H := ifn H
     obtain ⟨-, c8b0, H⟩ := H
     replace H := ifn H
     obtain ⟨-, c9b0, H⟩ := H
     replace H := ifd H
     rcases H with ⟨-, c10b0, H⟩ | ⟨-, c10b0, H⟩
     ·replace H := ifd H
      rcases H with ⟨-, c11b0, H⟩ | ⟨-, c11b0, H⟩
      ·by_cases c12 : true = true
       ·clear c12
        have H1 : (some (decide (x29_1 ≥ 0))) = some r := by (rw [if_pos trivial] at H; exact H)
        clear H
        have H := H1
        clear H1
        obtain rfl := Option.some.inj H
        have p228 : 0 ≤ (x29_1 : Int) := ad
        have q228 : x29_1 < (l0.length : Int) := ad
        obtain ⟨ad228, e228, hx228_0, hx228_1⟩ := at_T70 HR0.out x29_1 p228 q228
        cases e228
        replace hx228_0 := cb HB.out.cell hx228_0
        replace hx228_1 := cb HB.out.cell hx228_1
        replace p228 := eq_true p228
        replace q228 := eq_true q228
        go_wp2_with (first | ((with_reducible refine gate_dst (N := 2) rfl ?_); refine boxE HB 2 70 #[.int .i64 ((rd_T70 l0 x29_1).f0), .int .i64 ((rd_T70 l0 x29_1).f1)] ?_; clear HB; intro gb229 w13 BK229 GW229 hg hb HB; have GE229 := GW229; have NB226_229 := bna BK226 hg; have NB229_226 := bma BK226 hg; replace BK226 := bba BK226 hb; clear hb hg; have hnb14 := NB226_229.out; have hnc14 := NB229_226.out; obtain ⟨hcz15_0, hfz15_0⟩ := b1 BK226; obtain ⟨hcz16_0, hcz16_1, hfz16_0, hfz16_1⟩ := b2 BK229) | go_in)
        go_ret
        exact ⟨er, bh HB.out⟩
       ·exact absurd rfl c12
      ·have H' := Aside0.mk H
       clear H
       have p228 : 0 ≤ (x29_1 : Int) := ad
       have q228 : x29_1 < (l0.length : Int) := ad
       obtain ⟨ad228, e228, hx228_0, hx228_1⟩ := at_T70 HR0.out x29_1 p228 q228
       cases e228
       replace hx228_0 := cb HB.out.cell hx228_0
       replace hx228_1 := cb HB.out.cell hx228_1
       replace p228 := eq_true p228
       replace q228 := eq_true q228
       go_wp2_with (first | ((with_reducible refine gate_dst (N := 2) rfl ?_); refine boxE HB 2 70 #[.int .i64 ((rd_T70 l0 x29_1).f0), .int .i64 ((rd_T70 l0 x29_1).f1)] ?_; clear HB; intro gb229 w21 BK229 GW229 hg hb HB; have GE229 := GW229; have NB226_229 := bna BK226 hg; have NB229_226 := bma BK226 hg; replace BK226 := bba BK226 hb; clear hb hg; have hnb22 := NB226_229.out; have hnc22 := NB229_226.out; obtain ⟨hcz23_0, hfz23_0⟩ := b1 BK226; obtain ⟨hcz24_0, hcz24_1, hfz24_0, hfz24_1⟩ := b2 BK229) | go_in)
       go_roundg k1
       case measure => have := HK1.out; omega
       case rel => exact ⟨(wrap64 (x29_1 + 1)), (by rfl), H', ⟨by have := HK1.out; omega⟩, ⟨bx BK226.out⟩, ⟨bh HB.out⟩⟩
     ·have H' := Aside0.mk H
      clear H
      have p228 : 0 ≤ (x29_1 : Int) := ad
      have q228 : x29_1 < (l0.length : Int) := ad
      obtain ⟨ad228, e228, hx228_0, hx228_1⟩ := at_T70 HR0.out x29_1 p228 q228
      cases e228
      replace hx228_0 := cb HB.out.cell hx228_0
      replace hx228_1 := cb HB.out.cell hx228_1
      replace p228 := eq_true p228
      replace q228 := eq_true q228
      go_wp2_with (first | ((with_reducible refine gate_dst (N := 2) rfl ?_); refine boxE HB 2 70 #[.int .i64 ((rd_T70 l0 x29_1).f0), .int .i64 ((rd_T70 l0 x29_1).f1)] ?_; clear HB; intro gb229 w25 BK229 GW229 hg hb HB; have GE229 := GW229; have NB226_229 := bna BK226 hg; have NB229_226 := bma BK226 hg; replace BK226 := bba BK226 hb; clear hb hg; have hnb26 := NB226_229.out; have hnc26 := NB229_226.out; obtain ⟨hcz27_0, hfz27_0⟩ := b1 BK226; obtain ⟨hcz28_0, hcz28_1, hfz28_0, hfz28_1⟩ := b2 BK229) | go_in)
      go_roundg k1
      case measure => have := HK1.out; omega
      case rel => exact ⟨(wrap64 (x29_1 + 1)), (by rfl), H', ⟨by have := HK1.out; omega⟩, ⟨bx BK226.out⟩, ⟨bh HB.out⟩⟩
    ·by_cases c29 : true = true
     ·clear c29
      have H1 : (some (decide ((-1) ≥ 0))) = some r := by (rw [if_pos trivial] at H; exact H)
      clear H
      have H := H1
      clear H1
      obtain rfl := Option.some.inj H
      go_wp2
      go_ret
      exact ⟨er, bh HB.out⟩
     ·exact absurd rfl c29
 ·obtain rfl := Option.some.inj H
  go_enter Tryz.func60, Tryz.ntmps60
  go_wp2_with (first | ((with_reducible refine gate_dst (N := 3) rfl ?_); refine boxE HB 3 3 #[.int .i64 a1] ?_; clear HB; intro gb226 w30 BK226 GW226 hg hb HB; have GE226 := GW226; clear hb hg) | ((with_reducible refine gate_callee (f := 62) rfl ?_); refine gL 6 Tryz.func62 #[.slice A0 l0.length c0] ?_; (with_reducible refine (span_May.calls k _ _ l0 false _ ?side1 ?side2 A3.out).mono ?_); (case side1 => exact cx (Kd.C_below HR0.out HB.out)); (case side2 => exact HC0.out); rintro e w31 ⟨rfl, hb⟩; refine ⟨_, rfl, ?_⟩; replace BK226 := bba BK226 hb; replace HB := bsa HB hb; clear hb))
  go_ret
  exact ⟨er, bh HB.out⟩
/-! ### poslist_List_Has: function 31 -/
def poslist_List_Has.f (k : Nat) (a0_0 : Int) (l0_1 : List (S70)) (l0_2 : List Int) (l0_3 : List Int) (a1 : Int) : Option (Bool) := if a0_0 = 2 then ((words_Has.f l0_2 a1).bind fun t231 => (some t231)) else (if a0_0 = 3 then ((slices_BinarySearch_int_int.f k l0_3 a1).bind fun bt232 => (some bt232.2)) else ((span_Has.f k l0_1 a1).bind fun t234 => (some t234)))
set_option maxHeartbeats 8000000 in
set_option maxRecDepth 100000 in
theorem poslist_List_Has.calls (k : Nat) (a0_0 : Int) (A0_1 : Option Addr) (c0_1 : Nat) (l0_1 : List (S70)) (A0_2 : Option Addr) (c0_2 : Nat) (l0_2 : List Int) (A0_3 : Option Addr) (c0_3 : Nat) (l0_3 : List Int) (a1 : Int) (r : Bool) (w : World) (hr0_1 : Kd.C k70 w A0_1 l0_1.length l0_1) (hc0_1 : l0_1.length ≤ c0_1) (hr0_2 : Kd.C (Kd.int .i64) w A0_2 l0_2.length l0_2) (hc0_2 : l0_2.length ≤ c0_2) (hr0_3 : Kd.C (Kd.int .i64) w A0_3 l0_3.length l0_3) (hc0_3 : l0_3.length ≤ c0_3) (h : poslist_List_Has.f k a0_0 l0_1 l0_2 l0_3 a1 = some r) :
  Calls Tryz.prog 31 #[.agg #[.int .i64 a0_0, .slice A0_1 l0_1.length c0_1, .slice A0_2 l0_2.length c0_2, .slice A0_3 l0_3.length c0_3], .int .i64 a1] w fun e w' => e = .returned (.bool r) ∧ Below w.heap.size w w' := by
 have hu29 := Tryz.underlying29
 have HR0_1 := Aside0.mk hr0_1
 have HC0_1 := Aside0.mk hc0_1
 clear hr0_1 hc0_1
 have HR0_2 := Aside0.mk hr0_2
 have HC0_2 := Aside0.mk hc0_2
 clear hr0_2 hc0_2
 have HR0_3 := Aside0.mk hr0_3
 have HC0_3 := Aside0.mk hc0_3
 clear hr0_3 hc0_3
 have HB := Aside0.mk (Below.refl w.heap.size w)
 have H := h
 clear h
 unfold poslist_List_Has.f at H
 replace H := ife H
 rcases H with ⟨-, c3b0, c3b1, H⟩ | ⟨c3, c3b0, c3b1, H⟩
 ·replace H := bd H
  obtain ⟨t231, A4, H⟩ := H
  obtain rfl := Option.some.inj H
  go_enter Tryz.func31, Tryz.ntmps31
  go_wp2_with (first | ((with_reducible refine gate_dst (N := 2) rfl ?_); refine boxE HB 2 29 #[.int .i64 a0_0, .slice A0_1 l0_1.length c0_1, .slice A0_2 l0_2.length c0_2, .slice A0_3 l0_3.length c0_3] ?_; clear HB; intro gb230 w5 BK230 GW230 hg hb HB; have GE230 := GW230; clear hb hg; obtain ⟨hcz6_0, hcz6_1, hcz6_2, hcz6_3, hfz6_0, hfz6_1, hfz6_2, hfz6_3⟩ := b4 BK230) | ((with_reducible refine gate_callee (f := 58) rfl ?_); refine gL 14 Tryz.func58 #[.slice A0_2 l0_2.length c0_2, .int .i64 a1] ?_; (with_reducible refine (words_Has.calls _ _ l0_2 a1 t231 _ ?side1 ?side2 A4.out).mono ?_); (case side1 => exact cx (Kd.C_below HR0_2.out HB.out)); (case side2 => exact HC0_2.out); rintro e w' ⟨rfl, ⟨nd, rfl⟩⟩; refine ⟨_, rfl, ?_⟩))
  go_ret
  exact ⟨er, bh HB.out⟩
 ·replace H := ife H
  rcases H with ⟨-, c7b0, c7b1, H⟩ | ⟨c7, c7b0, c7b1, H⟩
  ·replace H := bd H
   obtain ⟨⟨t232, t233⟩, A8, H⟩ := H
   dsimp only at H
   obtain rfl := Option.some.inj H
   go_enter Tryz.func31, Tryz.ntmps31
   go_wp2_with (first | ((with_reducible refine gate_dst (N := 2) rfl ?_); refine boxE HB 2 29 #[.int .i64 a0_0, .slice A0_1 l0_1.length c0_1, .slice A0_2 l0_2.length c0_2, .slice A0_3 l0_3.length c0_3] ?_; clear HB; intro gb230 w9 BK230 GW230 hg hb HB; have GE230 := GW230; clear hb hg; obtain ⟨hcz10_0, hcz10_1, hcz10_2, hcz10_3, hfz10_0, hfz10_1, hfz10_2, hfz10_3⟩ := b4 BK230) | ((with_reducible refine gate_callee (f := 59) rfl ?_); refine gL 21 Tryz.func59 #[.slice A0_3 l0_3.length c0_3, .int .i64 a1] ?_; (with_reducible refine (slices_BinarySearch_int_int.calls k _ _ l0_3 a1 t232 t233 _ ?side1 ?side2 A8.out).mono ?_); (case side1 => exact cx (Kd.C_below HR0_3.out HB.out)); (case side2 => exact HC0_3.out); rintro e w' ⟨rfl, ⟨nd, rfl⟩⟩; refine ⟨_, rfl, ?_⟩))
   go_ret
   exact ⟨er, bh HB.out⟩
  ·replace H := bd H
   obtain ⟨t234, A11, H⟩ := H
   obtain rfl := Option.some.inj H
   go_enter Tryz.func31, Tryz.ntmps31
   go_wp2_with (first | ((with_reducible refine gate_dst (N := 2) rfl ?_); refine boxE HB 2 29 #[.int .i64 a0_0, .slice A0_1 l0_1.length c0_1, .slice A0_2 l0_2.length c0_2, .slice A0_3 l0_3.length c0_3] ?_; clear HB; intro gb230 w12 BK230 GW230 hg hb HB; have GE230 := GW230; clear hb hg; obtain ⟨hcz13_0, hcz13_1, hcz13_2, hcz13_3, hfz13_0, hfz13_1, hfz13_2, hfz13_3⟩ := b4 BK230) | ((with_reducible refine gate_callee (f := 60) rfl ?_); refine gL 28 Tryz.func60 #[.slice A0_1 l0_1.length c0_1, .int .i64 a1] ?_; (with_reducible refine (span_Has.calls k _ _ l0_1 a1 t234 _ ?side1 ?side2 A11.out).mono ?_); (case side1 => exact cx (Kd.C_below HR0_1.out HB.out)); (case side2 => exact HC0_1.out); rintro e w14 ⟨rfl, hb⟩; refine ⟨_, rfl, ?_⟩; replace BK230 := bba BK230 hb; replace HB := bsa HB hb; clear hb))
   go_ret
   exact ⟨er, bh HB.out⟩
/-! ### poslist_List_Less_1: function 66 (a contract of the session's own) -/
def poslist_List_Less_1.f (k : Nat) (a0_0 : Int) (l0_1 : List (S70)) (l0_2 : List Int) (l0_3 : List Int) (a1 : Int) : Option Bool := (poslist_List_Has.f k a0_0 l0_1 l0_2 l0_3 a1).bind fun t => some (!t)
set_option maxHeartbeats 8000000 in
set_option maxRecDepth 100000 in
theorem poslist_List_Less_1.calls (k : Nat) (a0_0 : Int) (A0_1 : Option Addr) (c0_1 : Nat) (l0_1 : List (S70)) (A0_2 : Option Addr) (c0_2 : Nat) (l0_2 : List Int) (A0_3 : Option Addr) (c0_3 : Nat) (l0_3 : List Int) (a1 : Int) (t : Bool) (g : Nat) (w : World) (hg : w.heap[g]? = some (.cells #[.int .i64 a0_0, .slice A0_1 l0_1.length c0_1, .slice A0_2 l0_2.length c0_2, .slice A0_3 l0_3.length c0_3] 29 (0, 0))) (hr0_1 : Kd.C k70 w A0_1 l0_1.length l0_1) (hc0_1 : l0_1.length ≤ c0_1) (hr0_2 : Kd.C (Kd.int .i64) w A0_2 l0_2.length l0_2) (hc0_2 : l0_2.length ≤ c0_2) (hr0_3 : Kd.C (Kd.int .i64) w A0_3 l0_3.length l0_3) (hc0_3 : l0_3.length ≤ c0_3) (h : poslist_List_Has.f k a0_0 l0_1 l0_2 l0_3 a1 = some t) :
    Calls Tryz.prog 66 #[.int .i64 a1, .pointer (some ⟨g, 0, none⟩)] w fun e w' => e = .returned (.bool (!t)) ∧ Below w.heap.size w w' := by
 have hu27 := Tryz.underlying29
 have HR0_1 := Aside0.mk hr0_1
 have HC0_1 := Aside0.mk hc0_1
 clear hr0_1 hc0_1
 have HR0_2 := Aside0.mk hr0_2
 have HC0_2 := Aside0.mk hc0_2
 clear hr0_2 hc0_2
 have HR0_3 := Aside0.mk hr0_3
 have HC0_3 := Aside0.mk hc0_3
 clear hr0_3 hc0_3
 have HB := Aside0.mk (Below.refl w.heap.size w)
 have H1 := Aside0.mk h
 clear h
 have c0 : w.cell? ⟨g, 0, none⟩ = some (.int .i64 a0_0) := (blk_cell hg 0).trans rfl
 have c1 : w.cell? ⟨g, 1, none⟩ = some (.slice A0_1 l0_1.length c0_1) := (blk_cell hg 1).trans rfl
 have c2 : w.cell? ⟨g, 2, none⟩ = some (.slice A0_2 l0_2.length c0_2) := (blk_cell hg 2).trans rfl
 have c3 : w.cell? ⟨g, 3, none⟩ = some (.slice A0_3 l0_3.length c0_3) := (blk_cell hg 3).trans rfl
 go_enter Tryz.func66, Tryz.ntmps66
 go_wp2_with ((go_at_call 31; (with_reducible refine (poslist_List_Has.calls k _ _ _ _ _ _ _ _ _ _ a1 t _ ?a1 ?b1 ?a2 ?b2 ?a3 ?b3 H1.out).mono ?_); (case a1 => exact (Kd.C_below HR0_1.out HB.out)); (case b1 => exact HC0_1.out); (case a2 => exact (Kd.C_below HR0_2.out HB.out)); (case b2 => exact HC0_2.out); (case a3 => exact (Kd.C_below HR0_3.out HB.out)); (case b3 => exact HC0_3.out); rintro e w2 ⟨rfl, hb⟩; have n0_ := Aside0.mk (below_step HB.out hb); clear HB; have HB := n0_; clear n0_ hb))
 go_ret
 exact ⟨rfl, HB.out⟩
/-! ### bits_Width: function 117 -/
def bits_Width.l0 : Nat → Int → Int → Int → Option (Int)
 | 0, _, _, _ => none
 | k + 1, x3, x4, x5 => if x5 > 0 then (if 0 ≤ x5 then (if (shr .u64 x3 x5) > 0 then (bits_Width.l0 k (shr .u64 x3 x5) (wrap64 (x4 + x5)) (wrap64 (Int.tdiv x5 2))) else (bits_Width.l0 k x3 x4 (wrap64 (Int.tdiv x5 2)))) else (none)) else (some (wrap64 (x4 + (wrap64 (x3)))))
def bits_Width.f (k : Nat) (a0 : Int) : Option (Int) := bits_Width.l0 k (IntKind.u64.wrap (a0)) 0 32
set_option maxHeartbeats 8000000 in
set_option maxRecDepth 100000 in
theorem bits_Width.calls (k : Nat) (a0 : Int) (r : Int) (w : World) (h : bits_Width.f k a0 = some r) :
  Calls Tryz.prog 117 #[.int .i64 a0] w fun e w' => e = .returned (.int .i64 r) ∧ Drawn0 w w' := by
 have H := h
 clear h
 unfold bits_Width.f at H
 have H' := Aside0.mk H
 clear H
 go_enter Tryz.func117, Tryz.ntmps117
 go_wp2
 go_loopg [3, 4, 5] k (fun kq v3 v4 v5 w' => ∃ (x3_1 : Int) (x4_1 : Int) (x5_1 : Int), v3 = .int .u64 x3_1 ∧ v4 = .int .i64 x4_1 ∧ v5 = .int .i64 x5_1 ∧ Aside0 (bits_Width.l0 kq x3_1 x4_1 x5_1 = some r) ∧ Aside0 (kq ≤ k) ∧ Drawn0 w w')
 case atStart => exact ⟨(IntKind.u64.wrap (a0)), (0), (32), (by rfl), (by rfl), (by rfl), H', ⟨Nat.le_refl _⟩, by repeat (exact Drawn0.refl _)⟩
 case round =>
  clear H'
  obtain ⟨x3_1, x4_1, x5_1, rfl, rfl, rfl, HA, HK1, ⟨m1, rfl⟩⟩ := hrel
  cases gk with
  | zero => exact absurd HA.out (by simp [bits_Width.l0])
  | succ k1 =>
   have H := HA.out
   clear HA
   simp only [bits_Width.l0] at H
   replace H := ifd H
   rcases H with ⟨-, c2b0, H⟩ | ⟨-, c2b0, H⟩
   ·replace H := ifn H
    obtain ⟨c3, -, H⟩ := H
    have c3b0 := eq_true c3
    have c3b1 : decide (0 ≤ x5_1) = true := decide_eq_true c3
    clear c3
    obtain ⟨ji4, hji4⟩ : ∃ j_ : Int, (shr .u64 x3_1 x5_1) = j_ := ⟨_, rfl⟩
    replace H : (if (ji4) > 0 then (bits_Width.l0 k1 ji4 (wrap64 (x4_1 + x5_1)) (wrap64 (Int.tdiv x5_1 2))) else (bits_Width.l0 k1 x3_1 x4_1 (wrap64 (Int.tdiv x5_1 2)))) = some r := by (rw [hji4] at H; exact H)
    have hji4_ : (x3_1 / 2 ^ min x5_1.toNat 64) = ji4 := hji4
    have hji4z : x5_1 ≤ 64 → (x3_1 / 2 ^ x5_1.toNat) = ji4 := shr_small hji4
    replace H := ifd H
    rcases H with ⟨-, c5b0, H⟩ | ⟨-, c5b0, H⟩
    ·have c6b0 := eq_true (of_decide_eq_true (by assumption) : 0 ≤ x5_1)
     have H' := Aside0.mk H
     clear H
     go_wp2
     go_roundg k1
     case measure => have := HK1.out; omega
     case rel => exact ⟨(ji4), (wrap64 (x4_1 + x5_1)), (wrap64 (Int.tdiv x5_1 2)), (by rfl), (by rfl), (by rfl), (by exact H'), ⟨by have := HK1.out; omega⟩, by repeat (first | exact Drawn0.refl _ | apply Drawn0.step)⟩
    ·have H' := Aside0.mk H
     clear H
     go_wp2
     go_roundg k1
     case measure => have := HK1.out; omega
     case rel => exact ⟨(x3_1), (x4_1), (wrap64 (Int.tdiv x5_1 2)), (by rfl), (by rfl), (by rfl), (by exact H'), ⟨by have := HK1.out; omega⟩, by repeat (first | exact Drawn0.refl _ | apply Drawn0.step)⟩
   ·obtain rfl := Option.some.inj H
    go_wp2
    go_ret
    exact ⟨by rfl, by repeat (first | exact Drawn0.refl _ | apply Drawn0.step)⟩
end Go.Proofs.YtdgphlkbmplbpaaGreat.Print
end
section
namespace Go.Proofs.YtdgphlkbmplbpaaGreat.Print
open Go.RowKit Go.Proofs.YtdgphlkbmplbpaaGreatW.PrintWords Go.Proofs.YtdgphlkbmplbpaaGreatW.PrintLast Go.Proofs.YtdgphlkbmplbpaaGreatW.PrintMore
attribute [local go_sem] max2_int min2_int max_two min_two max_three min_three max_four min_four   -- for this text's walks alone
set_option linter.unusedVariables false
set_option linter.unusedSimpArgs false
/-! ### bits_Next: function 91 -/
def bits_Next.f (k : Nat) (a0 : Int) (a1 : Int) : Option (Int) := if (mx a1 0) ≥ 64 then (some (-1)) else (if (shl .u64 (shr .u64 (IntKind.u64.wrap (a0)) (mx a1 0)) (mx a1 0)) = 0 then (some (-1)) else ((bits_Width.f k (wrap64 (Go.bits .and .u64 (shl .u64 (shr .u64 (IntKind.u64.wrap (a0)) (mx a1 0)) (mx a1 0)) (IntKind.u64.wrap (-(shl .u64 (shr .u64 (IntKind.u64.wrap (a0)) (mx a1 0)) (mx a1 0))))))).bind fun t235 => (some (wrap64 (t235 - 1)))))
set_option maxHeartbeats 8000000 in
set_option maxRecDepth 100000 in
theorem bits_Next.calls (k : Nat) (a0 : Int) (a1 : Int) (r : Int) (w : World) (h : bits_Next.f k a0 a1 = some r) :
  Calls Tryz.prog 91 #[.int .i64 a0, .int .i64 a1] w fun e w' => e = .returned (.int .i64 r) ∧ Below w.heap.size w w' := by
 have HB := Aside0.mk (Below.refl w.heap.size w)
 have H := h
 clear h
 unfold bits_Next.f at H
 obtain ⟨ji3, hji3⟩ : ∃ j_ : Int, (mx a1 0) = j_ := ⟨_, rfl⟩
 replace H : (if (ji3) ≥ 64 then (some (-1)) else (if (shl .u64 (shr .u64 (IntKind.u64.wrap (a0)) (ji3)) (ji3)) = 0 then (some (-1)) else ((bits_Width.f k (wrap64 (Go.bits .and .u64 (shl .u64 (shr .u64 (IntKind.u64.wrap (a0)) (ji3)) (ji3)) (IntKind.u64.wrap (-(shl .u64 (shr .u64 (IntKind.u64.wrap (a0)) (ji3)) (ji3))))))).bind fun t235 => (some (wrap64 (t235 - 1)))))) = some r := by (rw [hji3] at H; exact H)
 ((have hji3l : 0 ≤ ji3 := by (rw [← hji3]; unfold mx; (repeat' split) <;> omega)))
 ((have hji3m : 0 ≤ ji3 := by omega))
 have hji3_ : (if a1 < 0 then 0 else a1) = ji3 := hji3
 replace H := ifd H
 rcases H with ⟨-, c4b0, H⟩ | ⟨-, c4b0, H⟩
 ·obtain rfl := Option.some.inj H
  go_enter Tryz.func91, Tryz.ntmps91
  go_wp2
  go_ret
  exact ⟨by rfl, bh HB.out⟩
 ·obtain ⟨ji5, hji5⟩ : ∃ j_ : Int, (shr .u64 (IntKind.u64.wrap (a0)) (ji3)) = j_ := ⟨_, rfl⟩
  replace H : (if (shl .u64 (ji5) (ji3)) = 0 then (some (-1)) else ((bits_Width.f k (wrap64 (Go.bits .and .u64 (shl .u64 (ji5) (ji3)) (IntKind.u64.wrap (-(shl .u64 (ji5) (ji3))))))).bind fun t235 => (some (wrap64 (t235 - 1))))) = some r := by (rw [hji5] at H; exact H)
  have hji5_ : ((IntKind.u64.wrap (a0)) / 2 ^ min (ji3).toNat 64) = ji5 := hji5
  have hji5z : (ji3) ≤ 64 → ((IntKind.u64.wrap (a0)) / 2 ^ (ji3).toNat) = ji5 := shr_small hji5
  obtain ⟨ji6, hji6⟩ : ∃ j_ : Int, (shl .u64 (ji5) (ji3)) = j_ := ⟨_, rfl⟩
  replace H : (if (ji6) = 0 then (some (-1)) else ((bits_Width.f k (wrap64 (Go.bits .and .u64 (ji6) (IntKind.u64.wrap (-(ji6)))))).bind fun t235 => (some (wrap64 (t235 - 1))))) = some r := by (rw [hji6] at H; exact H)
  have hji6_ : (IntKind.u64.wrap ((ji5) * 2 ^ min (ji3).toNat 64)) = ji6 := hji6
  have hji6z : (ji3) ≤ 64 → (IntKind.u64.wrap ((ji5) * 2 ^ (ji3).toNat)) = ji6 := shl_small hji6
  replace H := ife H
  rcases H with ⟨-, c7b0, c7b1, H⟩ | ⟨c7, c7b0, c7b1, H⟩
  ·obtain rfl := Option.some.inj H
   go_enter Tryz.func91, Tryz.ntmps91
   go_wp2
   go_ret
   exact ⟨by rfl, bh HB.out⟩
  ·replace H := bd H
   obtain ⟨t235, A8, H⟩ := H
   obtain rfl := Option.some.inj H
   go_enter Tryz.func91, Tryz.ntmps91
   go_wp2_with (((with_reducible refine gate_callee (f := 117) rfl ?_); refine gL 23 Tryz.func117 #[.int .i64 (wrap64 (Go.bits .and .u64 (ji6) (IntKind.u64.wrap (-(ji6)))))] ?_; (with_reducible refine (bits_Width.calls k (wrap64 (Go.bits .and .u64 (ji6) (IntKind.u64.wrap (-(ji6))))) t235 _ A8.out).mono ?_); rintro e w' ⟨rfl, ⟨nd, rfl⟩⟩; refine ⟨_, rfl, ?_⟩))
   go_ret
   exact ⟨by rfl, bh HB.out⟩
/-! ### poslist_List_Places_1: function 90 -/
mutual
def poslist_List_Places_1.l0 : Nat → List Int → Int → Int → Option (List (Int))
 | 0, _, _, _ => none
 | k + 1, x18, x19, x20 => if x20 < x19 then (if 0 ≤ x20 then (if x20 < (x18.length : Int) then ((bits_Next.f k (rd x18 x20) 0).bind fun t238 => (poslist_List_Places_1.l1 k x20 (rd x18 x20) t238 x18 x19 x20)) else (none)) else (none)) else (some [])
def poslist_List_Places_1.l1 : Nat → Int → Int → Int → List Int → Int → Int → Option (List (Int))
 | 0, _, _, _, _, _, _ => none
 | k + 1, x14, x15, x16, x18, x19, x20 => if x16 ≥ 0 then (((bits_Next.f k x15 (wrap64 (x16 + 1))).bind fun t239 => (poslist_List_Places_1.l1 k x14 x15 t239 x18 x19 x20)).bind fun lr_ => (some ((wrap64 ((wrap64 (64 * x14)) + x16)) :: lr_))) else (poslist_List_Places_1.l0 k x18 x19 (wrap64 (x20 + 1)))
end
def poslist_List_Places_1.f (k : Nat) (a0_0 : Int) (l0_1 : List (S70)) (l0_2 : List Int) (l0_3 : List Int) : Option (List (Int)) := poslist_List_Places_1.l0 k l0_2 (l0_2.length : Int) 0
set_option maxHeartbeats 8000000 in
set_option maxRecDepth 100000 in
theorem poslist_List_Places_1.iter (k : Nat) (a0_0 : Int) (A0_1 : Option Addr) (c0_1 : Nat) (l0_1 : List (S70)) (A0_2 : Option Addr) (c0_2 : Nat) (l0_2 : List Int) (A0_3 : Option Addr) (c0_3 : Nat) (l0_3 : List Int) (xs : List (Int)) (w W0 : World) (gb236 : Nat) (hr0_1 : Kd.C k70 w A0_1 l0_1.length l0_1) (hc0_1 : l0_1.length ≤ c0_1) (hr0_2 : Kd.C (Kd.int .i64) w A0_2 l0_2.length l0_2) (hc0_2 : l0_2.length ≤ c0_2) (hr0_3 : Kd.C (Kd.int .i64) w A0_3 l0_3.length l0_3) (hc0_3 : l0_3.length ≤ c0_3) (hB0 : Below w.heap.size w W0) (hg0 : W0.heap[gb236]? = some (.cells #[.int .i64 a0_0, .slice A0_1 l0_1.length c0_1, .slice A0_2 l0_2.length c0_2, .slice A0_3 l0_3.length c0_3] 29 (0, 0))) (he0 : w.heap.size ≤ gb236)  (h : poslist_List_Places_1.f k a0_0 l0_1 l0_2 l0_3 = some xs) :
  XR.Iter Tryz.prog (fun x : Int => #[.int .i64 x]) w (fun k_ => k_ = gb236) 90 #[.pointer (some ⟨gb236, 0, none⟩)] xs W0 := by
 intro n_ l_ J_ Jx_ W_ hWs_ hWf_ hJs_ hJxs_ hJB_ hY_ h0_
 refine callsIn_wide.2 ?_
 have hu29 := Tryz.underlying29
 have HR0_1 := Aside0.mk hr0_1
 have HC0_1 := Aside0.mk hc0_1
 clear hr0_1 hc0_1
 have HR0_2 := Aside0.mk hr0_2
 have HC0_2 := Aside0.mk hc0_2
 clear hr0_2 hc0_2
 have HR0_3 := Aside0.mk hr0_3
 have HC0_3 := Aside0.mk hc0_3
 clear hr0_3 hc0_3
 have H : (poslist_List_Places_1.l0 k l0_2 (l0_2.length : Int) 0) = some xs := h
 clear h
 have H' := Aside0.mk H
 clear H
 have BK236 := Aside0.mk ((hWf_ _ (Array.getElem?_eq_some_iff.1 hg0).1 rfl).trans hg0)
 have GE236 := Aside0.mk he0
 have GW236 := Aside0.mk he0
 have HB := Aside0.mk (XR.b2_refl (hJB_ _ _ _ h0_))
 obtain ⟨G_, HJ_⟩ : ∃ G', Aside0 (J_ G' [] W_) := ⟨_, ⟨h0_⟩⟩
 have HX_ := Aside0.mk (show xs = [] ++ xs from rfl)
 go_enter Tryz.func90, Tryz.ntmps90
 obtain ⟨hcz3_0, hcz3_1, hcz3_2, hcz3_3, hfz3_0, hfz3_1, hfz3_2, hfz3_3⟩ := b4 BK236
 go_wp2
 go_loopg [9] k (fun kq v20 w' => ∃ (G_ : Nat → Prop) (pre_ r : List (Int)) (x20_1 : Int), v20 = .int .i64 x20_1 ∧ Aside0 (poslist_List_Places_1.l0 kq l0_2 (l0_2.length : Int) x20_1 = some r) ∧ Aside0 (xs = pre_ ++ r) ∧ Aside0 (J_ G_ pre_ w') ∧ Aside0 (kq ≤ k) ∧ Aside0 (w'.heap[gb236]? = some (.cells #[.int .i64 a0_0, (.slice A0_1 l0_1.length c0_1), (.slice A0_2 l0_2.length c0_2), (.slice A0_3 l0_3.length c0_3)] 29 (0, 0))) ∧ Aside0 (Below w.heap.size w w'))
 case atStart => exact ⟨XR.grow G_ W_ _, [], xs, (0), (by rfl), H', ⟨HX_.out⟩, ⟨hJs_ _ _ _ _ HJ_.out (XR.B2.two (w := w) (by repeat ((with_reducible exact HB.out))))⟩, ⟨Nat.le_refl _⟩, ⟨bx BK236.out⟩, ⟨XR.B2.one (w1 := W_) (by repeat ((with_reducible exact HB.out)))⟩⟩
 case round =>
  clear H' hcz3_0 hcz3_1 hcz3_2 hcz3_3 hfz3_0 hfz3_1 hfz3_2 hfz3_3
  obtain ⟨G_, pre_, r, x20_1, rfl, HA, HX_, HJ_, HK1, BK236, HB⟩ := hrel
  have HB := Aside0.mk (XR.b2_refl HB.out)
  cases gk with
  | zero => exact absurd HA.out (by simp [poslist_List_Places_1.l0])
  | succ k1 =>
   have H := HA.out
   clear HA
   simp only [poslist_List_Places_1.l0] at H
   replace H := ifd H
   rcases H with ⟨-, c4b0, H⟩ | ⟨-, c4b0, H⟩
   ·replace H := ifn H
    obtain ⟨-, c5b0, H⟩ := H
    replace H := ifn H
    obtain ⟨-, c6b0, H⟩ := H
    replace H := bd H
    obtain ⟨t238, A7, H⟩ := H
    have H' := Aside0.mk H
    clear H
    have p237 : 0 ≤ (x20_1 : Int) := ad
    have q237 : x20_1 < (l0_2.length : Int) := ad
    obtain ⟨ad237, e237, hx237_0⟩ := Kd.at_int HR0_2.out x20_1 p237 q237
    cases e237
    replace hx237_0 := cb HB.out.cell hx237_0
    replace p237 := eq_true p237
    replace q237 := eq_true q237
    go_wp2_with (((with_reducible refine gate_callee (f := 91) rfl ?_); refine gL 15 Tryz.func91 #[.int .i64 (rd l0_2 x20_1), .int .i64 0] ?_; (with_reducible refine (bits_Next.calls k1 (rd l0_2 x20_1) 0 t238 _ A7.out).mono ?_); rintro e w8 ⟨rfl, hb⟩; refine ⟨_, rfl, ?_⟩; replace BK236 := bba BK236 hb; replace HB := Aside0.mk (XR.b2_step (by repeat ((with_reducible exact HB.out))) hb); clear hb))
    go_loopg [5] k1 (fun kq v16 w' => ∃ (G_ : Nat → Prop) (pre_ r : List (Int)) (x16_2 : Int), v16 = .int .i64 x16_2 ∧ Aside0 (poslist_List_Places_1.l1 kq x20_1 (rd l0_2 x20_1) x16_2 l0_2 (l0_2.length : Int) x20_1 = some r) ∧ Aside0 (xs = pre_ ++ r) ∧ Aside0 (J_ G_ pre_ w') ∧ Aside0 (kq ≤ k1) ∧ Aside0 (w'.heap[gb236]? = some (.cells #[.int .i64 a0_0, (.slice A0_1 l0_1.length c0_1), (.slice (some ad237) l0_2.length c0_2), (.slice A0_3 l0_3.length c0_3)] 29 (0, 0))) ∧ Aside0 (Below w.heap.size w w'))
    case atStart => exact ⟨XR.grow G_ wr _, pre_, r, (t238), (by rfl), H', ⟨HX_.out⟩, ⟨hJs_ _ _ _ _ HJ_.out (XR.B2.two (w := w) (by repeat ((with_reducible exact HB.out))))⟩, ⟨Nat.le_refl _⟩, ⟨bx BK236.out⟩, ⟨XR.B2.one (w1 := wr) (by repeat ((with_reducible exact HB.out)))⟩⟩
    case round =>
     clear H' c4b0 c5b0 c6b0 hx237_0 p237 q237
     obtain ⟨G_, pre_, r, x16_2, rfl, HA, HX_, HJ_, HK2, BK236, HB⟩ := hrel
     have HB := Aside0.mk (XR.b2_refl HB.out)
     cases gk with
     | zero => exact absurd HA.out (by simp [poslist_List_Places_1.l1])
     | succ k2 =>
      have H := HA.out
      clear HA
      simp only [poslist_List_Places_1.l1] at H
      replace H := ifd H
      rcases H with ⟨-, c9b0, H⟩ | ⟨-, c9b0, H⟩
      ·replace H := Option.bind_eq_some_iff.mp H
       obtain ⟨r2_, H, hr2_⟩ := H
       replace hr2_ : (wrap64 ((wrap64 (64 * x20_1)) + x16_2)) :: r2_ = r := Option.some.inj hr2_
       have HR2_ := Aside0.mk hr2_
       clear hr2_
       replace H := bd H
       obtain ⟨t239, A11, H⟩ := H
       have H' := Aside0.mk H
       clear H
       go_upto_region 6 with (go_in)
       refine (wpIn_wide (n := n_)).1 ?_
       obtain ⟨fn_, tm_, as_, bd_, hy_, hR_⟩ := hY_ pre_ (wrap64 ((wrap64 (64 * x20_1)) + x16_2)) r2_ _ _ (by rw [HX_.out, ← HR2_.out]) (hJs_ _ _ _ _ HJ_.out (XR.B2.two (w := w) HB.out))
       gi_wp2
       refine ⟨fun hd_ => (by cases hd_), hR_.mono ?_⟩
       rintro e_ w12 (⟨rfl, hJ3_, hsz_, hkp_⟩ | ⟨rfl, hx3_⟩)
       rotate_left
       ·gi_wp2
        go_wp2
        refine bodyPost_ret (results_none rfl _ _ _) rfl ?_
        exact ⟨⟨_, rfl⟩, .inr ⟨pre_ ++ [(wrap64 ((wrap64 (64 * x20_1)) + x16_2))], ⟨r2_, by rw [HX_.out, ← HR2_.out]; simp⟩, hx3_⟩⟩
       have lt236_ := blk_lt BK236.out
       replace BK236 := Aside0.mk ((hkp_ _ lt236_ (.inl rfl)).trans BK236.out)
       replace HB := Aside0.mk (XR.b2_refl (hJB_ _ _ _ hJ3_))
       obtain ⟨G_, HJ_⟩ : ∃ G', Aside0 (J_ G' (pre_ ++ [(wrap64 ((wrap64 (64 * x20_1)) + x16_2))]) w12) := ⟨_, ⟨hJ3_⟩⟩
       have HX_ := Aside0.mk (show xs = (pre_ ++ [(wrap64 ((wrap64 (64 * x20_1)) + x16_2))]) ++ r2_ by rw [HX_.out, ← HR2_.out]; simp)
       clear hJ3_ hkp_
       gi_wp2
       go_wp2_with (((with_reducible refine gate_callee (f := 91) rfl ?_); refine gL 21 Tryz.func91 #[.int .i64 (rd l0_2 x20_1), .int .i64 (wrap64 (x16_2 + 1))] ?_; (with_reducible refine (bits_Next.calls k2 (rd l0_2 x20_1) (wrap64 (x16_2 + 1)) t239 _ A11.out).mono ?_); rintro e w13 ⟨rfl, hb⟩; refine ⟨_, rfl, ?_⟩; replace BK236 := bba BK236 hb; replace HB := Aside0.mk (XR.b2_step (by repeat ((with_reducible exact HB.out))) hb); clear hb))
       go_roundg k2
       case measure => have := HK1.out; have := HK2.out; omega
       case rel => exact ⟨XR.grow G_ w12 _, (pre_ ++ [(wrap64 ((wrap64 (64 * x20_1)) + x16_2))]), r2_, (t239), (by rfl), H', ⟨HX_.out⟩, ⟨hJs_ _ _ _ _ HJ_.out (XR.B2.two (w := w) (by repeat ((with_reducible exact HB.out))))⟩, ⟨by have := HK1.out; have := HK2.out; omega⟩, ⟨bx BK236.out⟩, ⟨XR.B2.one (w1 := w12) (by repeat ((with_reducible exact HB.out)))⟩⟩
      ·have H' := Aside0.mk H
       clear H
       go_wp2
       go_roundg k2
       case measure => have := HK1.out; have := HK2.out; omega
       case rel => exact ⟨XR.grow G_ wr _, pre_, r, (wrap64 (x20_1 + 1)), (by rfl), H', ⟨HX_.out⟩, ⟨hJs_ _ _ _ _ HJ_.out (XR.B2.two (w := w) (by repeat ((with_reducible exact HB.out))))⟩, ⟨by have := HK1.out; have := HK2.out; omega⟩, ⟨bx BK236.out⟩, ⟨XR.B2.one (w1 := wr) (by repeat ((with_reducible exact HB.out)))⟩⟩
   ·obtain rfl : [] = r := Option.some.inj H
    go_wp2
    go_end0
    exact ⟨⟨_, rfl⟩, .inl ⟨_, by have hx_ := HX_.out; rw [List.append_nil] at hx_; rw [hx_]; exact hJs_ _ _ _ _ HJ_.out (XR.B2.two (w := w) (by repeat ((with_reducible exact HB.out))))⟩⟩
/-! ### slices_Values_int_int_1: function 119 -/
def slices_Values_int_int_1.l0 : Nat → List Int → Int → Int → Option (List (Int))
 | 0, _, _, _ => none
 | k + 1, x16, x17, x18 => if x18 < x17 then (if 0 ≤ x18 then (if x18 < (x16.length : Int) then ((slices_Values_int_int_1.l0 k x16 x17 (wrap64 (x18 + 1))).bind fun lr_ => (some ((rd x16 x18) :: lr_))) else (none)) else (none)) else (some [])
def slices_Values_int_int_1.f (k : Nat) (l0 : List Int) : Option (List (Int)) := slices_Values_int_int_1.l0 k l0 (l0.length : Int) 0
theorem slices_Values_int_int_1.l0_succ (k) (a0) (a1) (a2) : type_of% (@slices_Values_int_int_1.l0.eq_2 a0 a1 a2 k) := slices_Values_int_int_1.l0.eq_2 a0 a1 a2 k
set_option maxHeartbeats 8000000 in
set_option maxRecDepth 100000 in
theorem slices_Values_int_int_1.iter (k : Nat) (A0 : Option Addr) (c0 : Nat) (l0 : List Int) (xs : List (Int)) (w W0 : World) (gb240 : Nat) (hr0 : Kd.C (Kd.int .i64) w A0 l0.length l0) (hc0 : l0.length ≤ c0) (hB0 : Below w.heap.size w W0) (hg0 : W0.heap[gb240]? = some (.cells #[.slice A0 l0.length c0] 27 (0, 0))) (he0 : w.heap.size ≤ gb240)  (h : slices_Values_int_int_1.f k l0 = some xs) :
  XR.Iter Tryz.prog (fun x : Int => #[.int .i64 x]) w (fun k_ => k_ = gb240) 119 #[.pointer (some ⟨gb240, 0, none⟩)] xs W0 := by
 intro n_ l_ J_ Jx_ W_ hWs_ hWf_ hJs_ hJxs_ hJB_ hY_ h0_
 refine callsIn_wide.2 ?_
 have HR0 := Aside0.mk hr0
 have HC0 := Aside0.mk hc0
 clear hr0 hc0
 have H : (slices_Values_int_int_1.l0 k l0 (l0.length : Int) 0) = some xs := h
 clear h
 have H' := Aside0.mk H
 clear H
 have BK240 := Aside0.mk ((hWf_ _ (Array.getElem?_eq_some_iff.1 hg0).1 rfl).trans hg0)
 have GE240 := Aside0.mk he0
 have GW240 := Aside0.mk he0
 have HB := Aside0.mk (XR.b2_refl (hJB_ _ _ _ h0_))
 obtain ⟨G_, HJ_⟩ : ∃ G', Aside0 (J_ G' [] W_) := ⟨_, ⟨h0_⟩⟩
 have HX_ := Aside0.mk (show xs = [] ++ xs from rfl)
 go_enter Tryz.func119, Tryz.ntmps119
 obtain ⟨hcz3_0, hfz3_0⟩ := b1 BK240
 go_wp2
 go_loopg [7] k (fun kq v18 w' => ∃ (G_ : Nat → Prop) (pre_ r : List (Int)) (x18_1 : Int), v18 = .int .i64 x18_1 ∧ Aside0 (slices_Values_int_int_1.l0 kq l0 (l0.length : Int) x18_1 = some r) ∧ Aside0 (xs = pre_ ++ r) ∧ Aside0 (J_ G_ pre_ w') ∧ Aside0 (kq ≤ k) ∧ Aside0 (w'.heap[gb240]? = some (.cells #[(.slice A0 l0.length c0)] 27 (0, 0))) ∧ Aside0 (Below w.heap.size w w'))
 case atStart => exact ⟨XR.grow G_ W_ _, [], xs, (0), (by rfl), H', ⟨HX_.out⟩, ⟨hJs_ _ _ _ _ HJ_.out (XR.B2.two (w := w) (by repeat ((with_reducible exact HB.out))))⟩, ⟨Nat.le_refl _⟩, ⟨bx BK240.out⟩, ⟨XR.B2.one (w1 := W_) (by repeat ((with_reducible exact HB.out)))⟩⟩
 case round =>
  clear H' hcz3_0 hfz3_0
  obtain ⟨G_, pre_, r, x18_1, rfl, HA, HX_, HJ_, HK1, BK240, HB⟩ := hrel
  have HB := Aside0.mk (XR.b2_refl HB.out)
  cases gk with
  | zero => exact absurd HA.out (by simp [slices_Values_int_int_1.l0])
  | succ k1 =>
   have H := HA.out
   clear HA
   simp only [slices_Values_int_int_1.l0] at H
   replace H := ifd H
   rcases H with ⟨-, c4b0, H⟩ | ⟨-, c4b0, H⟩
   ·replace H := ifn H
    obtain ⟨-, c5b0, H⟩ := H
    replace H := ifn H
    obtain ⟨-, c6b0, H⟩ := H
    replace H := Option.bind_eq_some_iff.mp H
    obtain ⟨r2_, H, hr2_⟩ := H
    replace hr2_ : (rd l0 x18_1) :: r2_ = r := Option.some.inj hr2_
    have HR2_ := Aside0.mk hr2_
    clear hr2_
    have H' := Aside0.mk H
    clear H
    have p241 : 0 ≤ (x18_1 : Int) := ad
    have q241 : x18_1 < (l0.length : Int) := ad
    obtain ⟨ad241, e241, hx241_0⟩ := Kd.at_int HR0.out x18_1 p241 q241
    cases e241
    replace hx241_0 := cb HB.out.cell hx241_0
    replace p241 := eq_true p241
    replace q241 := eq_true q241
    go_upto_region 3 with (go_in)
    refine (wpIn_wide (n := n_)).1 ?_
    obtain ⟨fn_, tm_, as_, bd_, hy_, hR_⟩ := hY_ pre_ (rd l0 x18_1) r2_ _ _ (by rw [HX_.out, ← HR2_.out]) (hJs_ _ _ _ _ HJ_.out (XR.B2.two (w := w) HB.out))
    gi_wp2
    refine ⟨fun hd_ => (by cases hd_), hR_.mono ?_⟩
    rintro e_ w8 (⟨rfl, hJ3_, hsz_, hkp_⟩ | ⟨rfl, hx3_⟩)
    rotate_left
    ·gi_wp2
     go_wp2
     refine bodyPost_ret (results_none rfl _ _ _) rfl ?_
     exact ⟨⟨_, rfl⟩, .inr ⟨pre_ ++ [(rd l0 x18_1)], ⟨r2_, by rw [HX_.out, ← HR2_.out]; simp⟩, hx3_⟩⟩
    have lt240_ := blk_lt BK240.out
    replace BK240 := Aside0.mk ((hkp_ _ lt240_ (.inl rfl)).trans BK240.out)
    replace HB := Aside0.mk (XR.b2_refl (hJB_ _ _ _ hJ3_))
    obtain ⟨G_, HJ_⟩ : ∃ G', Aside0 (J_ G' (pre_ ++ [(rd l0 x18_1)]) w8) := ⟨_, ⟨hJ3_⟩⟩
    have HX_ := Aside0.mk (show xs = (pre_ ++ [(rd l0 x18_1)]) ++ r2_ by rw [HX_.out, ← HR2_.out]; simp)
    clear hJ3_ hkp_
    gi_wp2
    go_wp2_with (go_in)
    go_roundg k1
    case measure => have := HK1.out; omega
    case rel => exact ⟨XR.grow G_ w8 _, (pre_ ++ [(rd l0 x18_1)]), r2_, (wrap64 (x18_1 + 1)), (by rfl), H', ⟨HX_.out⟩, ⟨hJs_ _ _ _ _ HJ_.out (XR.B2.two (w := w) (by repeat ((with_reducible exact HB.out))))⟩, ⟨by have := HK1.out; omega⟩, ⟨bx BK240.out⟩, ⟨XR.B2.one (w1 := w8) (by repeat ((with_reducible exact HB.out)))⟩⟩
   ·obtain rfl : [] = r := Option.some.inj H
    go_wp2
    go_end0
    exact ⟨⟨_, rfl⟩, .inl ⟨_, by have hx_ := HX_.out; rw [List.append_nil] at hx_; rw [hx_]; exact hJs_ _ _ _ _ HJ_.out (XR.B2.two (w := w) (by repeat ((with_reducible exact HB.out))))⟩⟩
/-! ### slices_Values_int_int: function 92 (a contract of the session's own) -/
set_option maxHeartbeats 8000000 in
set_option maxRecDepth 100000 in
theorem slices_Values_int_int.calls (k : Nat) (A0 : Option Addr) (c0 : Nat) (l0 : List Int) (xs : List Int) (w0 w : World) (hb0 : Below w0.heap.size w0 w) (hr0 : Kd.C (Kd.int .i64) w0 A0 l0.length l0) (hc0 : l0.length ≤ c0) (h : slices_Values_int_int_1.f k l0 = some xs) :
    Calls Tryz.prog 92 #[.slice A0 l0.length c0] w fun e w' => ∃ gb : Nat, e = .returned (.func (.func 119) #[] #[.pointer (some ⟨gb, 0, none⟩)]) ∧ w.heap.size ≤ gb ∧ gb < w'.heap.size ∧ XR.Iter Tryz.prog (fun x : Int => #[.int .i64 x]) w0 (fun k_ => k_ = gb) 119 #[.pointer (some ⟨gb, 0, none⟩)] xs w' ∧ Below w.heap.size w w' := by
 have hmf : ∀ (fn : Fn) (first cap : Array Value) (w : World), (Instr.makeFunc fn first cap).run Tryz.prog w = .ok (.func fn first cap) w := fun _ _ _ _ => rfl
 have HB := Aside0.mk (Below.refl w.heap.size w)
 have H0 := Aside0.mk (And.intro hb0 (And.intro hr0 (And.intro hc0 h)))
 clear hb0 hr0 hc0 h
 go_enter Tryz.func92, Tryz.ntmps92
 go_wp2_with (((with_reducible refine gate_dst (N := 1) rfl ?_); refine box_event ?hg (N := 1) ?hd (cs := #[.slice A0 l0.length c0]) (t := 27) ?hr ?_; (case hd => rfl); (case hg => rfl); (case hr => (go_simp; done)); intro g1 hg w2 hbox hb; have n0_ := Aside0.mk (below_step HB.out hb); have n1_ := Aside0.mk (hbox); have n2_ := Aside0.mk ((by rw [hg]; exact below_size HB.out : w.heap.size ≤ g1)); clear HB; have HB := n0_; have BK1 := n1_; have GE1 := n2_; clear n0_ n1_ n2_ hb hbox hg))
 go_ret
 obtain ⟨hb0, hr0, hc0, h⟩ := H0.out
 exact ⟨_, rfl, GE1.out, blk_lt BK1.out, slices_Values_int_int_1.iter k A0 c0 l0 xs w0 _ g1 hr0 hc0 (below_step hb0 HB.out) BK1.out (by have := hb0.size; have := GE1.out; omega) h, HB.out⟩
/-! ### poslist_List_Places_2: function 93 -/
mutual
def poslist_List_Places_2.l0 : Nat → List (S70) → Int → Int → Option (List (Int))
 | 0, _, _, _ => none
 | k + 1, x18, x19, x20 => if x20 < x19 then (if 0 ≤ x20 then (if x20 < (x18.length : Int) then (poslist_List_Places_2.l1 k ((rd_T70 x18 x20).f0) x18 x19 x20 ((rd_T70 x18 x20).f0) ((rd_T70 x18 x20).f1)) else (none)) else (none)) else (some [])
def poslist_List_Places_2.l1 : Nat → Int → List (S70) → Int → Int → Int → Int → Option (List (Int))
 | 0, _, _, _, _, _, _ => none
 | k + 1, x16, x18, x19, x20, x245000, x245001 => if x16 < x245001 then ((poslist_List_Places_2.l1 k (wrap64 (x16 + 1)) x18 x19 x20 x245000 x245001).bind fun lr_ => (some (x16 :: lr_))) else (poslist_List_Places_2.l0 k x18 x19 (wrap64 (x20 + 1)))
end
def poslist_List_Places_2.f (k : Nat) (a0_0 : Int) (l0_1 : List (S70)) (l0_2 : List Int) (l0_3 : List Int) : Option (List (Int)) := poslist_List_Places_2.l0 k l0_1 (l0_1.length : Int) 0
set_option maxHeartbeats 8000000 in
set_option maxRecDepth 100000 in
theorem poslist_List_Places_2.iter (k : Nat) (a0_0 : Int) (A0_1 : Option Addr) (c0_1 : Nat) (l0_1 : List (S70)) (A0_2 : Option Addr) (c0_2 : Nat) (l0_2 : List Int) (A0_3 : Option Addr) (c0_3 : Nat) (l0_3 : List Int) (xs : List (Int)) (w W0 : World) (gb242 : Nat) (hr0_1 : Kd.C k70 w A0_1 l0_1.length l0_1) (hc0_1 : l0_1.length ≤ c0_1) (hr0_2 : Kd.C (Kd.int .i64) w A0_2 l0_2.length l0_2) (hc0_2 : l0_2.length ≤ c0_2) (hr0_3 : Kd.C (Kd.int .i64) w A0_3 l0_3.length l0_3) (hc0_3 : l0_3.length ≤ c0_3) (hB0 : Below w.heap.size w W0) (hg0 : W0.heap[gb242]? = some (.cells #[.int .i64 a0_0, .slice A0_1 l0_1.length c0_1, .slice A0_2 l0_2.length c0_2, .slice A0_3 l0_3.length c0_3] 29 (0, 0))) (he0 : w.heap.size ≤ gb242)  (h : poslist_List_Places_2.f k a0_0 l0_1 l0_2 l0_3 = some xs) :
  XR.Iter Tryz.prog (fun x : Int => #[.int .i64 x]) w (fun k_ => k_ = gb242) 93 #[.pointer (some ⟨gb242, 0, none⟩)] xs W0 := by
 intro n_ l_ J_ Jx_ W_ hWs_ hWf_ hJs_ hJxs_ hJB_ hY_ h0_
 refine callsIn_wide.2 ?_
 have hu29 := Tryz.underlying29
 have hu70 := Tryz.underlying70
 have HR0_1 := Aside0.mk hr0_1
 have HC0_1 := Aside0.mk hc0_1
 clear hr0_1 hc0_1
 have HR0_2 := Aside0.mk hr0_2
 have HC0_2 := Aside0.mk hc0_2
 clear hr0_2 hc0_2
 have HR0_3 := Aside0.mk hr0_3
 have HC0_3 := Aside0.mk hc0_3
 clear hr0_3 hc0_3
 have H : (poslist_List_Places_2.l0 k l0_1 (l0_1.length : Int) 0) = some xs := h
 clear h
 have H' := Aside0.mk H
 clear H
 have BK242 := Aside0.mk ((hWf_ _ (Array.getElem?_eq_some_iff.1 hg0).1 rfl).trans hg0)
 have GE242 := Aside0.mk he0
 have GW242 := Aside0.mk he0
 have HB := Aside0.mk (XR.b2_refl (hJB_ _ _ _ h0_))
 obtain ⟨G_, HJ_⟩ : ∃ G', Aside0 (J_ G' [] W_) := ⟨_, ⟨h0_⟩⟩
 have HX_ := Aside0.mk (show xs = [] ++ xs from rfl)
 go_enter Tryz.func93, Tryz.ntmps93
 obtain ⟨hcz3_0, hcz3_1, hcz3_2, hcz3_3, hfz3_0, hfz3_1, hfz3_2, hfz3_3⟩ := b4 BK242
 go_wp2
 go_loopg [9] k (fun kq v20 w' => ∃ (G_ : Nat → Prop) (pre_ r : List (Int)) (x20_1 : Int), v20 = .int .i64 x20_1 ∧ Aside0 (poslist_List_Places_2.l0 kq l0_1 (l0_1.length : Int) x20_1 = some r) ∧ Aside0 (xs = pre_ ++ r) ∧ Aside0 (J_ G_ pre_ w') ∧ Aside0 (kq ≤ k) ∧ Aside0 (w'.heap[gb242]? = some (.cells #[.int .i64 a0_0, (.slice A0_1 l0_1.length c0_1), (.slice A0_2 l0_2.length c0_2), (.slice A0_3 l0_3.length c0_3)] 29 (0, 0))) ∧ Aside0 (Below w.heap.size w w'))
 case atStart => exact ⟨XR.grow G_ W_ _, [], xs, (0), (by rfl), H', ⟨HX_.out⟩, ⟨hJs_ _ _ _ _ HJ_.out (XR.B2.two (w := w) (by repeat ((with_reducible exact HB.out))))⟩, ⟨Nat.le_refl _⟩, ⟨bx BK242.out⟩, ⟨XR.B2.one (w1 := W_) (by repeat ((with_reducible exact HB.out)))⟩⟩
 case round =>
  clear H' hcz3_0 hcz3_1 hcz3_2 hcz3_3 hfz3_0 hfz3_1 hfz3_2 hfz3_3
  obtain ⟨G_, pre_, r, x20_1, rfl, HA, HX_, HJ_, HK1, BK242, HB⟩ := hrel
  have HB := Aside0.mk (XR.b2_refl HB.out)
  cases gk with
  | zero => exact absurd HA.out (by simp [poslist_List_Places_2.l0])
  | succ k1 =>
   have H := HA.out
   clear HA
   simp only [poslist_List_Places_2.l0] at H
   replace H := ifd H
   rcases H with ⟨-, c4b0, H⟩ | ⟨-, c4b0, H⟩
   ·replace H := ifn H
    obtain ⟨-, c5b0, H⟩ := H
    replace H := ifn H
    obtain ⟨-, c6b0, H⟩ := H
    have H' := Aside0.mk H
    clear H
    have p243 : 0 ≤ (x20_1 : Int) := ad
    have q243 : x20_1 < (l0_1.length : Int) := ad
    obtain ⟨ad243, e243, hx243_0, hx243_1⟩ := at_T70 HR0_1.out x20_1 p243 q243
    cases e243
    replace hx243_0 := cb HB.out.cell hx243_0
    replace hx243_1 := cb HB.out.cell hx243_1
    replace p243 := eq_true p243
    replace q243 := eq_true q243
    go_wp2_with (((with_reducible refine gate_dst (N := 4) rfl ?_); refine box_event ?hg (N := 4) ?hd (cs := #[.int .i64 0, .int .i64 0]) (t := 70) ?hr ?_; (case hd => rfl); (case hg => rfl); (case hr => (go_simp; done)); intro gb244 hg w7 hbox hb; have BK244 := Aside0.mk (hbox); have GW244 := Aside0.mk ((by rw [hg]; exact (XR.b2_size (by repeat ((with_reducible exact HB.out)))) : w.heap.size ≤ gb244 ∧ wr.heap.size ≤ gb244)); have GE244 := Aside0.mk ((by rw [hg]; exact (XR.b2_size (by repeat ((with_reducible exact HB.out)))) : w.heap.size ≤ gb244 ∧ wr.heap.size ≤ gb244)); replace HB := Aside0.mk (XR.b2_step (by repeat ((with_reducible exact HB.out))) hb); obtain ⟨NB242_244, NB244_242⟩ := bnm BK242 hg; replace BK242 := bba BK242 hb; clear hb hbox hg; have hnb8 := NB244_242.out; have hnc8 := NB242_244.out; obtain ⟨hcz9_0, hcz9_1, hfz9_0, hfz9_1⟩ := b2 BK244))
    go_loopg [5] k1 (fun kq v16 w' => ∃ (G_ : Nat → Prop) (pre_ r : List (Int)) (x16_2 : Int), v16 = .int .i64 x16_2 ∧ Aside0 (poslist_List_Places_2.l1 kq x16_2 l0_1 (l0_1.length : Int) x20_1 ((rd_T70 l0_1 x20_1).f0) ((rd_T70 l0_1 x20_1).f1) = some r) ∧ Aside0 (xs = pre_ ++ r) ∧ Aside0 (J_ G_ pre_ w') ∧ Aside0 (kq ≤ k1) ∧ Aside0 (w'.heap[gb242]? = some (.cells #[.int .i64 a0_0, (.slice (some ad243) l0_1.length c0_1), (.slice A0_2 l0_2.length c0_2), (.slice A0_3 l0_3.length c0_3)] 29 (0, 0))) ∧ Aside0 (w'.heap[gb244]? = some (.cells #[.int .i64 ((rd_T70 l0_1 x20_1).f0), .int .i64 ((rd_T70 l0_1 x20_1).f1)] 70 (0, 0))) ∧ Aside0 (G_ gb244) ∧ Aside0 (Below w.heap.size w w'))
    case atStart => exact ⟨XR.grow G_ wr _, pre_, r, ((rd_T70 l0_1 x20_1).f0), (by rfl), H', ⟨HX_.out⟩, ⟨hJs_ _ _ _ _ HJ_.out (XR.B2.two (w := w) (by repeat ((with_reducible first | exact HB.out | refine XR.b2_set ?_ GE244.out))))⟩, ⟨Nat.le_refl _⟩, ⟨bx BK242.out⟩, ⟨by refine blk_put (cs := #[.int .i64 ((rd_T70 l0_1 x20_1).f0), .int .i64 0]) ?_ 1 _ rfl; refine blk_put (cs := #[.int .i64 0, .int .i64 0]) ?_ 0 _ rfl; exact BK244.out⟩, ⟨.inr ⟨GE244.out.2, blk_lt (g := gb244) (o := .cells #[.int .i64 ((rd_T70 l0_1 x20_1).f0), .int .i64 ((rd_T70 l0_1 x20_1).f1)] 70 (0, 0)) (by refine blk_put (cs := #[.int .i64 ((rd_T70 l0_1 x20_1).f0), .int .i64 0]) ?_ 1 _ rfl; refine blk_put (cs := #[.int .i64 0, .int .i64 0]) ?_ 0 _ rfl; exact BK244.out)⟩⟩, ⟨XR.B2.one (w1 := wr) (by repeat ((with_reducible first | exact HB.out | refine XR.b2_set ?_ GE244.out)))⟩⟩
    case round =>
     clear H' c4b0 c5b0 c6b0 hcz9_0 hcz9_1 hfz9_0 hfz9_1 hx243_0 hx243_1 p243 q243
     obtain ⟨G_, pre_, r, x16_2, rfl, HA, HX_, HJ_, HK2, BK242, BK244, HG244, HB⟩ := hrel
     have HB := Aside0.mk (XR.b2_refl HB.out)
     cases gk with
     | zero => exact absurd HA.out (by simp [poslist_List_Places_2.l1])
     | succ k2 =>
      have H := HA.out
      clear HA
      simp only [poslist_List_Places_2.l1] at H
      replace H := ifd H
      rcases H with ⟨-, c10b0, H⟩ | ⟨-, c10b0, H⟩
      ·replace H := Option.bind_eq_some_iff.mp H
       obtain ⟨r2_, H, hr2_⟩ := H
       replace hr2_ : x16_2 :: r2_ = r := Option.some.inj hr2_
       have HR2_ := Aside0.mk hr2_
       clear hr2_
       have H' := Aside0.mk H
       clear H
       have hnb12 := NB244_242.out
       have hnc12 := NB242_244.out
       obtain ⟨hcz13_0, hcz13_1, hfz13_0, hfz13_1⟩ := b2 BK244
       go_upto_region 6 with (go_in)
       refine (wpIn_wide (n := n_)).1 ?_
       obtain ⟨fn_, tm_, as_, bd_, hy_, hR_⟩ := hY_ pre_ x16_2 r2_ _ _ (by rw [HX_.out, ← HR2_.out]) (hJs_ _ _ _ _ HJ_.out (XR.B2.two (w := w) HB.out))
       gi_wp2
       refine ⟨fun hd_ => (by cases hd_), hR_.mono ?_⟩
       rintro e_ w14 (⟨rfl, hJ3_, hsz_, hkp_⟩ | ⟨rfl, hx3_⟩)
       rotate_left
       ·gi_wp2
        go_wp2
        refine bodyPost_ret (results_none rfl _ _ _) rfl ?_
        exact ⟨⟨_, rfl⟩, .inr ⟨pre_ ++ [x16_2], ⟨r2_, by rw [HX_.out, ← HR2_.out]; simp⟩, hx3_⟩⟩
       have lt244_ := blk_lt BK244.out
       have lt242_ := blk_lt BK242.out
       replace BK242 := Aside0.mk ((hkp_ _ lt242_ (.inl rfl)).trans BK242.out)
       replace BK244 := Aside0.mk ((hkp_ _ lt244_ (.inr (.inl HG244.out))).trans BK244.out)
       replace HB := Aside0.mk (XR.b2_refl (hJB_ _ _ _ hJ3_))
       obtain ⟨G_, HJ_, HG244⟩ : ∃ G', Aside0 (J_ G' (pre_ ++ [x16_2]) w14) ∧ Aside0 (G' gb244) := ⟨_, ⟨hJ3_⟩, ⟨.inl HG244.out⟩⟩
       have HX_ := Aside0.mk (show xs = (pre_ ++ [x16_2]) ++ r2_ by rw [HX_.out, ← HR2_.out]; simp)
       clear hJ3_ hkp_
       gi_wp2
       go_wp2_with (go_in)
       go_roundg k2
       case measure => have := HK1.out; have := HK2.out; omega
       case rel => exact ⟨XR.grow G_ w14 _, (pre_ ++ [x16_2]), r2_, (wrap64 (x16_2 + 1)), (by rfl), H', ⟨HX_.out⟩, ⟨hJs_ _ _ _ _ HJ_.out (XR.B2.two (w := w) (by repeat ((with_reducible exact HB.out))))⟩, ⟨by have := HK1.out; have := HK2.out; omega⟩, ⟨bx BK242.out⟩, ⟨bx BK244.out⟩, ⟨.inl HG244.out⟩, ⟨XR.B2.one (w1 := w14) (by repeat ((with_reducible exact HB.out)))⟩⟩
      ·have H' := Aside0.mk H
       clear H
       have hnb15 := NB244_242.out
       have hnc15 := NB242_244.out
       obtain ⟨hcz16_0, hcz16_1, hfz16_0, hfz16_1⟩ := b2 BK244
       go_wp2
       go_roundg k2
       case measure => have := HK1.out; have := HK2.out; omega
       case rel => exact ⟨XR.grow G_ wr _, pre_, r, (wrap64 (x20_1 + 1)), (by rfl), H', ⟨HX_.out⟩, ⟨hJs_ _ _ _ _ HJ_.out (XR.B2.two (w := w) (by repeat ((with_reducible exact HB.out))))⟩, ⟨by have := HK1.out; have := HK2.out; omega⟩, ⟨bx BK242.out⟩, ⟨XR.B2.one (w1 := wr) (by repeat ((with_reducible exact HB.out)))⟩⟩
   ·obtain rfl : [] = r := Option.some.inj H
    go_wp2
    go_end0
    exact ⟨⟨_, rfl⟩, .inl ⟨_, by have hx_ := HX_.out; rw [List.append_nil] at hx_; rw [hx_]; exact hJs_ _ _ _ _ HJ_.out (XR.B2.two (w := w) (by repeat ((with_reducible exact HB.out))))⟩⟩
/-! ### poslist_List_Places: function 55 (a contract of the session's own) -/
def poslist_List_Places.f (k : Nat) (a0_0 : Int) (l0_1 : List (S70)) (l0_2 : List Int) (l0_3 : List Int) : Option (List Int) := if a0_0 = 2 then poslist_List_Places_1.f k a0_0 l0_1 l0_2 l0_3 else if a0_0 = 3 then slices_Values_int_int_1.f k l0_3 else poslist_List_Places_2.f k a0_0 l0_1 l0_2 l0_3
set_option maxHeartbeats 8000000 in
set_option maxRecDepth 100000 in
theorem poslist_List_Places.calls (k : Nat) (a0_0 : Int) (A0_1 : Option Addr) (c0_1 : Nat) (l0_1 : List (S70)) (A0_2 : Option Addr) (c0_2 : Nat) (l0_2 : List Int) (A0_3 : Option Addr) (c0_3 : Nat) (l0_3 : List Int) (xs : List Int) (w0 w : World) (hb0 : Below w0.heap.size w0 w) (hr0_1 : Kd.C k70 w0 A0_1 l0_1.length l0_1) (hc0_1 : l0_1.length ≤ c0_1) (hr0_2 : Kd.C (Kd.int .i64) w0 A0_2 l0_2.length l0_2) (hc0_2 : l0_2.length ≤ c0_2) (hr0_3 : Kd.C (Kd.int .i64) w0 A0_3 l0_3.length l0_3) (hc0_3 : l0_3.length ≤ c0_3) (h : poslist_List_Places.f k a0_0 l0_1 l0_2 l0_3 = some xs) :
    Calls Tryz.prog 55 #[.agg #[.int .i64 a0_0, .slice A0_1 l0_1.length c0_1, .slice A0_2 l0_2.length c0_2, .slice A0_3 l0_3.length c0_3]] w fun e w' => ∃ gf gb : Nat, e = .returned (.func (.func gf) #[] #[.pointer (some ⟨gb, 0, none⟩)]) ∧ (∀ args W, (callFunc gf args).run Tryz.prog W = .ok (.enter gf args) W) ∧ w.heap.size ≤ gb ∧ gb < w'.heap.size ∧ XR.Iter Tryz.prog (fun x : Int => #[.int .i64 x]) w0 (fun k_ => k_ = gb) gf #[.pointer (some ⟨gb, 0, none⟩)] xs w' ∧ Below w.heap.size w w' := by
 have hmf : ∀ (fn : Fn) (first cap : Array Value) (w : World), (Instr.makeFunc fn first cap).run Tryz.prog w = .ok (.func fn first cap) w := fun _ _ _ _ => rfl
 have hu27 := Tryz.underlying29
 have HR0_1 := Aside0.mk hr0_1
 have HC0_1 := Aside0.mk hc0_1
 clear hr0_1 hc0_1
 have HR0_2 := Aside0.mk hr0_2
 have HC0_2 := Aside0.mk hc0_2
 clear hr0_2 hc0_2
 have HR0_3 := Aside0.mk hr0_3
 have HC0_3 := Aside0.mk hc0_3
 clear hr0_3 hc0_3
 have HB := Aside0.mk (Below.refl w.heap.size w)
 have H0 := Aside0.mk (And.intro hb0 trivial)
 clear hb0
 have H := h
 clear h
 unfold poslist_List_Places.f at H
 by_cases c2 : a0_0 = 2
 ·rw [if_pos c2] at H
  have c2b0 : (a0_0 == 2) = true := beq_iff_eq.mpr c2
  clear c2
  have H1 := Aside0.mk H
  clear H
  go_enter Tryz.func55, Tryz.ntmps55
  go_wp2_with (((with_reducible refine gate_dst (N := 1) rfl ?_); refine box_event ?hg (N := 1) ?hd (cs := #[.int .i64 a0_0, .slice A0_1 l0_1.length c0_1, .slice A0_2 l0_2.length c0_2, .slice A0_3 l0_3.length c0_3]) (t := 29) ?hr ?_; (case hd => rfl); (case hg => rfl); (case hr => (go_simp; done)); intro g1 hg w2 hbox hb; have n0_ := Aside0.mk (below_step HB.out hb); have n1_ := Aside0.mk (hbox); have n2_ := Aside0.mk ((by rw [hg]; exact below_size HB.out : w.heap.size ≤ g1)); clear HB; have HB := n0_; have BK1 := n1_; have GE1 := n2_; clear n0_ n1_ n2_ hb hbox hg; obtain ⟨hc10, hc11, hc12, hc13, hf10, hf11, hf12, hf13⟩ := b4 BK1))
  go_ret
  exact ⟨90, _, rfl, enters_of Tryz.func90 (by kernel_rfl) rfl, GE1.out, blk_lt BK1.out, poslist_List_Places_1.iter k a0_0 A0_1 c0_1 l0_1 A0_2 c0_2 l0_2 A0_3 c0_3 l0_3 xs w0 _ g1 HR0_1.out HC0_1.out HR0_2.out HC0_2.out HR0_3.out HC0_3.out (below_step H0.out.1 HB.out) BK1.out (by have := H0.out.1.size; have := GE1.out; omega) H1.out, HB.out⟩
 rw [if_neg c2] at H
 have c2b0 : (a0_0 == 2) = false := beq_eq_false_iff_ne.mpr c2
 clear c2
 replace H := ife H
 rcases H with ⟨-, c3b0, -, H⟩ | ⟨-, c3b0, -, H⟩
 ·have H1 := Aside0.mk H
  clear H
  go_enter Tryz.func55, Tryz.ntmps55
  go_wp2_with (first | ((with_reducible refine gate_dst (N := 1) rfl ?_); refine box_event ?hg (N := 1) ?hd (cs := #[.int .i64 a0_0, .slice A0_1 l0_1.length c0_1, .slice A0_2 l0_2.length c0_2, .slice A0_3 l0_3.length c0_3]) (t := 29) ?hr ?_; (case hd => rfl); (case hg => rfl); (case hr => (go_simp; done)); intro g1 hg w2 hbox hb; have n0_ := Aside0.mk (below_step HB.out hb); have n1_ := Aside0.mk (hbox); have n2_ := Aside0.mk ((by rw [hg]; exact below_size HB.out : w.heap.size ≤ g1)); clear HB; have HB := n0_; have BK1 := n1_; have GE1 := n2_; clear n0_ n1_ n2_ hb hbox hg; obtain ⟨hc10, hc11, hc12, hc13, hf10, hf11, hf12, hf13⟩ := b4 BK1) | (go_at_call 92; (with_reducible refine (slices_Values_int_int.calls k _ _ l0_3 xs w0 _ (below_step H0.out.1 HB.out) HR0_3.out HC0_3.out H1.out).mono ?_); have HB0 := Aside0.mk (below_size HB.out); rintro e w3 ⟨gb, rfl, hgb, hlt, hit, hb⟩; have n0_ := Aside0.mk (below_step HB.out hb); clear HB; have HB := n0_; clear n0_ hb))
  go_ret
  exact ⟨119, _, rfl, enters_of Tryz.func119 (by kernel_rfl) rfl, by have := HB0.out; omega, hlt, hit, HB.out⟩
 ·have H1 := Aside0.mk H
  clear H
  go_enter Tryz.func55, Tryz.ntmps55
  go_wp2_with (((with_reducible refine gate_dst (N := 1) rfl ?_); refine box_event ?hg (N := 1) ?hd (cs := #[.int .i64 a0_0, .slice A0_1 l0_1.length c0_1, .slice A0_2 l0_2.length c0_2, .slice A0_3 l0_3.length c0_3]) (t := 29) ?hr ?_; (case hd => rfl); (case hg => rfl); (case hr => (go_simp; done)); intro g1 hg w2 hbox hb; have n0_ := Aside0.mk (below_step HB.out hb); have n1_ := Aside0.mk (hbox); have n2_ := Aside0.mk ((by rw [hg]; exact below_size HB.out : w.heap.size ≤ g1)); clear HB; have HB := n0_; have BK1 := n1_; have GE1 := n2_; clear n0_ n1_ n2_ hb hbox hg; obtain ⟨hc10, hc11, hc12, hc13, hf10, hf11, hf12, hf13⟩ := b4 BK1))
  go_ret
  exact ⟨93, _, rfl, enters_of Tryz.func93 (by kernel_rfl) rfl, GE1.out, blk_lt BK1.out, poslist_List_Places_2.iter k a0_0 A0_1 c0_1 l0_1 A0_2 c0_2 l0_2 A0_3 c0_3 l0_3 xs w0 _ g1 HR0_1.out HC0_1.out HR0_2.out HC0_2.out HR0_3.out HC0_3.out (below_step H0.out.1 HB.out) BK1.out (by have := H0.out.1.size; have := GE1.out; omega) H1.out, HB.out⟩
/-! ### poslist_best: function 105 -/
def poslist_best.f (k : Nat) (l0 : List (S70)) : Option (Int × (List (S70)) × List Int × List Int) := (poslist_Best.f k l0).bind fun bt246 => (some (bt246.1, bt246.2.1, bt246.2.2.1, bt246.2.2.2.1))
set_option maxHeartbeats 8000000 in
set_option maxRecDepth 100000 in
theorem poslist_best.calls (k : Nat) (A0 : Option Addr) (c0 : Nat) (l0 : List (S70)) (r1 : Int) (r2 : List (S70)) (r3 : List Int) (r4 : List Int) (w : World) (hr0 : Kd.C k70 w A0 l0.length l0) (hc0 : l0.length ≤ c0) (h : poslist_best.f k l0 = some (r1, r2, r3, r4)) :
  Calls Tryz.prog 105 #[.slice A0 l0.length c0] w fun e w' => ∃ v1_ v2_ v3_ : Value, e = .returned (.agg #[.int .i64 r1, v1_, v2_, v3_]) ∧ Kd.R k70 70 w' w.heap.size (fun _ => True) v1_ r2 ∧ Kd.R (Kd.int .i64) 3 w' w.heap.size (fun k_ => some k_ ≠ (v3_ : Value).ownBlock) v2_ r3 ∧ Kd.R (Kd.int .i64) 3 w' w.heap.size (fun k_ => some k_ ≠ (v2_ : Value).ownBlock) v3_ r4 ∧ Below w.heap.size w w' := by
 have hu29 := Tryz.underlying29
 have HR0 := Aside0.mk hr0
 have HC0 := Aside0.mk hc0
 clear hr0 hc0
 have HB := Aside0.mk (Below.refl w.heap.size w)
 have H := h
 clear h
 unfold poslist_best.f at H
 replace H := bd H
 obtain ⟨⟨t246, t247, t250, t253, t256⟩, A2, H⟩ := H
 dsimp only at H
 simp only [Option.some.injEq, Prod.mk.injEq] at H
 obtain ⟨rfl, rfl, rfl, rfl⟩ := H
 go_enter Tryz.func105, Tryz.ntmps105
 go_wp2_with (first | ((with_reducible refine gate_dst (N := 2) rfl ?_); refine boxE HB 2 29 #[.int .i64 0, .slice none 0 0, .slice none 0 0, .slice none 0 0] ?_; clear HB; intro gb245 w3 BK245 GW245 hg hb HB; have GE245 := GW245; clear hb hg) | ((with_reducible refine gate_callee (f := 35) rfl ?_); refine gL 7 Tryz.func35 #[.slice A0 l0.length c0] ?_; (with_reducible refine (poslist_Best.calls k _ _ l0 t246 t247 t250 t253 t256 _ ?side1 ?side2 A2.out).mono ?_); (case side1 => exact cx (Kd.C_below HR0.out HB.out)); (case side2 => exact HC0.out); rintro e w4 ⟨v248, v251, v254, rfl, ho0, ho1, ho2, hb⟩; refine ⟨_, rfl, ?_⟩; have HO249 := Aside0.mk (Kd.R_lower ho0 (below_size (bh HB.out))); have HO252 := Aside0.mk (Kd.R_lower ho1 (below_size (bh HB.out))); have HO255 := Aside0.mk (Kd.R_lower ho2 (below_size (bh HB.out))); replace BK245 := bba BK245 hb; replace HB := bsa HB hb; clear hb ho0 ho1 ho2) | ((with_reducible refine gate_dst (N := 3) rfl ?_); refine box_event ?hg (N := 3) ?hd (cs := #[.int .i64 0, .slice none 0 0, .slice none 0 0, .slice none 0 0]) (t := 29) ?hr ?_; (case hd => rfl); (case hg => rfl); (case hr => (go_simp; done)); intro gb257 hg w5 hbox hb; replace HO249 := rba HO249 hb; replace HO252 := rba HO252 hb; replace HO255 := rba HO255 hb; have BK257 := Aside0.mk (hbox); have GW257 := bza HB hg; have GE257 := bza HB hg; replace HB := bsa HB hb; obtain ⟨NB245_257, NB257_245⟩ := bnm BK245 hg; replace BK245 := bba BK245 hb; clear hb hbox hg; have hnb6 := NB257_245.out; have hnc6 := NB245_257.out; obtain ⟨hcz7_0, hcz7_1, hcz7_2, hcz7_3, hfz7_0, hfz7_1, hfz7_2, hfz7_3⟩ := b4 BK257; obtain ⟨Ao8, co8, eo8⟩ := Kd.R_slice HO249.out; subst eo8; obtain ⟨Ao9, co9, eo9⟩ := Kd.R_slice HO252.out; subst eo9; obtain ⟨Ao10, co10, eo10⟩ := Kd.R_slice HO255.out; subst eo10) | ((with_reducible refine gate_store (t := 29) (p := 3) rfl ?_); refine stE 29 3 ((((w5.setCell ⟨gb257, 0, none⟩ (.int .i64 t246)).setCell ⟨gb257, 1, none⟩ (.slice Ao8 t247.length co8)).setCell ⟨gb257, 2, none⟩ (.slice Ao9 t250.length co9)).setCell ⟨gb257, 3, none⟩ (.slice Ao10 t253.length co10)) ?_; intro w11 hw; have n0_ := rsm (fun _ => True) HO249 hw (fun _ hk => trivial); have n1_ := rst HO252 hw; have n2_ := rst HO255 hw; have n3_ : Aside0 (w11.heap[gb245]? = some (.cells #[.int .i64 0, .slice none 0 0, .slice none 0 0, .slice none 0 0] 29 (0, 0))) := ⟨(by rw [hw]; exact (bx BK245.out))⟩; have n4_ := sps #[.int .i64 t246, .slice Ao8 t247.length co8, .slice Ao9 t250.length co9, .slice Ao10 t253.length co10] BK257 hw (.p (.p (.p (.p .nil)))); have n5_ := bhw HB hw; clear hw HO249 HO252 HO255 BK245 BK257 HB; have HO249 := n0_; have HO252 := n1_; have HO255 := n2_; have BK245 := n3_; have BK257 := n4_; have HB := n5_; clear n0_ n1_ n2_ n3_ n4_ n5_; obtain ⟨hcz12_0, hcz12_1, hcz12_2, hcz12_3, hfz12_0, hfz12_1, hfz12_2, hfz12_3⟩ := b4 BK257; obtain ⟨hcz13_0, hcz13_1, hcz13_2, hcz13_3, hfz13_0, hfz13_1, hfz13_2, hfz13_3⟩ := b4 BK245) | ((with_reducible refine gate_store (t := 29) (p := 2) rfl ?_); refine stE 29 2 ((((w11.setCell ⟨gb245, 0, none⟩ (.int .i64 t246)).setCell ⟨gb245, 1, none⟩ (.slice Ao8 t247.length co8)).setCell ⟨gb245, 2, none⟩ (.slice Ao9 t250.length co9)).setCell ⟨gb245, 3, none⟩ (.slice Ao10 t253.length co10)) ?_; intro w14 hw; have n0_ := rsm (fun _ => True) HO249 hw (fun _ hk => trivial); have n1_ := rst HO252 hw; have n2_ := rst HO255 hw; have n3_ := sps #[.int .i64 t246, .slice Ao8 t247.length co8, .slice Ao9 t250.length co9, .slice Ao10 t253.length co10] BK245 hw (.p (.p (.p (.p .nil)))); have n4_ : Aside0 (w14.heap[gb257]? = some (.cells #[.int .i64 t246, .slice Ao8 t247.length co8, .slice Ao9 t250.length co9, .slice Ao10 t253.length co10] 29 (0, 0))) := ⟨(by rw [hw]; exact (bx BK257.out))⟩; have n5_ := bhw HB hw; clear hw HO249 HO252 HO255 BK245 BK257 HB; have HO249 := n0_; have HO252 := n1_; have HO255 := n2_; have BK245 := n3_; have BK257 := n4_; have HB := n5_; clear n0_ n1_ n2_ n3_ n4_ n5_))
 refine bodyPost_ret (results_cell_row rfl _ _ gb245 29 #[.int .i64 t246, .slice Ao8 t247.length co8, .slice Ao9 t250.length co9, .slice Ao10 t253.length co10] (0, 0) _ rfl (bx BK245.out) Tryz.underlying29 rfl (by kernel_rfl)) rfl ?_
 exact ⟨_, _, _, er, by exact HO249.out, by exact HO252.out, by exact HO255.out, bh HB.out⟩
end Go.Proofs.YtdgphlkbmplbpaaGreat.Print
end
section
namespace Go.Proofs.YtdgphlkbmplbpaaGreat.Print
open Go.RowKit Go.Proofs.YtdgphlkbmplbpaaGreatW.PrintWords Go.Proofs.YtdgphlkbmplbpaaGreatW.PrintLast Go.Proofs.YtdgphlkbmplbpaaGreatW.PrintMore
attribute [local go_sem] max2_int min2_int max_two min_two max_three min_three max_four min_four   -- for this text's walks alone
set_option linter.unusedVariables false
set_option linter.unusedSimpArgs false
/-! ### poslist_List_kept: function 65 (a contract of the session's own) -/
section
attribute [local go_sem] Oper.semAt_some
def poslist_List_kept.go (p : Int → Option Bool) : List Int → List Int → Option (List Int)
  | [], o => some o
  | x :: xs, o => (p x).bind fun t => if t = true then (if o.length < 1000000000000 then poslist_List_kept.go p xs (o ++ [x]) else none) else poslist_List_kept.go p xs o
def poslist_List_kept.f (p : Int → Option Bool) (k : Nat) (a0_0 : Int) (l0_1 : List (S70)) (l0_2 : List Int) (l0_3 : List Int) : Option (Int × (List (S70)) × List Int × List Int) := (poslist_List_Places.f k a0_0 l0_1 l0_2 l0_3).bind fun xs => (poslist_List_kept.go p xs []).bind fun o => (span_Of.f k o).bind fun z => poslist_best.f k z.1
theorem poslist_List_kept.go_snoc (p : Int → Option Bool) : ∀ (pre : List Int) (x : Int) (o : List Int), poslist_List_kept.go p (pre ++ [x]) o = (poslist_List_kept.go p pre o).bind fun o1 => (p x).bind fun t => if t = true then (if o1.length < 1000000000000 then some (o1 ++ [x]) else none) else some o1 := by
 intro pre
 induction pre with
 | nil => intro x o; rfl
 | cons y ys ih =>
   intro x o
   simp only [List.cons_append, poslist_List_kept.go]
   rw [Option.bind_assoc]
   congr 1; funext t; split
   ·split
    ·exact ih x _
    ·rfl
   ·exact ih x o
theorem poslist_List_kept.go_pre (p : Int → Option Bool) : ∀ (pre rest : List Int) (o r : List Int), poslist_List_kept.go p (pre ++ rest) o = some r → ∃ o1, poslist_List_kept.go p pre o = some o1 := by
 intro pre
 induction pre with
 | nil => intro rest o r h; exact ⟨o, rfl⟩
 | cons y ys ih =>
   intro rest o r h
   simp only [List.cons_append, poslist_List_kept.go] at h ⊢
   obtain ⟨t, ht, h⟩ := Option.bind_eq_some_iff.mp h
   rw [ht]; simp only [Option.bind_some]
   cases t with
   | true =>
     simp only [if_true] at h ⊢
     by_cases hc : o.length < 1000000000000
     ·rw [if_pos hc] at h ⊢; exact ih rest _ r h
     ·rw [if_neg hc] at h; cases h
   | false =>
     simp only [Bool.false_eq_true, if_false] at h ⊢
     exact ih rest o r h
set_option maxHeartbeats 8000000 in
set_option maxRecDepth 100000 in
theorem poslist_List_kept.calls (gf : Nat) (fi ca : Array Value) (p : Int → Option Bool) (k : Nat) (a0_0 : Int) (A0_1 : Option Addr) (c0_1 : Nat) (l0_1 : List (S70)) (A0_2 : Option Addr) (c0_2 : Nat) (l0_2 : List Int) (A0_3 : Option Addr) (c0_3 : Nat) (l0_3 : List Int) (r1 : Int) (r2 : List (S70)) (r3 : List Int) (r4 : List Int) (w : World) (hr0_1 : Kd.C k70 w A0_1 l0_1.length l0_1) (hc0_1 : l0_1.length ≤ c0_1) (hr0_2 : Kd.C (Kd.int .i64) w A0_2 l0_2.length l0_2) (hc0_2 : l0_2.length ≤ c0_2) (hr0_3 : Kd.C (Kd.int .i64) w A0_3 l0_3.length l0_3) (hc0_3 : l0_3.length ≤ c0_3)
    (heg : ∀ args W, (callFunc gf args).run Tryz.prog W = .ok (.enter gf args) W) (his : ∀ (X : World) (at_ : Int) (t : Bool), Below w.heap.size w X → p at_ = some t → Calls Tryz.prog gf (fi.push (.int .i64 at_) ++ ca) X fun e X' => e = .returned (.bool t) ∧ Below X.heap.size X X') (h : poslist_List_kept.f p k a0_0 l0_1 l0_2 l0_3 = some (r1, r2, r3, r4)) :
    Calls Tryz.prog 65 #[.agg #[.int .i64 a0_0, .slice A0_1 l0_1.length c0_1, .slice A0_2 l0_2.length c0_2, .slice A0_3 l0_3.length c0_3], .func (.func gf) fi ca] w fun e w' => ∃ v1_ v2_ v3_ : Value, e = .returned (.agg #[.int .i64 r1, v1_, v2_, v3_]) ∧ Kd.R k70 70 w' w.heap.size (fun _ => True) v1_ r2 ∧ Kd.R (Kd.int .i64) 3 w' w.heap.size (fun k_ => some k_ ≠ (v3_ : Value).ownBlock) v2_ r3 ∧ Kd.R (Kd.int .i64) 3 w' w.heap.size (fun k_ => some k_ ≠ (v2_ : Value).ownBlock) v3_ r4 ∧ Below w.heap.size w w' := by
 have hu27 := Tryz.underlying29
 have HR0_1 := Aside0.mk hr0_1
 have HC0_1 := Aside0.mk hc0_1
 clear hr0_1 hc0_1
 have HR0_2 := Aside0.mk hr0_2
 have HC0_2 := Aside0.mk hc0_2
 clear hr0_2 hc0_2
 have HR0_3 := Aside0.mk hr0_3
 have HC0_3 := Aside0.mk hc0_3
 clear hr0_3 hc0_3
 have HB := Aside0.mk (Below.refl w.heap.size w)
 obtain ⟨xs, A3_, H⟩ := Option.bind_eq_some_iff.mp (show ((poslist_List_Places.f k a0_0 l0_1 l0_2 l0_3).bind fun xs => (poslist_List_kept.go p xs []).bind fun o => (span_Of.f k o).bind fun z => poslist_best.f k z.1) = some (r1, r2, r3, r4) from h)
 clear h
 obtain ⟨o, A4_, H⟩ := Option.bind_eq_some_iff.mp H
 obtain ⟨z, A5_, H⟩ := Option.bind_eq_some_iff.mp H
 have H3 := Aside0.mk A3_
 have H4 := Aside0.mk A4_
 have H5 := Aside0.mk A5_
 have H6 := Aside0.mk H
 clear A3_ A4_ A5_ H
 refine (callsIn_wide (n := 4)).1 ?_
 refine callsIn_of_wp_marks Tryz.func65 rfl trivial ?_ rfl
 simp only [Tryz.ntmps65, List.size_toArray, List.length_cons, List.length_nil, Nat.reduceAdd, Nat.reduceSub, Array.replicate_succ, Array.replicate_zero, List.push_toArray, List.append_toArray, List.nil_append, List.cons_append]
 refine wpIn_wide.2 ?_
 go_wp2_with (first | ((with_reducible refine gate_dst (N := 2) rfl ?_); refine box_event ?hg (N := 2) ?hd (cs := #[.int .i64 a0_0, .slice A0_1 l0_1.length c0_1, .slice A0_2 l0_2.length c0_2, .slice A0_3 l0_3.length c0_3]) (t := 29) ?hr ?_; (case hd => rfl); (case hg => rfl); (case hr => (go_simp; done)); intro gl hg w2 hbox hb; have n0_ := Aside0.mk (below_step HB.out hb); have n1_ := Aside0.mk (hbox); have n2_ := Aside0.mk ((by rw [hg]; exact below_size HB.out : w.heap.size ≤ gl)); clear HB; have HB := n0_; have BKl := n1_; have GEl := n2_; clear n0_ n1_ n2_ hb hbox hg) | ((with_reducible refine gate_dst (N := 3) rfl ?_); refine box_event ?hg (N := 3) ?hd (cs := #[.func (.func gf) fi ca]) (t := 63) ?hr ?_; (case hd => rfl); (case hg => rfl); (case hr => (go_simp; done)); intro gp hg w3 hbox hb; have n0_ := Aside0.mk (below_step HB.out hb); have n1_ := Aside0.mk (blk_below BKl.out hb); have n2_ := Aside0.mk (hbox); have n3_ := Aside0.mk ((by rw [hg]; exact below_size HB.out : w.heap.size ≤ gp)); have n4_ := Aside0.mk ((by rw [hg]; exact Nat.ne_of_lt (blk_lt BKl.out) : gl ≠ gp)); have n5_ := Aside0.mk ((by rw [hg]; exact (Nat.ne_of_lt (blk_lt BKl.out)).symm : gp ≠ gl)); clear HB BKl; have HB := n0_; have BKl := n1_; have BKp := n2_; have GEp := n3_; have NBlp := n4_; have NBpl := n5_; clear n0_ n1_ n2_ n3_ n4_ n5_ hb hbox hg) | ((with_reducible refine gate_dst (N := 4) rfl ?_); refine box_event ?hg (N := 4) ?hd (cs := #[.int .i64 0, .slice none 0 0, .slice none 0 0, .slice none 0 0]) (t := 29) ?hr ?_; (case hd => rfl); (case hg => rfl); (case hr => (go_simp; done)); intro g4 hg w4 hbox hb; have n0_ := Aside0.mk (below_step HB.out hb); have n1_ := Aside0.mk (blk_below BKl.out hb); have n2_ := Aside0.mk (blk_below BKp.out hb); have n3_ := Aside0.mk (hbox); have n4_ := Aside0.mk ((by rw [hg]; exact below_size HB.out : w.heap.size ≤ g4)); have n5_ := Aside0.mk ((by rw [hg]; exact Nat.ne_of_lt (blk_lt BKl.out) : gl ≠ g4)); have n6_ := Aside0.mk ((by rw [hg]; exact (Nat.ne_of_lt (blk_lt BKl.out)).symm : g4 ≠ gl)); have n7_ := Aside0.mk ((by rw [hg]; exact Nat.ne_of_lt (blk_lt BKp.out) : gp ≠ g4)); have n8_ := Aside0.mk ((by rw [hg]; exact (Nat.ne_of_lt (blk_lt BKp.out)).symm : g4 ≠ gp)); clear HB BKl BKp; have HB := n0_; have BKl := n1_; have BKp := n2_; have BK4 := n3_; have GE4 := n4_; have NBl4 := n5_; have NB4l := n6_; have NBp4 := n7_; have NB4p := n8_; clear n0_ n1_ n2_ n3_ n4_ n5_ n6_ n7_ n8_ hb hbox hg) | ((with_reducible refine gate_dst (N := 5) rfl ?_); refine box_event ?hg (N := 5) ?hd (cs := #[.slice none 0 0]) (t := 27) ?hr ?_; (case hd => rfl); (case hg => rfl); (case hr => (go_simp; done)); intro gu hg w5 hbox hb; have n0_ := Aside0.mk (below_step HB.out hb); have n1_ := Aside0.mk (blk_below BKl.out hb); have n2_ := Aside0.mk (blk_below BKp.out hb); have n3_ := Aside0.mk (blk_below BK4.out hb); have n4_ := Aside0.mk (hbox); have n5_ := Aside0.mk ((by rw [hg]; exact below_size HB.out : w.heap.size ≤ gu)); have n6_ := Aside0.mk ((by rw [hg]; exact Nat.ne_of_lt (blk_lt BKl.out) : gl ≠ gu)); have n7_ := Aside0.mk ((by rw [hg]; exact (Nat.ne_of_lt (blk_lt BKl.out)).symm : gu ≠ gl)); have n8_ := Aside0.mk ((by rw [hg]; exact Nat.ne_of_lt (blk_lt BKp.out) : gp ≠ gu)); have n9_ := Aside0.mk ((by rw [hg]; exact (Nat.ne_of_lt (blk_lt BKp.out)).symm : gu ≠ gp)); have n10_ := Aside0.mk ((by rw [hg]; exact Nat.ne_of_lt (blk_lt BK4.out) : g4 ≠ gu)); have n11_ := Aside0.mk ((by rw [hg]; exact (Nat.ne_of_lt (blk_lt BK4.out)).symm : gu ≠ g4)); clear HB BKl BKp BK4; have HB := n0_; have BKl := n1_; have BKp := n2_; have BK4 := n3_; have BKu := n4_; have GEu := n5_; have NBlu := n6_; have NBul := n7_; have NBpu := n8_; have NBup := n9_; have NB4u := n10_; have NBu4 := n11_; clear n0_ n1_ n2_ n3_ n4_ n5_ n6_ n7_ n8_ n9_ n10_ n11_ hb hbox hg; have hlu6 := Aside0.mk (blk_lt BKu.out); obtain ⟨hcl0, hcl1, hcl2, hcl3, hfl0, hfl1, hfl2, hfl3⟩ := b4 BKl) | (go_at_call 55; (with_reducible refine (poslist_List_Places.calls k _ _ _ _ _ _ _ _ _ _ xs w _ HB.out ?a1 ?b1 ?a2 ?b2 ?a3 ?b3 H3.out).mono ?_); (case a1 => exact HR0_1.out); (case b1 => exact HC0_1.out); (case a2 => exact HR0_2.out); (case b2 => exact HC0_2.out); (case a3 => exact HR0_3.out); (case b3 => exact HC0_3.out); rintro e w7 ⟨gI, gi, rfl, hen, hgi, hlti, hit, hb⟩; have n0_ := Aside0.mk (below_step HB.out hb); have n1_ := Aside0.mk (blk_below BKl.out hb); have n2_ := Aside0.mk (blk_below BKp.out hb); have n3_ := Aside0.mk (blk_below BK4.out hb); have n4_ := Aside0.mk (blk_below BKu.out hb); clear HB BKl BKp BK4 BKu; have HB := n0_; have BKl := n1_; have BKp := n2_; have BK4 := n3_; have BKu := n4_; clear n0_ n1_ n2_ n3_ n4_ hb))
 refine (wpIn_wide (n := 4)).1 ?_
 refine XR.wp_range (α := Int) (w0 := w) (by decide) (gf := gI) (lb := #[.pointer (some ⟨gi, 0, none⟩)]) rfl hen hit
   (by rintro k_ rfl; exact hlti) (fun _ => rfl)
   (fun G_ pre X => ∃ (o1 : List Int) (v : Value), poslist_List_kept.go p pre [] = some o1 ∧ X.heap[gu]? = some (.cells #[v] 27 (0, 0)) ∧ Kd.R (Kd.int .i64) 3 X w.heap.size (fun k_ => w.heap.size ≤ k_ ∧ (k_ ≠ gl ∧ k_ ≠ gp ∧ k_ ≠ g4 ∧ k_ ≠ gu ∧ k_ ≠ gi ∧ k_ ≠ w7.heap.size ∧ k_ ≠ w7.heap.size + 1 ∧ ¬ G_ k_)) v o1 ∧ X.heap[gp]? = some (.cells #[.func (.func gf) fi ca] 63 (0, 0)) ∧ X.heap[g4]? = some (.cells #[.int .i64 0, .slice none 0 0, .slice none 0 0, .slice none 0 0] 29 (0, 0)) ∧ Below w.heap.size w X)
   (fun _ _ _ => False)
   ?hI ?hIG (fun _ _ _ _ h _ => h) ?hIB ?hIp (fun _ _ _ _ _ h _ _ _ => h) ?h0
   (fun Y x a' Z => a' = { tmps := #[.agg #[.int .i64 a0_0, .slice A0_1 l0_1.length c0_1, .slice A0_2 l0_2.length c0_2, .slice A0_3 l0_3.length c0_3], .func (.func gf) fi ca, .pointer (some ⟨gl, 0, none⟩), .pointer (some ⟨gp, 0, none⟩), .pointer (some ⟨g4, 0, none⟩), .pointer (some ⟨gu, 0, none⟩), .int .i64 x, undef, undef, .agg #[.int .i64 a0_0, .slice A0_1 l0_1.length c0_1, .slice A0_2 l0_2.length c0_2, .slice A0_3 l0_3.length c0_3], .func (.func gI) #[] #[.pointer (some ⟨gi, 0, none⟩)], .int .i64 x, undef, undef, undef, undef, undef, undef, undef, undef, undef, undef, undef, undef, undef, undef], defers := [] })
   ?hAx ?assign ?body ?done ?stop
 case hI =>
   rintro G_ pre X Y ⟨o1, v, hg, ho, hr, hfp, hf4, hb⟩ hXY
   exact ⟨o1, v, hg, blk_below ho hXY, Kd.R_below hr hXY, blk_below hfp hXY, blk_below hf4 hXY,  below_step hb hXY⟩
 case hIG =>
   rintro G_ G2_ pre X ⟨o1, v, hg, ho, hr, hfp, hf4, hb⟩ hG
   refine ⟨o1, v, hg, ho, Kd.R_mono (Kd.R_tight rfl hr) (fun k_ hk => ?_), hfp, hf4,  hb⟩
   have hq := hr.1 k_ hk.symm
   have hlt := Kd.R_lt hr k_ hk.symm
   exact ⟨hq.1, hq.2.1, hq.2.2.1, hq.2.2.2.1, hq.2.2.2.2.1, hq.2.2.2.2.2.1, hq.2.2.2.2.2.2.1, hq.2.2.2.2.2.2.2.1, fun h2 => (hG k_ h2).elim hq.2.2.2.2.2.2.2.2 (fun z => by omega)⟩
 case hIB =>
   rintro G_ pre X ⟨o1, v, hg, ho, hr, hfp, hf4, hb⟩
   exact hb
 case hIp =>
   rintro G_ pre X l o2 ⟨o1, v, hg, ho, hr, hfp, hf4, hb⟩ hl hl2 hlt
   have hnl : l ≠ gl := by have := blk_lt BKl.out; omega
   have hnp : l ≠ gp := by have := blk_lt BKp.out; omega
   have hn4 : l ≠ g4 := by have := blk_lt BK4.out; omega
   have hnu : l ≠ gu := by have := blk_lt BKu.out; omega
   refine ⟨o1, v, hg, (World.putObj_heap_other (Ne.symm hnu)).trans ho, ?_, (World.putObj_heap_other (Ne.symm hnp)).trans hfp, (World.putObj_heap_other (Ne.symm hn4)).trans hf4,  XR.below_putObj hb (by have := HB.out.size; omega) hlt o2⟩
   exact Kd.R_step hr (fun k_ hk _ => World.putObj_heap_other (by have h5 := hk.2.2.2.2.2.2.1; have h6 := hk.2.2.2.2.2.2.2.1; omega))
 case h0 => exact ⟨[], _, rfl, BKu.out, Kd.R_nil _ _ _ _ _, BKp.out, BK4.out,  HB.out⟩
 case hAx =>
   rintro Y x a' Z l o2 rfl hl hl2 hlt
   rfl
 case assign =>
   intro G_ pre x Y hI hsz
   gi_wp2
   exact ⟨Below.refl _ Y, trivial⟩
 case body =>
   rintro G_ pre x rest Y Z a' hx hGY ⟨o1, v, hg, ho, hr, hfp, hf4, hb⟩ hsX hYZ rfl
   have hlu : gu < w7.heap.size := blk_lt BKu.out
   have hll : gl < w7.heap.size := blk_lt BKl.out
   have hlp : gp < w7.heap.size := blk_lt BKp.out
   have hl4 : g4 < w7.heap.size := blk_lt BK4.out
   have hli : gi < w7.heap.size := hlti
   have NBui : gu ≠ gi := by have := hgi; have := hlu6.out; omega
   have hsn := poslist_List_kept.go_snoc p pre x []
   rw [hg] at hsn
   simp only [Option.bind_some] at hsn
   obtain ⟨o2, ho2⟩ := poslist_List_kept.go_pre p (pre ++ [x]) rest [] _ (by have h4 := H4.out; rw [hx] at h4; simpa using h4)
   rw [ho2] at hsn
   obtain ⟨t, ht, hs⟩ := Option.bind_eq_some_iff.mp hsn.symm
   have c1 : Z.cell? ⟨gp, 0, none⟩ = some (.func (.func gf) fi ca) := (blk_cell hfp 0).trans rfl
   cases t with
   | false =>
     simp only [Bool.false_eq_true, if_false, Option.some.injEq] at hs
     subst hs
     gi_wp2_with ((refine ⟨trivial, ?_⟩; refine (CallsIn.inRound (w7.heap.size + 1) (callsIn_wide.2 (his Z x false hb ht))).mono ?_; rintro e w9 ⟨rfl, hb9⟩))
     exact ⟨⟨_, v, ho2, blk_below ho hb9, Kd.R_below hr hb9, blk_below hfp hb9, blk_below hf4 hb9, below_step hb hb9⟩, hb9.size, fun k_ hk _ => hb9.block k_ hk⟩
   | true =>
     simp only [if_true] at hs
     have hcap : o1.length < 1000000000000 := by
       by_cases hc : o1.length < 1000000000000
       ·exact hc
       ·rw [if_neg hc] at hs; cases hs
     rw [if_pos hcap] at hs
     obtain rfl := Option.some.inj hs
     have hgo2 := ho2
     gi_wp2_with (first | (refine ⟨trivial, ?_⟩; refine (CallsIn.inRound (w7.heap.size + 1) (callsIn_wide.2 (his Z x true hb ht))).mono ?_; rintro e w9 ⟨rfl, hb9⟩; have d6 : w9.cell? ⟨gu, 0, none⟩ = some v := (blk_cell (blk_below ho hb9) 0).trans rfl; have hfp9 := blk_below hfp hb9; have hf49 := blk_below hf4 hb9; have ho9 := blk_below ho hb9; have hsW : Z.heap.size ≤ w9.heap.size := hb9.size) | (refine XR.listIn_out (N := 15) rfl ?a2 ?a3 ?a4 ?_; (case a2 => rfl); (case a3 => rintro ⟨_, _, h_⟩; exact h_); (case a4 => rfl)))
     go_wp2_with (((with_reducible refine gate_builtin (b := .append) (xs := #[.tmp 15, .tmp 17]) rfl ?_); at_builtin; refine Kd.R_append (Kd.int .i64) (w0 := w) w.heap.size rfl (.tmp 15) (.tmp 17) 27 3 (.int .i64 0) 8 rfl Tryz.underlying27 info3 rfl (by decide) (by omega) v o1 x [.int .i64 x] (fun k_ => w.heap.size ≤ k_ ∧ (k_ ≠ gl ∧ k_ ≠ gp ∧ k_ ≠ g4 ∧ k_ ≠ gu ∧ k_ ≠ gi ∧ k_ ≠ w7.heap.size ∧ k_ ≠ w7.heap.size + 1 ∧ ¬ G_ k_)) (fun _ => False) rfl rfl ?aP (fun _ hk => hk.elim) ?aF ?aO ?aB ?aS ?aL ?_; (case aP => exact rfl); (case aF => intro k_ hk; have h7 := below_size hb; have h8 := hsW; exact ⟨by omega, by omega, by omega, by omega, by omega, by omega, by omega, by omega, fun h2 => by have := hGY k_ h2; omega⟩); (case aO => exact (Kd.R_below hr hb9)); (case aB => exact (below_step hb hb9)); (case aS => exact below_size (below_step hb hb9)); (case aL => omega); intro v1 w10 hr10 hb10 hk10 _; have hne : ∀ k_, some k_ = v.ownBlock → w.heap.size ≤ k_ ∧ (k_ ≠ gl ∧ k_ ≠ gp ∧ k_ ≠ g4 ∧ k_ ≠ gu ∧ k_ ≠ gi ∧ k_ ≠ w7.heap.size ∧ k_ ≠ w7.heap.size + 1 ∧ ¬ G_ k_) := fun k_ e_ => hr.1 k_ e_.symm; have ho10 := blk_grown ho9 hk10 (fun e_ => (hne _ e_).2.2.2.2.1 rfl); have hfp10 := blk_grown hfp9 hk10 (fun e_ => (hne _ e_).2.2.1 rfl); have hf410 := blk_grown hf49 hk10 (fun e_ => (hne _ e_).2.2.2.1 rfl); obtain ⟨Av, cv, rfl⟩ := Kd.R_slice hr10; have e6 : w10.cell? ⟨gu, 0, none⟩ = some v := (blk_cell ho10 0).trans rfl; have e7 := blk_frozen ho10 0))
     have hr11 : Kd.R (Kd.int .i64) 3 w10 w.heap.size (fun k_ => w.heap.size ≤ k_ ∧ (k_ ≠ gl ∧ k_ ≠ gp ∧ k_ ≠ g4 ∧ k_ ≠ gu ∧ k_ ≠ gi ∧ k_ ≠ w7.heap.size ∧ k_ ≠ w7.heap.size + 1 ∧ ¬ G_ k_)) (.slice Av (o1.length + 1) cv) (o1 ++ [x]) := by rw [List.length_append] at hr10; exact hr10
     have hgb : Below w.heap.size w (w10.setCell ⟨gu, 0, none⟩ (.slice Av (o1.length + 1) cv)) := hb10.setCell (p := ⟨gu, 0, none⟩) GEu.out _
     have hrow := Kd.R_step hr11 (w1 := w10.setCell ⟨gu, 0, none⟩ (.slice Av (o1.length + 1) cv)) (fun k_ hk _ => Below.heap_setCell _ _ _ k_ (by exact hk.2.2.2.2.1))
     refine ⟨⟨o1 ++ [x], _, hgo2, blk_put ho10 0 _ rfl, hrow, blk_far hfp10 (by exact NBpu.out) _, blk_far hf410 (by exact NB4u.out) _,  hgb⟩, ?_, ?_⟩
     ·have := hk10.size; have := hb9.size; simp; omega
     ·intro k_ hk hkeep
      have hkgo : k_ ≠ gu := by
        rcases hkeep with rfl | hh | hh | hh
        ·exact Ne.symm NBui
        ·have := hGY k_ hh; omega
        ·omega
        ·omega
      have hkv : ¬ some k_ = v.ownBlock := by
        intro e_
        have hq := hne _ e_
        rcases hkeep with rfl | hh | hh | hh
        ·exact hq.2.2.2.2.2.1 rfl
        ·exact hq.2.2.2.2.2.2.2.2 hh
        ·exact hq.2.2.2.2.2.2.1 hh
        ·exact hq.2.2.2.2.2.2.2.1 hh
      rw [Below.heap_setCell _ _ _ k_ hkgo, hk10.block k_ (by have := hb9.size; omega) hkv, hb9.block k_ hk]
 case done =>
   rintro G_ W ⟨o1, v, hg, ho, hr, hfp, hf4, hb⟩ hK
   obtain rfl : o1 = o := by have h4 := H4.out; rw [hg] at h4; exact Option.some.inj h4
   obtain ⟨Av, cv, rfl⟩ := Kd.R_slice hr
   have cv1 : W.cell? ⟨gu, 0, none⟩ = some (.slice Av o1.length cv) := (blk_cell ho 0).trans rfl
   have hK1 := Aside0.mk hK
   have HBW := Aside0.mk hb
   have HF4 := Aside0.mk hf4
   clear hK hb hf4
   go_wp2_with (first | (go_at_call 43; (with_reducible refine (span_Of.calls k _ _ o1 z.1 z.2 _ ?side1 ?side2 H5.out).mono ?_); (case side1 => exact (Kd.R_reads' hr).2.2); (case side2 => exact (Kd.R_reads' hr).2.1); rintro e w11 ⟨vz, rfl, hvz, hb⟩; have n0_ := Aside0.mk (below_step HBW.out hb); have n1_ := Aside0.mk (blk_below HF4.out hb); have n2_ := Aside0.mk (blk_below hK1.out hb); clear HBW HF4 hK1; have HBW := n0_; have HF4 := n1_; have hK1 := n2_; clear n0_ n1_ n2_ hb; obtain ⟨Az, cz, rfl⟩ := Kd.R_slice hvz) | (go_at_call 105; (with_reducible refine (poslist_best.calls k _ _ z.1 r1 r2 r3 r4 _ ?side1 ?side2 H6.out).mono ?_); (case side1 => exact (Kd.R_reads' hvz).2.2); (case side2 => exact (Kd.R_reads' hvz).2.1); have hlt4 := blk_lt HF4.out; have hltK := blk_lt hK1.out; have hbase := below_size HBW.out; rintro e w12 ⟨v1, v2, v3, rfl, hv1, hv2, hv3, hb⟩; have n0_ := Aside0.mk (below_step HBW.out hb); have n1_ := Aside0.mk (blk_below HF4.out hb); have n2_ := Aside0.mk (blk_below hK1.out hb); clear HBW HF4 hK1; have HBW := n0_; have HF4 := n1_; have hK1 := n2_; clear n0_ n1_ n2_ hb; obtain ⟨Av1, cv1, rfl⟩ := Kd.R_slice hv1; obtain ⟨Av2, cv2, rfl⟩ := Kd.R_slice hv2; obtain ⟨Av3, cv3, rfl⟩ := Kd.R_slice hv3; have hw40 : w12.cell? ⟨g4, 0, none⟩ = some (.int .i64 0) := (blk_cell HF4.out 0).trans rfl; have hw41 : w12.cell? ⟨g4, 1, none⟩ = some (.slice none 0 0) := (blk_cell HF4.out 1).trans rfl; have hw42 : w12.cell? ⟨g4, 2, none⟩ = some (.slice none 0 0) := (blk_cell HF4.out 2).trans rfl; have hw43 : w12.cell? ⟨g4, 3, none⟩ = some (.slice none 0 0) := (blk_cell HF4.out 3).trans rfl; have hz40 := blk_frozen HF4.out 0; have hz41 := blk_frozen HF4.out 1; have hz42 := blk_frozen HF4.out 2; have hz43 := blk_frozen HF4.out 3))
   have hk0 : (((w12.setCell ⟨g4, 0, none⟩ (.int .i64 r1)).setCell ⟨g4, 1, none⟩ (.slice Av1 r2.length cv1)).setCell ⟨g4, 2, none⟩ (.slice Av2 r3.length cv2)).setCell ⟨g4, 3, none⟩ (.slice Av3 r4.length cv3) |>.heap[w7.heap.size]? = some (.deferred (some [])) := by
     rw [Below.heap_setCell _ _ _ _ (by show w7.heap.size ≠ g4; have := blk_lt BK4.out; omega), Below.heap_setCell _ _ _ _ (by show w7.heap.size ≠ g4; have := blk_lt BK4.out; omega), Below.heap_setCell _ _ _ _ (by show w7.heap.size ≠ g4; have := blk_lt BK4.out; omega), Below.heap_setCell _ _ _ _ (by show w7.heap.size ≠ g4; have := blk_lt BK4.out; omega)]
     exact hK1.out
   refine ⟨by simp, .inl ⟨_, _, rfl, run_takeDeferred hk0, ?_⟩⟩
   have hc4 : (((w12.setCell ⟨g4, 0, none⟩ (.int .i64 r1)).setCell ⟨g4, 1, none⟩ (.slice Av1 r2.length cv1)).setCell ⟨g4, 2, none⟩ (.slice Av2 r3.length cv2)).setCell ⟨g4, 3, none⟩ (.slice Av3 r4.length cv3) |>.heap[g4]? = some (.cells #[.int .i64 r1, .slice Av1 r2.length cv1, .slice Av2 r3.length cv2, .slice Av3 r4.length cv3] 29 (0, 0)) := by
     refine blk_put (cs := #[.int .i64 r1, .slice Av1 r2.length cv1, .slice Av2 r3.length cv2, .slice none 0 0]) ?_ 3 _ rfl; refine blk_put (cs := #[.int .i64 r1, .slice Av1 r2.length cv1, .slice none 0 0, .slice none 0 0]) ?_ 2 _ rfl; refine blk_put (cs := #[.int .i64 r1, .slice none 0 0, .slice none 0 0, .slice none 0 0]) ?_ 1 _ rfl; refine blk_put (cs := #[.int .i64 0, .slice none 0 0, .slice none 0 0, .slice none 0 0]) ?_ 0 _ rfl; exact HF4.out
   exact ⟨_, results_cell_row rfl _ _ g4 29 #[.int .i64 r1, .slice Av1 r2.length cv1, .slice Av2 r3.length cv2, .slice Av3 r4.length cv3] (0, 0) _ rfl ((World.putObj_heap_other (by have := blk_lt BK4.out; omega)).trans hc4) Tryz.underlying29 rfl (by kernel_rfl), _, _, _, rfl, Kd.R_lower (XR.R_farP (XR.R_far (XR.R_far (XR.R_far (XR.R_far hv1 hlt4) hlt4) hlt4) hlt4) hltK) hbase, Kd.R_lower (XR.R_farP (XR.R_far (XR.R_far (XR.R_far (XR.R_far hv2 hlt4) hlt4) hlt4) hlt4) hltK) hbase, Kd.R_lower (XR.R_farP (XR.R_far (XR.R_far (XR.R_far (XR.R_far hv3 hlt4) hlt4) hlt4) hlt4) hltK) hbase, XR.below_putObj (by repeat (first | exact HBW.out | refine below_set ?_ GE4.out)) (by have := HB.out.size; omega) (Array.getElem?_eq_some_iff.1 hk0).1 _⟩
 case stop =>
   rintro c pre W _ h _
   exact h.elim
end
/-! ### words_Less_1: function 108 -/
def words_Less_1.f (a0 : Int) (a1 : Int) : Option (Int) := some (Go.bits .andNot .i64 a0 a1)
set_option maxHeartbeats 8000000 in
set_option maxRecDepth 100000 in
theorem words_Less_1.calls (a0 : Int) (a1 : Int) (r : Int) (w : World) (h : words_Less_1.f a0 a1 = some r) :
  Calls Tryz.prog 108 #[.int .i64 a0, .int .i64 a1] w fun e w' => e = .returned (.int .i64 r) ∧ Drawn0 w w' := by
 have H := h
 clear h
 unfold words_Less_1.f at H
 obtain rfl := Option.some.inj H
 go_enter Tryz.func108, Tryz.ntmps108
 go_wp2
 go_ret
 exact ⟨by rfl, by repeat (exact Drawn0.refl _)⟩
/-! ### words_both_1: function 126 -/
def words_both_1.f (l0 : List Int) (a1 : Int) : Option (Int) := if a1 < (l0.length : Int) then (if 0 ≤ a1 then (some (rd l0 a1)) else (none)) else (some 0)
set_option maxHeartbeats 8000000 in
set_option maxRecDepth 100000 in
theorem words_both_1.calls (A0 : Option Addr) (c0 : Nat) (l0 : List Int) (a1 : Int) (r : Int) (w : World) (hr0 : Kd.C (Kd.int .i64) w A0 l0.length l0) (hc0 : l0.length ≤ c0) (h : words_both_1.f l0 a1 = some r) :
  Calls Tryz.prog 126 #[.slice A0 l0.length c0, .int .i64 a1] w fun e w' => e = .returned (.int .i64 r) ∧ Drawn0 w w' := by
 have HR0 := Aside0.mk hr0
 have HC0 := Aside0.mk hc0
 clear hr0 hc0
 have H := h
 clear h
 unfold words_both_1.f at H
 replace H := ifd H
 rcases H with ⟨-, c3b0, H⟩ | ⟨-, c3b0, H⟩
 ·replace H := ifn H
  obtain ⟨-, c4b0, H⟩ := H
  obtain rfl := Option.some.inj H
  have p258 : 0 ≤ (a1 : Int) := ad
  have q258 : a1 < (l0.length : Int) := ad
  obtain ⟨ad258, e258, hx258_0⟩ := Kd.at_int HR0.out a1 p258 q258
  cases e258
  replace p258 := eq_true p258
  replace q258 := eq_true q258
  go_enter Tryz.func126, Tryz.ntmps126
  go_wp2
  go_ret
  exact ⟨by rfl, by repeat (exact Drawn0.refl _)⟩
 ·obtain rfl := Option.some.inj H
  go_enter Tryz.func126, Tryz.ntmps126
  go_wp2
  go_ret
  exact ⟨by rfl, by repeat (exact Drawn0.refl _)⟩
/-! ### words_trimmed: function 127 -/
def words_trimmed.l0 : Nat → List Int → Option (List Int)
 | 0, _ => none
 | k + 1, x0 => if (x0.length : Int) > 0 then (if 0 ≤ (wrap64 ((x0.length : Int) - 1)) then (if (wrap64 ((x0.length : Int) - 1)) < (x0.length : Int) then (if (rd x0 (wrap64 ((x0.length : Int) - 1))) = 0 then (if (wrap64 ((x0.length : Int) - 1)) ≤ (x0.length : Int) then (words_trimmed.l0 k (x0.take ((wrap64 ((x0.length : Int) - 1)) : Int).toNat)) else (none)) else (some x0)) else (none)) else (none)) else (some x0)
def words_trimmed.f (k : Nat) (l0 : List Int) : Option (List Int) := words_trimmed.l0 k l0
theorem words_trimmed.l0_succ (k) (a0) : type_of% (@words_trimmed.l0.eq_2 a0 k) := words_trimmed.l0.eq_2 a0 k
set_option maxHeartbeats 8000000 in
set_option maxRecDepth 100000 in
theorem words_trimmed.calls (k : Nat) (P0_ : Nat → Prop) (A0 : Option Addr) (c0 : Nat) (l0 : List Int) (r : List Int) (w : World) (hs0 : Kd.V (Kd.int .i64) 3 w w.heap.size (fun k_ => P0_ k_) (.slice A0 l0.length c0) l0) (h : words_trimmed.f k l0 = some r) :
  Calls Tryz.prog 127 #[.slice A0 l0.length c0] w fun e w' => ∃ v0_ : Value, e = .returned (v0_) ∧ Kd.V (Kd.int .i64) 3 w' w.heap.size (fun k_ => (P0_ k_ ∨ w.heap.size ≤ k_)) v0_ r ∧ Below w.heap.size w w' := by
 have HO0 := Aside0.mk (show Kd.V (Kd.int .i64) 3 w w.heap.size (fun k_ => (P0_ k_ ∨ w.heap.size ≤ k_)) (.slice A0 l0.length c0) l0 from Kd.V_mono hs0 (fun k_ hk => .inl hk))
 have HB := Aside0.mk (Below.refl w.heap.size w)
 have H := h
 clear h
 unfold words_trimmed.f at H
 have H' := Aside0.mk H
 clear H
 go_enter Tryz.func127, Tryz.ntmps127
 go_wp2
 go_loopg [0] k (fun kq v0 w' => ∃ (x0_1 : List Int), Aside0 (words_trimmed.l0 kq x0_1 = some r) ∧ Aside0 (kq ≤ k) ∧ Aside0 (Kd.V (Kd.int .i64) 3 w' w.heap.size (fun k_ => (P0_ k_ ∨ w.heap.size ≤ k_)) v0 x0_1) ∧ Aside0 (Below w.heap.size w w'))
 case atStart => exact ⟨(l0), H', ⟨Nat.le_refl _⟩, ⟨by exact HO0.out⟩, ⟨bh HB.out⟩⟩
 case round =>
  clear H'
  obtain ⟨x0_1, HA, HK1, HO_0, HB⟩ := hrel
  cases gk with
  | zero => exact absurd HA.out (by simp [words_trimmed.l0])
  | succ k1 =>
   have H := HA.out
   clear HA
   simp only [words_trimmed.l0] at H
   replace H := ifd H
   rcases H with ⟨c2, c2b0, H⟩ | ⟨c2, c2b0, H⟩
   ·have c2b1 : decide (0 < x0_1.length) = true := decide_eq_true (by omega)
    clear c2
    obtain ⟨ji3, hji3⟩ : ∃ j_ : Int, (wrap64 ((x0_1.length : Int) - 1)) = j_ := ⟨_, rfl⟩
    replace H : (if 0 ≤ (ji3) then (if (ji3) < (x0_1.length : Int) then (if (rd x0_1 (ji3)) = 0 then (if (ji3) ≤ (x0_1.length : Int) then (words_trimmed.l0 k1 (x0_1.take ((ji3) : Int).toNat)) else (none)) else (some x0_1)) else (none)) else (none)) = some r := by (rw [hji3] at H; exact H)
    have hji3w : (IntKind.i64.wrap ((x0_1.length : Int) - 1)) = ji3 := (i64_w _).trans hji3
    replace H := ifn H
    obtain ⟨-, c4b0, H⟩ := H
    replace H := ifn H
    obtain ⟨-, c5b0, H⟩ := H
    replace H := ife H
    rcases H with ⟨-, c6b0, c6b1, H⟩ | ⟨c6, c6b0, c6b1, H⟩
    ·have c7b0 := eq_true (of_decide_eq_true (by assumption) : 0 ≤ (ji3))
     replace H := ifn H
     obtain ⟨c8, -, H⟩ := H
     have c8b0 := eq_true c8
     have c8b1 : decide ((ji3) ≤ (x0_1.length : Int)) = true := decide_eq_true c8
     clear c8
     obtain ⟨y260, hy260⟩ : ∃ y_ : List Int, y_ = (x0_1.take ((ji3) : Int).toNat) := ⟨_, rfl⟩
     replace H : (words_trimmed.l0 k1 y260) = some r := by (rw [hy260]; with_reducible exact H)
     have Ny260 := Aside0.mk hy260
     clear hy260
     have H' := Aside0.mk H
     clear H
     obtain ⟨Ao9, co9, eo9⟩ := Kd.V_slice HO_0.out
     subst eo9
     have p259 : 0 ≤ ((ji3) : Int) := ad
     have q259 : (ji3) < (x0_1.length : Int) := ad
     obtain ⟨ad259, e259, hx259_0⟩ := Kd.at_int (Kd.V_reads' HO_0.out).2.2 (ji3) p259 q259
     cases e259
     replace p259 := eq_true p259
     replace q259 := eq_true q259
     have q10 : ((ji3) : Int) ≤ ((x0_1.length : Int) : Int) := ad
     obtain ⟨i010, hi010, _, hsz10, _⟩ := info_parts info3
     have hroom10 : x0_1.length ≤ co9 := (Kd.V_reads' HO_0.out).2.1
     have hC10 : Kd.F (Kd.int .i64) _ _ (some ad259) x0_1.length x0_1 := (Kd.V_at (base := w.heap.size) HO_0.out).2.2
     have hcut10 := cut_to (P := Tryz.prog) 27 3 .i64 Tryz.underlying27 hi010 (some ad259) x0_1.length co9 (ji3) (of_decide_eq_true (by assumption)) q10 hroom10
     have hr10 := Kd.F_take (m := ((ji3) : Int).toNat) hC10 (by omega)
     have hy10 : y260.length = ((ji3) : Int).toNat := (by rw [Ny260.out, List.length_take]; omega)
     rw [← Ny260.out] at hr10
     rw [← hy10] at hcut10
     have HO264 := Aside0.mk (show Kd.V (Kd.int .i64) 3 _ w.heap.size _ (.slice (some ad259) y260.length co9) y260 from Kd.V_mk (by omega) hr10)
     have HC264 := Aside0.mk (show y260.length ≤ co9 from by omega)
     clear hr10 hC10 hroom10 hi010 hsz10
     have KY10 := Aside0.mk hy10
     clear hy10
     replace q10 := eq_true q10
     go_wp2
     go_roundg k1
     case measure => have := HK1.out; omega
     case rel => exact ⟨(y260), (by exact H'), ⟨by have := HK1.out; omega⟩, ⟨by exact HO264.out⟩, ⟨bh HB.out⟩⟩
    ·obtain rfl := Option.some.inj H
     obtain ⟨Ao11, co11, eo11⟩ := Kd.V_slice HO_0.out
     subst eo11
     have p259 : 0 ≤ ((ji3) : Int) := ad
     have q259 : (ji3) < (x0_1.length : Int) := ad
     obtain ⟨ad259, e259, hx259_0⟩ := Kd.at_int (Kd.V_reads' HO_0.out).2.2 (ji3) p259 q259
     cases e259
     replace p259 := eq_true p259
     replace q259 := eq_true q259
     go_wp2
     go_ret
     exact ⟨_, by rfl, by exact HO_0.out, bh HB.out⟩
   ·have c2b1 : decide (0 < x0_1.length) = false := decide_eq_false (by omega)
    clear c2
    obtain rfl := Option.some.inj H
    obtain ⟨Ao12, co12, eo12⟩ := Kd.V_slice HO_0.out
    subst eo12
    go_wp2
    go_ret
    exact ⟨_, er, by exact HO_0.out, bh HB.out⟩
/-! ### words_both_fn108: function 107 -/
mutual
def words_both_fn108.j0 : Nat → List Int → List Int → Bool → Option (List Int × Int)
 | 0, _, _, _ => none
 | k + 1, x0, x1, x18 => if x18 = true then (some (([] : List Int), 1)) else (if 0 ≤ (mx (x0.length : Int) (x1.length : Int)) then (if (mx (x0.length : Int) (x1.length : Int) : Int).toNat ≤ 35184372088832 then ((some (List.replicate (mx (x0.length : Int) (x1.length : Int) : Int).toNat 0 : List Int)).bind fun y267 => (words_both_fn108.l0 k x0 x1 y267 (y267.length : Int) 0)) else (none)) else (none))
def words_both_fn108.l0 : Nat → List Int → List Int → List Int → Int → Int → Option (List Int × Int)
 | 0, _, _, _, _, _ => none
 | k + 1, x0, x1, x9, x26, x27 => if x27 < x26 then ((words_both_1.f x0 x27).bind fun t270 => ((words_both_1.f x1 x27).bind fun t271 => ((words_Less_1.f t270 t271).bind fun t272 => (if 0 ≤ x27 then (if x27 < (x9.length : Int) then (words_both_fn108.l0 k x0 x1 (x9.set (x27 : Int).toNat t272) x26 (wrap64 (x27 + 1))) else (none)) else (none))))) else ((words_trimmed.f k x9).bind fun t274 => (some (t274, 0)))
end
def words_both_fn108.f (k : Nat) (l0 : List Int) (l1 : List Int)  : Option (List Int × Int) := (words_May.f l0).bind fun t265 => (if t265 = true then ((words_May.f l1).bind fun t266 => (words_both_fn108.j0 k l0 l1 (!t266))) else (words_both_fn108.j0 k l0 l1 true))
theorem words_both_fn108.j0_succ (k) (a0) (a1) (a2) : type_of% (@words_both_fn108.j0.eq_2 a0 a1 a2 k) := words_both_fn108.j0.eq_2 a0 a1 a2 k
theorem words_both_fn108.l0_succ (k) (a0) (a1) (a2) (a3) (a4) : type_of% (@words_both_fn108.l0.eq_2 a0 a1 a2 a3 a4 k) := words_both_fn108.l0.eq_2 a0 a1 a2 a3 a4 k
set_option maxHeartbeats 8000000 in
set_option maxRecDepth 100000 in
theorem words_both_fn108.calls (k : Nat) (A0 : Option Addr) (c0 : Nat) (l0 : List Int) (A1 : Option Addr) (c1 : Nat) (l1 : List Int)  (r1 : List Int) (r2 : Int) (w : World) (hr0 : Kd.C (Kd.int .i64) w A0 l0.length l0) (hc0 : l0.length ≤ c0) (hr1 : Kd.C (Kd.int .i64) w A1 l1.length l1) (hc1 : l1.length ≤ c1) (h : words_both_fn108.f k l0 l1 = some (r1, r2)) :
  Calls Tryz.prog 107 #[.slice A0 l0.length c0, .slice A1 l1.length c1, .func (.func 108) #[] #[]] w fun e w' => ∃ v0_ : Value, e = .returned (.tuple #[v0_, .int .i64 r2]) ∧ Kd.V (Kd.int .i64) 3 w' w.heap.size (fun k_ => (w.heap.size ≤ k_)) v0_ r1 ∧ Below w.heap.size w w' := by
 have HR0 := Aside0.mk hr0
 have HC0 := Aside0.mk hc0
 clear hr0 hc0
 have HR1 := Aside0.mk hr1
 have HC1 := Aside0.mk hc1
 clear hr1 hc1
 have HB := Aside0.mk (Below.refl w.heap.size w)
 have H := h
 clear h
 unfold words_both_fn108.f at H
 have HC4 := Aside0.mk H
 clear H
 go_enter Tryz.func107, Tryz.ntmps107
 go_upto_region 1 with (fail)
 go_cut [18] (fun v18 wc => ∃ (kq : Nat) (x18_3 : Bool), v18 = .bool x18_3 ∧ Aside0 (words_both_fn108.j0 kq l0 l1 x18_3 = some (r1, r2)) ∧ Aside0 (kq ≤ k) ∧ Aside0 (Below w.heap.size w wc))
 case first =>
  have H := HC4.out
  clear HC4
  replace H := bd H
  obtain ⟨t265, A5, H⟩ := H
  replace H := ifb H
  rcases H with ⟨rfl, H⟩ | ⟨rfl, H⟩
  ·replace H := bd H
   obtain ⟨t266, A7, H⟩ := H
   have H' := Aside0.mk H
   clear H
   go_wp2_with (first | ((with_reducible refine gate_callee (f := 70) rfl ?_); refine gL 12 Tryz.func70 #[.slice A0 l0.length c0] ?_; (with_reducible refine (words_May.calls _ _ l0 true _ ?side1 ?side2 A5.out).mono ?_); (case side1 => exact cx (Kd.C_below HR0.out HB.out)); (case side2 => exact HC0.out); rintro e w' ⟨rfl, ⟨nd, rfl⟩⟩; refine ⟨_, rfl, ?_⟩) | (go_at_call 70; (with_reducible refine (words_May.calls _ _ l1 t266 _ ?side1 ?side2 A7.out).mono ?_); (case side1 => repeat (exact (Kd.C_below HR1.out (bh HB.out)))); (case side2 => exact HC1.out); rintro e w' ⟨rfl, ⟨nd, rfl⟩⟩; clear A7))
   go_meet
   case rel => exact ⟨_, (!t266), (by rfl), H', ⟨by omega⟩, ⟨bh HB.out⟩⟩
  ·have H' := Aside0.mk H
   clear H
   go_wp2_with (((with_reducible refine gate_callee (f := 70) rfl ?_); refine gL 12 Tryz.func70 #[.slice A0 l0.length c0] ?_; (with_reducible refine (words_May.calls _ _ l0 false _ ?side1 ?side2 A5.out).mono ?_); (case side1 => exact cx (Kd.C_below HR0.out HB.out)); (case side2 => exact HC0.out); rintro e w' ⟨rfl, ⟨nd, rfl⟩⟩; refine ⟨_, rfl, ?_⟩))
   go_meet
   case rel => exact ⟨_, (true), (by rfl), H', ⟨by omega⟩, ⟨bh HB.out⟩⟩
 case rest =>
  clear HC4
  obtain ⟨kq, x18_3, rfl, HA, HJ3, HB⟩ := hcut
  cases kq with
  | zero => exact absurd HA.out (by simp [words_both_fn108.j0])
  | succ kj3 =>
   have H := HA.out
   clear HA
   simp only [words_both_fn108.j0] at H
   replace H := ifb H
   rcases H with ⟨rfl, H⟩ | ⟨rfl, H⟩
   ·simp only [Option.some.injEq, Prod.mk.injEq] at H
    obtain ⟨rfl, rfl⟩ := H
    go_wp2
    go_ret2
    exact ⟨_, er, Kd.V_nil _ _ _ _ _, bh HB.out⟩
   ·obtain ⟨ji9, hji9⟩ : ∃ j_ : Int, (mx (l0.length : Int) (l1.length : Int)) = j_ := ⟨_, rfl⟩
    replace H : (if 0 ≤ (ji9) then (if (ji9 : Int).toNat ≤ 35184372088832 then ((some (List.replicate (ji9 : Int).toNat 0 : List Int)).bind fun y267 => (words_both_fn108.l0 kj3 l0 l1 y267 (y267.length : Int) 0)) else (none)) else (none)) = some (r1, r2) := by (rw [hji9] at H; exact H)
    have hji9_ : (if (l0.length : Int) < (l1.length : Int) then (l1.length : Int) else (l0.length : Int)) = ji9 := hji9
    have hji9n_ := hji9_
    (simp only [Int.ofNat_lt] at hji9n_)
    replace H := ifn H
    obtain ⟨c10, -, H⟩ := H
    have c10b0 := eq_true c10
    have c10b1 : decide (0 ≤ (ji9)) = true := decide_eq_true c10
    clear c10
    replace H := ifn H
    obtain ⟨c11, -, H⟩ := H
    have c11b0 := eq_true c11
    have c11b1 : decide ((ji9 : Int).toNat ≤ 35184372088832) = true := decide_eq_true c11
    clear c11
    obtain ⟨y267, hy267⟩ : ∃ y_ : List Int, y_ = (List.replicate (ji9 : Int).toNat 0) := ⟨_, rfl⟩
    replace H : (words_both_fn108.l0 kj3 l0 l1 y267 (y267.length : Int) 0) = some (r1, r2) := by (have H2_ := (Option.bind_some _ _).symm.trans H; rw [hy267]; with_reducible exact H2_)
    have Ny267 := Aside0.mk hy267
    clear hy267
    have H' := Aside0.mk H
    clear H
    go_wp2_with (((with_reducible refine gate_dst (N := 24) rfl ?_); refine Kd.R_make (Kd.int .i64) _ 3 rfl (N := 24) rfl 27 _ _ rfl ji9 (by rfl) (by rfl) Tryz.underlying27 (.int .i64 0) 8 info3 rfl (by decide) (by omega) 0 (ok := fun _ => True) (okp := fun _ => True) rfl (fun _ hk => hk) trivial (of_decide_eq_true (by assumption)) (Nat.le_trans (Nat.mul_le_mul_right _ (of_decide_eq_true (by assumption) : ji9.toNat ≤ 35184372088832)) (by omega)) (Below.refl _ _) (Nat.le_refl _) ?_; intro v268 w12 ho13 hb hg_ hnew_; clear hg_ hnew_; (rw [← Ny267.out] at ho13); have HO269 := Aside0.mk (Kd.R_lower (Kd.R_newM (M := fun k_ => (w.heap.size ≤ k_)) ho13 (below_size (bh HB.out)) (fun k_ h_ => h_)) (below_size (bh HB.out))); replace HB := bsa HB hb; clear hb ho13; obtain ⟨Ao14, co14, eo14⟩ := Kd.R_slice HO269.out; subst eo14))
    go_loopg [27] kj3 (fun kq v27 w' => ∃ (x9_2 : List Int) (x27_2 : Int), v27 = .int .i64 x27_2 ∧ Aside0 (words_both_fn108.l0 kq l0 l1 x9_2 (y267.length : Int) x27_2 = some (r1, r2)) ∧ Aside0 (kq ≤ kj3) ∧ Aside0 (Kd.R (Kd.int .i64) 3 w' w.heap.size (fun k_ => (w.heap.size ≤ k_)) (.slice Ao14 y267.length co14) x9_2) ∧ Aside0 (Below w.heap.size w w'))
    case atStart => exact ⟨(y267), (0), (by rfl), H', ⟨Nat.le_refl _⟩, ⟨by exact Kd.R_mono HO269.out (fun _ hk => hk.1)⟩, ⟨bh HB.out⟩⟩
    case round =>
     clear H' c10b0 c10b1 c11b0 c11b1
     obtain ⟨x9_2, x27_2, rfl, HA, HK2, HO_9, HB⟩ := hrel
     have hl9_2 := (Kd.R_reads' HO_9.out).1
     rw [hl9_2] at HO_9
     (simp only [hl9_2])
     cases gk with
     | zero => exact absurd HA.out (by simp [words_both_fn108.l0])
     | succ k2 =>
      have H := HA.out
      clear HA
      simp only [words_both_fn108.l0] at H
      replace H := ifd H
      rcases H with ⟨c15, c15b0, H⟩ | ⟨c15, c15b0, H⟩
      ·((have c15b0l := c15b0; simp only [hl9_2] at c15b0l))
       clear c15
       replace H := bd H
       obtain ⟨t270, A16, H⟩ := H
       replace H := bd H
       obtain ⟨t271, A17, H⟩ := H
       replace H := bd H
       obtain ⟨t272, A18, H⟩ := H
       replace H := ifn H
       obtain ⟨-, c19b0, H⟩ := H
       replace H := ifn H
       obtain ⟨-, c20b0, H⟩ := H
       obtain ⟨y273, hy273⟩ : ∃ y_ : List Int, y_ = (x9_2.set (x27_2 : Int).toNat t272) := ⟨_, rfl⟩
       replace H : (words_both_fn108.l0 k2 l0 l1 y273 (y267.length : Int) (wrap64 (x27_2 + 1))) = some (r1, r2) := by (rw [hy273]; with_reducible exact H)
       have Ny273 := Aside0.mk hy273
       clear hy273
       have H' := Aside0.mk H
       clear H
       go_wp2_with (first | ((with_reducible refine gate_list ?_); refine gate_value rfl ?_; refine goesV_ (some 36) rfl rfl Tryz.func126 (by kernel_rfl) rfl #[.slice A0 l0.length c0, .int .i64 x27_2] rfl (by rfl) (by (simp only [List.map_toArray, List.map_cons, List.map_nil]); rfl) ?_; (with_reducible refine (words_both_1.calls _ _ l0 x27_2 t270 _ ?side1 ?side2 A16.out).mono ?_); (case side1 => exact cx (Kd.C_below HR0.out HB.out)); (case side2 => exact HC0.out); rintro e w' ⟨rfl, ⟨nd, rfl⟩⟩; refine ⟨_, rfl, ?_⟩; ((rw [drewN_self wr]; generalize hq_ : World.drewN wr _ = wr; have n0_ : Aside0 (Kd.R (Kd.int .i64) 3 wr w.heap.size (fun k_ => (w.heap.size ≤ k_)) (.slice Ao14 x9_2.length co14) x9_2) := ⟨by rw [← hq_]; exact (rx HO_9.out)⟩; have n1_ : Aside0 (Below w.heap.size w wr) := ⟨by rw [← hq_]; exact (bh HB.out)⟩; clear HO_9 HB hq_; have HO_9 := n0_; have HB := n1_; clear n0_ n1_))) | ((with_reducible refine gate_list ?_); refine gate_value rfl ?_; refine goesV_ (some 40) rfl rfl Tryz.func126 (by kernel_rfl) rfl #[.slice A1 l1.length c1, .int .i64 x27_2] rfl (by rfl) (by (simp only [List.map_toArray, List.map_cons, List.map_nil]); rfl) ?_; (with_reducible refine (words_both_1.calls _ _ l1 x27_2 t271 _ ?side1 ?side2 A17.out).mono ?_); (case side1 => exact cx (Kd.C_below HR1.out HB.out)); (case side2 => exact HC1.out); rintro e w' ⟨rfl, ⟨nd, rfl⟩⟩; refine ⟨_, rfl, ?_⟩; ((rw [drewN_self wr]; generalize hq_ : World.drewN wr _ = wr; have n0_ : Aside0 (Kd.R (Kd.int .i64) 3 wr w.heap.size (fun k_ => (w.heap.size ≤ k_)) (.slice Ao14 x9_2.length co14) x9_2) := ⟨by rw [← hq_]; exact (rx HO_9.out)⟩; have n1_ : Aside0 (Below w.heap.size w wr) := ⟨by rw [← hq_]; exact (bh HB.out)⟩; clear HO_9 HB hq_; have HO_9 := n0_; have HB := n1_; clear n0_ n1_))) | ((with_reducible refine gate_list ?_); refine gate_value rfl ?_; refine goesV_ (some 41) rfl rfl Tryz.func108 (by kernel_rfl) rfl #[.int .i64 t270, .int .i64 t271] rfl (by rfl) (by (simp only [List.map_toArray, List.map_cons, List.map_nil]); rfl) ?_; (with_reducible refine (words_Less_1.calls t270 t271 t272 _ A18.out).mono ?_); rintro e w' ⟨rfl, ⟨nd, rfl⟩⟩; refine ⟨_, rfl, ?_⟩; ((rw [drewN_self wr]; generalize hq_ : World.drewN wr _ = wr; have n0_ : Aside0 (Kd.R (Kd.int .i64) 3 wr w.heap.size (fun k_ => (w.heap.size ≤ k_)) (.slice Ao14 x9_2.length co14) x9_2) := ⟨by rw [← hq_]; exact (rx HO_9.out)⟩; have n1_ : Aside0 (Below w.heap.size w wr) := ⟨by rw [← hq_]; exact (bh HB.out)⟩; clear HO_9 HB hq_; have HO_9 := n0_; have HB := n1_; clear n0_ n1_)); have p21 : 0 ≤ (x27_2 : Int) := ad; have q21 : (x27_2 : Int) < ((x9_2.length : Int) : Int) := ad; obtain ⟨go21, co21, eo21, gb21, gl21, cl21, HG21⟩ := Kd.R_form HO_9.out (by omega); (cases eo21); have GB21 := Aside0.mk gb21; have GG21 := Aside0.mk HG21; clear gb21 gl21 HG21; obtain ⟨hx21_0, hf21_0⟩ := Kd.R_celln 0 HO_9.out (x27_2 : Int) p21 q21; replace p21 := eq_true p21; replace q21 := eq_true q21; obtain ⟨hy22_, hz22_⟩ := Kd.R_celln 0 HO_9.out (x27_2 : Int) (of_decide_eq_true (by assumption)) (of_decide_eq_true (by assumption)); have HP22 := Kd.R_putg HO_9.out (x27_2 : Int) t272) | ((with_reducible refine gate_store (t := 3) (p := 42) rfl ?_); refine stE 3 42 (wr.setCell ⟨go21, (x27_2 : Int).toNat, none⟩ (.int .i64 t272)) ?_; intro w23 hw; have hg : wr.grownBy w23 (some go21) := (by rw [hw]; exact HP22.2); have hp_ : Kd.R (Kd.int .i64) 3 w23 w.heap.size (fun k_ => (w.heap.size ≤ k_)) (.slice (some ⟨go21, 0, none⟩) x9_2.length co14) y273 := (by rw [hw, Ny273.out]; exact HP22.1); clear HP22; replace HO_9 := Aside0.mk (hp_); replace HB := Aside0.mk ((by rw [hw]; exact below_set (HB.out) GB21.out : Below w.heap.size w w23)); clear hg hw hp_))
       (simp only [← hl9_2])
       go_roundg k2
       case measure => have := HJ3.out; have := HK2.out; omega
       case rel => exact ⟨(y273), (wrap64 (x27_2 + 1)), (by rfl), (by exact H'), ⟨by have := HJ3.out; have := HK2.out; omega⟩, ⟨by (simp only [hl9_2]); exact HO_9.out⟩, ⟨bh HB.out⟩⟩
      ·((have c15b0l := c15b0; simp only [hl9_2] at c15b0l))
       clear c15
       replace H := bd H
       obtain ⟨t274, A24, H⟩ := H
       simp only [Option.some.injEq, Prod.mk.injEq] at H
       obtain ⟨rfl, rfl⟩ := H
       go_wp2_with (((with_reducible refine gate_callee (f := 127) rfl ?_); refine gL 45 Tryz.func127 #[.slice Ao14 x9_2.length co14] ?_; (with_reducible refine (words_trimmed.calls k2 (fun k_ => some k_ = (.slice Ao14 x9_2.length co14 : Value).ownBlock) _ _ x9_2 t274 _ ?side1 A24.out).mono ?_); (case side1 => exact Kd.R_V (Kd.R_tight rfl (HO_9.out))); rintro e w25 ⟨v275, rfl, ho0, hb⟩; refine ⟨_, rfl, ?_⟩; have HO276 := Aside0.mk (Kd.V_lower (Kd.V_mono (ok' := fun k_ => (w.heap.size ≤ k_)) ho0 (fun k_ hk_ => Or.elim hk_ (fun hs_ => ((HO_9.out).1 k_ hs_.symm)) (fun hn_ => (Nat.le_trans (below_size (bh HB.out)) hn_)))) (below_size (bh HB.out))); replace HO_9 := rba HO_9 hb; replace HB := bsa HB hb; clear hb ho0))
       go_ret2
       exact ⟨_, by rfl, by exact HO276.out, bh HB.out⟩
/-! ### words_Less: function 68 -/
def words_Less.f (k : Nat) (l0 : List Int) (l1 : List Int) : Option (List Int × Int) := (words_both_fn108.f k l0 l1).bind fun bt277 => (some (bt277.1, bt277.2))
set_option maxHeartbeats 8000000 in
set_option maxRecDepth 100000 in
theorem words_Less.calls (k : Nat) (A0 : Option Addr) (c0 : Nat) (l0 : List Int) (A1 : Option Addr) (c1 : Nat) (l1 : List Int) (r1 : List Int) (r2 : Int) (w : World) (hr0 : Kd.C (Kd.int .i64) w A0 l0.length l0) (hc0 : l0.length ≤ c0) (hr1 : Kd.C (Kd.int .i64) w A1 l1.length l1) (hc1 : l1.length ≤ c1) (h : words_Less.f k l0 l1 = some (r1, r2)) :
  Calls Tryz.prog 68 #[.slice A0 l0.length c0, .slice A1 l1.length c1] w fun e w' => ∃ v0_ : Value, e = .returned (.tuple #[v0_, .int .i64 r2]) ∧ Kd.V (Kd.int .i64) 3 w' w.heap.size (fun k_ => (w.heap.size ≤ k_)) v0_ r1 ∧ Below w.heap.size w w' := by
 have HR0 := Aside0.mk hr0
 have HC0 := Aside0.mk hc0
 clear hr0 hc0
 have HR1 := Aside0.mk hr1
 have HC1 := Aside0.mk hc1
 clear hr1 hc1
 have HB := Aside0.mk (Below.refl w.heap.size w)
 have H := h
 clear h
 unfold words_Less.f at H
 replace H := bd H
 obtain ⟨⟨t277, t280⟩, A3, H⟩ := H
 dsimp only at H
 simp only [Option.some.injEq, Prod.mk.injEq] at H
 obtain ⟨rfl, rfl⟩ := H
 go_enter Tryz.func68, Tryz.ntmps68
 go_wp2_with (((with_reducible refine gate_callee (f := 107) rfl ?_); refine gL 8 Tryz.func107 #[.slice A0 l0.length c0, .slice A1 l1.length c1, .func (.func 108) #[] #[]] ?_; (with_reducible refine (words_both_fn108.calls k _ _ l0 _ _ l1  t277 t280 _ ?side1 ?side2 ?side3 ?side4 A3.out).mono ?_); (case side1 => exact cx HR0.out); (case side2 => exact HC0.out); (case side3 => exact cx HR1.out); (case side4 => exact HC1.out); rintro e w4 ⟨v278, rfl, ho0, hb⟩; refine ⟨_, rfl, ?_⟩; have HO279 := Aside0.mk (Kd.V_lower (Kd.V_mono (ok' := fun k_ => (w.heap.size ≤ k_)) ho0 (fun k_ hk_ => (Nat.le_trans (below_size (bh HB.out)) hk_))) (below_size (bh HB.out))); replace HB := bsa HB hb; clear hb ho0))
 go_ret2
 exact ⟨_, er, by exact HO279.out, bh HB.out⟩
/-! ### span_Less_1: function 110 -/
def span_Less_1.f (a0_0 : Int) (a0_1 : Int) (a0_2 : Bool) (a0_3 : Bool) : Option (Bool) := if a0_2 = true then (some (!a0_3)) else (some false)
set_option maxHeartbeats 8000000 in
set_option maxRecDepth 100000 in
theorem span_Less_1.calls (a0_0 : Int) (a0_1 : Int) (a0_2 : Bool) (a0_3 : Bool) (r : Bool) (w : World) (h : span_Less_1.f a0_0 a0_1 a0_2 a0_3 = some r) :
  Calls Tryz.prog 110 #[.agg #[.int .i64 a0_0, .int .i64 a0_1, .bool a0_2, .bool a0_3]] w fun e w' => e = .returned (.bool r) ∧ Below w.heap.size w w' := by
 have hu147 := Tryz.underlying147
 have HB := Aside0.mk (Below.refl w.heap.size w)
 have H := h
 clear h
 unfold span_Less_1.f at H
 replace H := ifb H
 rcases H with ⟨rfl, H⟩ | ⟨rfl, H⟩
 ·obtain rfl := Option.some.inj H
  go_enter Tryz.func110, Tryz.ntmps110
  go_wp2_with (((with_reducible refine gate_dst (N := 1) rfl ?_); refine boxE HB 1 147 #[.int .i64 a0_0, .int .i64 a0_1, .bool true, .bool a0_3] ?_; clear HB; intro gb281 w3 BK281 GW281 hg hb HB; have GE281 := GW281; clear hb hg; obtain ⟨hcz4_0, hcz4_1, hcz4_2, hcz4_3, hfz4_0, hfz4_1, hfz4_2, hfz4_3⟩ := b4 BK281))
  go_ret
  exact ⟨er, bh HB.out⟩
 ·obtain rfl := Option.some.inj H
  go_enter Tryz.func110, Tryz.ntmps110
  go_wp2_with (((with_reducible refine gate_dst (N := 1) rfl ?_); refine boxE HB 1 147 #[.int .i64 a0_0, .int .i64 a0_1, .bool false, .bool a0_3] ?_; clear HB; intro gb281 w5 BK281 GW281 hg hb HB; have GE281 := GW281; clear hb hg; obtain ⟨hcz6_0, hcz6_1, hcz6_2, hcz6_3, hfz6_0, hfz6_1, hfz6_2, hfz6_3⟩ := b4 BK281))
  go_ret
  exact ⟨er, bh HB.out⟩
/-! ### span_edge: function 143 -/
def span_edge.f (a0_0 : Int) (a0_1 : Int) (a1 : Int) : Option (Int) := if a1 < a0_0 then (some a0_0) else (some a0_1)
set_option maxHeartbeats 8000000 in
set_option maxRecDepth 100000 in
theorem span_edge.calls (a0_0 : Int) (a0_1 : Int) (a1 : Int) (r : Int) (w : World) (h : span_edge.f a0_0 a0_1 a1 = some r) :
  Calls Tryz.prog 143 #[.agg #[.int .i64 a0_0, .int .i64 a0_1], .int .i64 a1] w fun e w' => e = .returned (.int .i64 r) ∧ Below w.heap.size w w' := by
 have hu70 := Tryz.underlying70
 have HB := Aside0.mk (Below.refl w.heap.size w)
 have H := h
 clear h
 unfold span_edge.f at H
 replace H := ifd H
 rcases H with ⟨-, c3b0, H⟩ | ⟨-, c3b0, H⟩
 ·obtain rfl := Option.some.inj H
  go_enter Tryz.func143, Tryz.ntmps143
  go_wp2_with (((with_reducible refine gate_dst (N := 2) rfl ?_); refine boxE HB 2 70 #[.int .i64 a0_0, .int .i64 a0_1] ?_; clear HB; intro gb282 w4 BK282 GW282 hg hb HB; have GE282 := GW282; clear hb hg; obtain ⟨hcz5_0, hcz5_1, hfz5_0, hfz5_1⟩ := b2 BK282))
  go_ret
  exact ⟨er, bh HB.out⟩
 ·obtain rfl := Option.some.inj H
  go_enter Tryz.func143, Tryz.ntmps143
  go_wp2_with (((with_reducible refine gate_dst (N := 2) rfl ?_); refine boxE HB 2 70 #[.int .i64 a0_0, .int .i64 a0_1] ?_; clear HB; intro gb282 w6 BK282 GW282 hg hb HB; have GE282 := GW282; clear hb hg; obtain ⟨hcz7_0, hcz7_1, hfz7_0, hfz7_1⟩ := b2 BK282))
  go_ret
  exact ⟨er, bh HB.out⟩
end Go.Proofs.YtdgphlkbmplbpaaGreat.Print
end
