-- Functions and laws: texts of the session's own and of the kit's print program, joined; what nothing names is left out.
import Derived.Test.YtfohecpfenegkaaQA
import Derived.Test.YtfohecpfenegkaaQB
import Derived.Ground.NamesProg
import Derived.Lib.SortBridge
import Derived.Shelf.Slices.In.SortNone
import Derived.Shelf.Sort.Plain
import Derived.Sort.EveryDepth
import Derived.Sort.OwnSortedInts
section
namespace Go.Proofs.Ytfohecpfenegkaa.Print
open Go.RowKit Go.Proofs.YtfohecpfenegkaaW.PrintWords Go.Proofs.YtfohecpfenegkaaW.PrintLast Go.Proofs.YtfohecpfenegkaaW.PrintMore
attribute [local go_sem] max2_int min2_int max_two min_two max_three min_three max_four min_four   -- for this text's walks alone
set_option linter.unusedVariables false
set_option linter.unusedSimpArgs false
/-! ### dict_flat_int: function 36 -/
def dict_flat_int.l0 : Nat → List Int → List Int → List Int → Int → Int → Option (List Int)
 | 0, _, _, _, _, _ => none
 | k + 1, x0, x5, x8, x9, x10 => if x10 < x9 then (if 0 ≤ x10 then (if x10 < (x8.length : Int) then (if 0 ≤ (rd x8 x10) then (if (rd x8 x10) < (x0.length : Int) then (if x5.length < 17592186044416 then (dict_flat_int.l0 k x0 (x5 ++ [rd x0 (rd x8 x10)]) x8 x9 (wrap64 (x10 + 1))) else (none)) else (none)) else (none)) else (none)) else (none)) else (some x5)
def dict_flat_int.f (k : Nat) (l0 : List Int) (l1 : List Int) : Option (List Int) := dict_flat_int.l0 k l0 ([] : List Int) l1 (l1.length : Int) 0
theorem dict_flat_int.l0_succ (k : Nat) (x0 : List Int) (x5 : List Int) (x8 : List Int) (x9 : Int) (x10 : Int) : dict_flat_int.l0 (k + 1) x0 x5 x8 x9 x10 = (if x10 < x9 then (if 0 ≤ x10 then (if x10 < (x8.length : Int) then (if 0 ≤ (rd x8 x10) then (if (rd x8 x10) < (x0.length : Int) then (if x5.length < 17592186044416 then (dict_flat_int.l0 k x0 (x5 ++ [rd x0 (rd x8 x10)]) x8 x9 (wrap64 (x10 + 1))) else (none)) else (none)) else (none)) else (none)) else (none)) else (some x5)) := by
 simp only [dict_flat_int.l0]
theorem dict_flat_int.mono_l : ∀ k, (∀ y0 y1 y2 y3 y4, LeO (dict_flat_int.l0 k y0 y1 y2 y3 y4) (dict_flat_int.l0 (k + 1) y0 y1 y2 y3 y4))
 | 0 => fun _ _ _ _ _ r h => by simp [dict_flat_int.l0] at h
 | k + 1 => by
  have ih0 := dict_flat_int.mono_l k
  ·intro y0 y1 y2 y3 y4
   unfold dict_flat_int.l0
   repeat' first
   | (with_reducible exact ih0 _ _ _ _ _)
   | (with_reducible exact LeO.refl _)
   | (with_reducible exact LeO.none _)
   | (with_reducible refine LeO.ite ?_ ?_)
   | (with_reducible refine LeO.bind ?_ (fun _ => ?_))
   | exact ih0 _ _ _ _ _
   | exact LeO.none _
   | refine LeO.ite ?_ ?_
   | refine LeO.bind ?_ (fun _ => ?_)
theorem dict_flat_int.mono : ∀ a0 a1 k, LeO (dict_flat_int.f k a0 a1) (dict_flat_int.f (k + 1) a0 a1) := by
 intro a0 a1 k
 have ih0 := dict_flat_int.mono_l k
 unfold dict_flat_int.f
 repeat' first
   | (with_reducible exact ih0 _ _ _ _ _)
   | (with_reducible exact LeO.refl _)
   | (with_reducible exact LeO.none _)
   | (with_reducible refine LeO.ite ?_ ?_)
   | (with_reducible refine LeO.bind ?_ (fun _ => ?_))
   | exact ih0 _ _ _ _ _
   | exact LeO.none _
   | refine LeO.ite ?_ ?_
   | refine LeO.bind ?_ (fun _ => ?_)
set_option maxHeartbeats 8000000 in
set_option maxRecDepth 100000 in
theorem dict_flat_int.calls (k : Nat) (A0 : Option Addr) (c0 : Nat) (l0 : List Int) (A1 : Option Addr) (c1 : Nat) (l1 : List Int) (r : List Int) (w : World) (hr0 : Kd.C (Kd.int .i64) w A0 l0.length l0) (hc0 : l0.length ≤ c0) (hr1 : Kd.C (Kd.int .i64) w A1 l1.length l1) (hc1 : l1.length ≤ c1) (h : dict_flat_int.f k l0 l1 = some r) :
  Calls Try.prog 36 #[.slice A0 l0.length c0, .slice A1 l1.length c1] w fun e w' => ∃ v0_ : Value, e = .returned (v0_) ∧ Kd.R (Kd.int .i64) 3 w' w.heap.size (fun _ => True) v0_ r ∧ Below w.heap.size w w' := by
 have HR0 := Aside0.mk hr0
 have HC0 := Aside0.mk hc0
 clear hr0 hc0
 have HR1 := Aside0.mk hr1
 have HC1 := Aside0.mk hc1
 clear hr1 hc1
 have HB := Aside0.mk (Below.refl w.heap.size w)
 have H : (dict_flat_int.l0 k l0 ([] : List Int) l1 (l1.length : Int) 0) = some r := h
 clear h
 have H' := Aside0.mk H
 clear H
 go_enter Try.func36, Try.ntmps36
 go_wp2
 go_loopg [5, 10] k (fun kq v5 v10 w' => ∃ (x5_1 : List Int) (x10_1 : Int), v10 = .int .i64 x10_1 ∧ Aside0 (dict_flat_int.l0 kq l0 x5_1 l1 (l1.length : Int) x10_1 = some r) ∧ Aside0 (kq ≤ k) ∧ Aside0 (Kd.R (Kd.int .i64) 3 w' w.heap.size (fun _ => True) v5 x5_1) ∧ Aside0 (Below w.heap.size w w'))
 case atStart => exact ⟨(([] : List Int)), (0), (by first | rfl | (simp; done) | (simp [*]; done)), H', ⟨Nat.le_refl _⟩, ⟨nl⟩, ⟨bh HB.out⟩⟩
 case round =>
  clear H'
  try clear c1
  obtain ⟨x5_1, x10_1, rfl, HA, HK1, HO_5, HB⟩ := hrel
  cases gk with
  | zero => exact absurd HA.out (by simp [dict_flat_int.l0])
  | succ k1 =>
   have H := HA.out
   clear HA
   simp only [dict_flat_int.l0] at H
   by_cases c3 : x10_1 < (l1.length : Int)
   ·rw [if_pos c3] at H
    have c3b0 : decide (x10_1 < (l1.length : Int)) = true := decide_eq_true c3
    clear c3
    by_cases c4 : 0 ≤ x10_1
    ·rw [if_pos c4] at H
     have c4b0 : decide (0 ≤ x10_1) = true := decide_eq_true c4
     clear c4
     by_cases c5 : x10_1 < (l1.length : Int)
     ·rw [if_pos c5] at H
      have c5b0 : decide (x10_1 < (l1.length : Int)) = true := decide_eq_true c5
      clear c5
      by_cases c6 : 0 ≤ (rd l1 x10_1)
      ·rw [if_pos c6] at H
       have c6b0 : decide (0 ≤ (rd l1 x10_1)) = true := decide_eq_true c6
       clear c6
       by_cases c7 : (rd l1 x10_1) < (l0.length : Int)
       ·rw [if_pos c7] at H
        have c7b0 : decide ((rd l1 x10_1) < (l0.length : Int)) = true := decide_eq_true c7
        clear c7
        by_cases c8 : x5_1.length < 17592186044416
        ·rw [if_pos c8] at H
         have LMc8 := Aside0.mk c8
         clear c8
         obtain ⟨y196, hy196⟩ : ∃ y_ : List Int, y_ = (x5_1 ++ [rd l0 (rd l1 x10_1)]) := ⟨_, rfl⟩
         replace H : (dict_flat_int.l0 k1 l0 y196 l1 (l1.length : Int) (wrap64 (x10_1 + 1))) = some r := by first | (rw [hy196]; with_reducible exact H) | (have H2_ := (Option.bind_some _ _).symm.trans H; rw [hy196]; with_reducible exact H2_) | (have H2_ := (Option.bind_some _ _).symm.trans H; with_reducible exact H2_) | with_reducible exact H | (rw [hy196]; exact H) | exact H
         have Ny196 := Aside0.mk hy196
         clear hy196
         have H' := Aside0.mk H
         clear H
         have p194 : 0 ≤ (x10_1 : Int) := of_decide_eq_true (by assumption)
         have q194 : x10_1 < (l1.length : Int) := of_decide_eq_true (by assumption)
         obtain ⟨ad194, e194, hx194_0⟩ := Kd.at_int HR1.out x10_1 p194 q194
         cases e194
         replace hx194_0 := (HB.out.cell (World.block_lt_of_cell? w _ hx194_0)).trans hx194_0
         replace p194 := eq_true p194
         replace q194 := eq_true q194
         have p195 : 0 ≤ ((rd l1 x10_1) : Int) := of_decide_eq_true (by assumption)
         have q195 : (rd l1 x10_1) < (l0.length : Int) := of_decide_eq_true (by assumption)
         obtain ⟨ad195, e195, hx195_0⟩ := Kd.at_int HR0.out (rd l1 x10_1) p195 q195
         cases e195
         replace hx195_0 := (HB.out.cell (World.block_lt_of_cell? w _ hx195_0)).trans hx195_0
         replace p195 := eq_true p195
         replace q195 := eq_true q195
         go_wp2_with (first | ((with_reducible refine gate_builtin (b := .append) (xs := #[.tmp 14, .tmp 19]) rfl ?_); at_builtin; refine Kd.R_append (Kd.int .i64) (w0 := w) w.heap.size rfl (.tmp 14) (.tmp 19) 25 3 (.int .i64 0) 8 rfl Try.underlying25 info3 rfl (by decide) (by omega) u5 x5_1 (rd l0 (rd l1 x10_1)) [.int .i64 (rd l0 (rd l1 x10_1))] (fun _ => True) (fun _ => False) rfl rfl ?aP (fun _ hk => hk.elim) ?aF ?aO ?aB ?aS ?aL ?_; (case aP => exact rfl); (case aB => exact (bh HB.out)); (case aF => exact (fun _ _ => trivial)); (case aO => exact (rx HO_5.out)); (case aS => exact (below_size (bh HB.out))); (case aL => have := LMc8.out; omega); intro v197 w9 ho hb hg hat; rw [← Ny196.out] at ho; have n0_ := Aside0.mk (hb); have n1_ := Aside0.mk (ho); clear HB HO_5; have HB := n0_; have HO198 := n1_; clear n0_ n1_; clear ho hb hg hat))
         go_roundg k1
         case measure => have := HK1.out; omega
         case rel => exact ⟨(y196), (wrap64 (x10_1 + 1)), (by first | rfl | (simp; done) | (simp [*]; done)), H', ⟨by have := HK1.out; omega⟩, ⟨by (with_reducible repeat (first | apply Kd.R_alloc | apply Kd.R_drewN | apply Kd.R_drew)); exact HO198.out⟩, ⟨bh HB.out⟩⟩
        ·rw [if_neg c8] at H
         exact absurd H (by simp)
       ·rw [if_neg c7] at H
        exact absurd H (by simp)
      ·rw [if_neg c6] at H
       exact absurd H (by simp)
     ·rw [if_neg c5] at H
      exact absurd H (by simp)
    ·rw [if_neg c4] at H
     exact absurd H (by simp)
   ·rw [if_neg c3] at H
    have c3b0 : decide (x10_1 < (l1.length : Int)) = false := decide_eq_false c3
    clear c3
    obtain rfl := Option.some.inj H
    go_wp2
    go_ret
    exact ⟨_, er, by (with_reducible repeat (first | apply Kd.R_alloc | apply Kd.R_drewN | apply Kd.R_drew)); exact HO_5.out, bh HB.out⟩
/-! ### dict_TakeInts: function 13 -/
def dict_TakeInts.f (k : Nat) (a0 : ByteArray) (a1 : Int) : Option (List Int × Int) := (dict_take_int_fn34.f k a0 a1).bind fun bt199 => (if bt199.2.2 = 0 then ((dict_flat_int.f k bt199.1 bt199.2.1).bind fun t206 => (some (t206, 0))) else (some (([] : List Int), bt199.2.2)))
theorem dict_TakeInts.mono : ∀ a0 a1 k, LeO (dict_TakeInts.f k a0 a1) (dict_TakeInts.f (k + 1) a0 a1) := by
 intro a0 a1 k
 unfold dict_TakeInts.f
 repeat' first
   | (with_reducible exact dict_flat_int.mono _ _ _)
   | (with_reducible exact dict_take_int_fn34.mono _ _ _)
   | (with_reducible exact LeO.refl _)
   | (with_reducible exact LeO.none _)
   | (with_reducible refine LeO.ite ?_ ?_)
   | (with_reducible refine LeO.bind ?_ (fun _ => ?_))
   | exact dict_flat_int.mono _ _ _
   | exact dict_take_int_fn34.mono _ _ _
   | exact LeO.none _
   | refine LeO.ite ?_ ?_
   | refine LeO.bind ?_ (fun _ => ?_)
set_option maxHeartbeats 8000000 in
set_option maxRecDepth 100000 in
theorem dict_TakeInts.calls (k : Nat) (a0 : ByteArray) (a1 : Int) (r1 : List Int) (r2 : Int) (w : World) (h : dict_TakeInts.f k a0 a1 = some (r1, r2)) :
  Calls Try.prog 13 #[.string a0, .int .i64 a1] w fun e w' => ∃ v0_ : Value, e = .returned (.tuple #[v0_, .int .i64 r2]) ∧ Kd.R (Kd.int .i64) 3 w' w.heap.size (fun _ => True) v0_ r1 ∧ Below w.heap.size w w' := by
 have HB := Aside0.mk (Below.refl w.heap.size w)
 have H : ((dict_take_int_fn34.f k a0 a1).bind fun bt199 => (if bt199.2.2 = 0 then ((dict_flat_int.f k bt199.1 bt199.2.1).bind fun t206 => (some (t206, 0))) else (some (([] : List Int), bt199.2.2)))) = some (r1, r2) := h
 clear h
 replace H := Option.bind_eq_some_iff.mp H
 obtain ⟨⟨t199, t202, t205⟩, A30, H⟩ := H
 replace H : (if t205 = 0 then ((dict_flat_int.f k t199 t202).bind fun t206 => (some (t206, 0))) else (some (([] : List Int), t205))) = some (r1, r2) := H
 have A3 := Aside0.mk A30
 clear A30
 by_cases c4 : t205 = 0
 ·rw [if_pos c4] at H
  have c4b0 : (t205 == 0) = true := beq_iff_eq.mpr c4
  have c4b1 : (t205 != 0) = false := bne_eq_false_iff_eq.mpr c4
  clear c4
  replace H := Option.bind_eq_some_iff.mp H
  obtain ⟨t206, A50, H⟩ := H
  replace H : (some (t206, 0)) = some (r1, r2) := H
  have A5 := Aside0.mk A50
  clear A50
  simp only [Option.some.injEq, Prod.mk.injEq] at H
  obtain ⟨rfl, rfl⟩ := H
  go_enter Try.func13, Try.ntmps13
  go_wp2_with (first | ((with_reducible refine gate_callee (f := 33) rfl ?_); refine goesL_ (some 12) rfl rfl Try.func33 (by kernel_rfl) rfl #[.string a0, .int .i64 a1, .func (.func 34) #[] #[]] rfl (by (try simp only [List.map_toArray, List.map_cons, List.map_nil]); first | done | rfl) ?_; (with_reducible refine (dict_take_int_fn34.calls k a0 a1  t199 t202 t205 _ A3.out).mono ?_); rintro e w6 ⟨v200, v203, rfl, ho0, ho1, hb⟩; refine ⟨_, rfl, ?_⟩; have HO201 := Aside0.mk (Kd.R_lower ho0 (below_size (bh HB.out))); have HO204 := Aside0.mk (Kd.R_lower ho1 (below_size (bh HB.out))); replace HB := bsa HB hb; (try clear hb); (try clear ho0); (try clear ho1); obtain ⟨Ao7, co7, eo7⟩ := Kd.R_slice HO201.out; subst eo7; obtain ⟨Ao8, co8, eo8⟩ := Kd.R_slice HO204.out; subst eo8) | ((with_reducible refine gate_callee (f := 36) rfl ?_); refine goesL_ (some 21) rfl rfl Try.func36 (by kernel_rfl) rfl #[.slice Ao7 t199.length co7, .slice Ao8 t202.length co8] rfl (by (try simp only [List.map_toArray, List.map_cons, List.map_nil]); first | done | rfl) ?_; (with_reducible refine (dict_flat_int.calls k _ _ t199 _ _ t202 t206 _ ?side1 ?side2 ?side3 ?side4 A5.out).mono ?_); (case side1 => exact cx (Kd.R_reads' HO201.out).2.2); (case side2 => exact (Kd.R_reads' HO201.out).2.1); (case side3 => exact cx (Kd.R_reads' HO204.out).2.2); (case side4 => exact (Kd.R_reads' HO204.out).2.1); rintro e w9 ⟨v207, rfl, ho0, hb⟩; refine ⟨_, rfl, ?_⟩; have HO208 := Aside0.mk (Kd.R_lower (Kd.R_new' (Kd.R_new' ho0 (Kd.R_lt (rx HO201.out))) (Kd.R_lt (rx HO204.out))) (below_size (bh HB.out))); replace HO201 := Aside0.mk (Kd.R_elder' (rx HO201.out) (Kd.R_base ho0) hb); replace HO204 := Aside0.mk (Kd.R_elder' (rx HO204.out) (Kd.R_base ho0) hb); replace HB := bsa HB hb; (try clear hb); (try clear ho0)))
  go_ret2
  exact ⟨_, er, by (with_reducible repeat (first | apply Kd.R_alloc | apply Kd.R_drewN | apply Kd.R_drew)); exact Kd.R_mono HO208.out (fun _ hk => trivial), bh HB.out⟩
 ·rw [if_neg c4] at H
  have c4b0 : (t205 == 0) = false := beq_eq_false_iff_ne.mpr c4
  have c4b1 : (t205 != 0) = true := bne_iff_ne.mpr c4
  simp only [Option.some.injEq, Prod.mk.injEq] at H
  obtain ⟨rfl, rfl⟩ := H
  go_enter Try.func13, Try.ntmps13
  go_wp2_with (first | ((with_reducible refine gate_callee (f := 33) rfl ?_); refine goesL_ (some 12) rfl rfl Try.func33 (by kernel_rfl) rfl #[.string a0, .int .i64 a1, .func (.func 34) #[] #[]] rfl (by (try simp only [List.map_toArray, List.map_cons, List.map_nil]); first | done | rfl) ?_; (with_reducible refine (dict_take_int_fn34.calls k a0 a1  t199 t202 t205 _ A3.out).mono ?_); rintro e w10 ⟨v200, v203, rfl, ho0, ho1, hb⟩; refine ⟨_, rfl, ?_⟩; have HO201 := Aside0.mk (Kd.R_lower ho0 (below_size (bh HB.out))); have HO204 := Aside0.mk (Kd.R_lower ho1 (below_size (bh HB.out))); replace HB := bsa HB hb; (try clear hb); (try clear ho0); (try clear ho1)))
  go_ret2
  exact ⟨_, er, nl, bh HB.out⟩
/-! ### peristyleref07_Same: function 18 -/
def peristyleref07_Same.l0 : Nat → List ByteArray → List ByteArray → Int → Option (Bool)
 | 0, _, _, _ => none
 | k + 1, x0, x1, x5 => if x5 < (x0.length : Int) then (if 0 ≤ x5 then (if x5 < (x1.length : Int) then (if (rdOf ByteArray.empty x0 x5).toList = (rdOf ByteArray.empty x1 x5).toList then (peristyleref07_Same.l0 k x0 x1 (wrap64 (x5 + 1))) else (some false)) else (none)) else (none)) else (some true)
def peristyleref07_Same.f (k : Nat) (l0 : List ByteArray) (l1 : List ByteArray) : Option (Bool) := if (l0.length : Int) = (l1.length : Int) then (peristyleref07_Same.l0 k l0 l1 0) else (some false)
theorem peristyleref07_Same.l0_succ (k : Nat) (x0 : List ByteArray) (x1 : List ByteArray) (x5 : Int) : peristyleref07_Same.l0 (k + 1) x0 x1 x5 = (if x5 < (x0.length : Int) then (if 0 ≤ x5 then (if x5 < (x1.length : Int) then (if (rdOf ByteArray.empty x0 x5).toList = (rdOf ByteArray.empty x1 x5).toList then (peristyleref07_Same.l0 k x0 x1 (wrap64 (x5 + 1))) else (some false)) else (none)) else (none)) else (some true)) := by
 simp only [peristyleref07_Same.l0]
set_option maxHeartbeats 8000000 in
set_option maxRecDepth 100000 in
theorem peristyleref07_Same.calls (k : Nat) (A0 : Option Addr) (c0 : Nat) (l0 : List ByteArray) (A1 : Option Addr) (c1 : Nat) (l1 : List ByteArray) (r : Bool) (w : World) (hr0 : Kd.C Kd.string w A0 l0.length l0) (hc0 : l0.length ≤ c0) (hr1 : Kd.C Kd.string w A1 l1.length l1) (hc1 : l1.length ≤ c1) (h : peristyleref07_Same.f k l0 l1 = some r) :
  Calls Try.prog 18 #[.slice A0 l0.length c0, .slice A1 l1.length c1] w fun e w' => e = .returned (.bool r) ∧ Drawn0 w w' := by
 have HR0 := Aside0.mk hr0
 have HC0 := Aside0.mk hc0
 clear hr0 hc0
 have HR1 := Aside0.mk hr1
 have HC1 := Aside0.mk hc1
 clear hr1 hc1
 have H : (if (l0.length : Int) = (l1.length : Int) then (peristyleref07_Same.l0 k l0 l1 0) else (some false)) = some r := h
 clear h
 by_cases c3 : (l0.length : Int) = (l1.length : Int)
 ·rw [if_pos c3] at H
  have c3b0 : ((l0.length : Int) == (l1.length : Int)) = true := beq_iff_eq.mpr c3
  have c3b1 : ((l0.length : Int) != (l1.length : Int)) = false := bne_eq_false_iff_eq.mpr c3
  have c3b2 : (l0.length == l1.length) = true := by first | simpa using c3 | (simp at c3 ⊢; omega)
  clear c3
  have H' := Aside0.mk H
  clear H
  go_enter Try.func18, Try.ntmps18
  go_wp2
  repeat (go_quiet (fail); try go_wp2)
  go_loopg [5] k (fun kq v5 w' => ∃ (x5_1 : Int), v5 = .int .i64 x5_1 ∧ Aside0 (peristyleref07_Same.l0 kq l0 l1 x5_1 = some r) ∧ Aside0 (kq ≤ k) ∧ Drawn0 w w')
  case atStart => exact ⟨(0), (by first | rfl | (simp; done) | (simp [*]; done)), H', ⟨Nat.le_refl _⟩, by repeat (first | exact Drawn0.refl _ | apply Drawn0.step)⟩
  case round =>
   clear H'
   try clear c1
   try clear c3
   try clear c3b0
   try clear c3b1
   try clear c3b2
   obtain ⟨x5_1, rfl, HA, HK1, ⟨m1, rfl⟩⟩ := hrel
   cases gk with
   | zero => exact absurd HA.out (by simp [peristyleref07_Same.l0])
   | succ k1 =>
    have H := HA.out
    clear HA
    simp only [peristyleref07_Same.l0] at H
    by_cases c4 : x5_1 < (l0.length : Int)
    ·rw [if_pos c4] at H
     have c4b0 : decide (x5_1 < (l0.length : Int)) = true := decide_eq_true c4
     clear c4
     by_cases c5 : 0 ≤ x5_1
     ·rw [if_pos c5] at H
      have c5b0 : decide (0 ≤ x5_1) = true := decide_eq_true c5
      clear c5
      by_cases c6 : x5_1 < (l1.length : Int)
      ·rw [if_pos c6] at H
       have c6b0 : decide (x5_1 < (l1.length : Int)) = true := decide_eq_true c6
       clear c6
       by_cases c7 : (rdOf ByteArray.empty l0 x5_1).toList = (rdOf ByteArray.empty l1 x5_1).toList
       ·rw [if_pos c7] at H
        have c7b0 : ((rdOf ByteArray.empty l0 x5_1).toList == (rdOf ByteArray.empty l1 x5_1).toList) = true := beq_iff_eq.mpr c7
        have c7b1 : ((rdOf ByteArray.empty l0 x5_1).toList != (rdOf ByteArray.empty l1 x5_1).toList) = false := bne_eq_false_iff_eq.mpr c7
        clear c7
        have H' := Aside0.mk H
        clear H
        have p209 : 0 ≤ (x5_1 : Int) := of_decide_eq_true (by assumption)
        have q209 : x5_1 < (l0.length : Int) := of_decide_eq_true (by assumption)
        obtain ⟨ad209, e209, hx209_0⟩ := Kd.at_string HR0.out x5_1 p209 q209
        cases e209
        replace p209 := eq_true p209
        replace q209 := eq_true q209
        have p210 : 0 ≤ (x5_1 : Int) := of_decide_eq_true (by assumption)
        have q210 : x5_1 < (l1.length : Int) := of_decide_eq_true (by assumption)
        obtain ⟨ad210, e210, hx210_0⟩ := Kd.at_string HR1.out x5_1 p210 q210
        cases e210
        replace p210 := eq_true p210
        replace q210 := eq_true q210
        go_wp2
        repeat (go_quiet (fail); try go_wp2)
        go_roundg k1
        case measure => have := HK1.out; omega
        case rel => exact ⟨(wrap64 (x5_1 + 1)), (by first | rfl | (simp; done) | (simp [*]; done)), H', ⟨by have := HK1.out; omega⟩, by repeat (first | exact Drawn0.refl _ | apply Drawn0.step)⟩
       ·rw [if_neg c7] at H
        have c7b0 : ((rdOf ByteArray.empty l0 x5_1).toList == (rdOf ByteArray.empty l1 x5_1).toList) = false := beq_eq_false_iff_ne.mpr c7
        have c7b1 : ((rdOf ByteArray.empty l0 x5_1).toList != (rdOf ByteArray.empty l1 x5_1).toList) = true := bne_iff_ne.mpr c7
        obtain rfl := Option.some.inj H
        have p209 : 0 ≤ (x5_1 : Int) := of_decide_eq_true (by assumption)
        have q209 : x5_1 < (l0.length : Int) := of_decide_eq_true (by assumption)
        obtain ⟨ad209, e209, hx209_0⟩ := Kd.at_string HR0.out x5_1 p209 q209
        cases e209
        replace p209 := eq_true p209
        replace q209 := eq_true q209
        have p210 : 0 ≤ (x5_1 : Int) := of_decide_eq_true (by assumption)
        have q210 : x5_1 < (l1.length : Int) := of_decide_eq_true (by assumption)
        obtain ⟨ad210, e210, hx210_0⟩ := Kd.at_string HR1.out x5_1 p210 q210
        cases e210
        replace p210 := eq_true p210
        replace q210 := eq_true q210
        go_wp2
        repeat (go_quiet (fail); try go_wp2)
        go_ret
        exact ⟨by first | rfl | (unfold wrap64; rfl) | (simp; done) | (simp [*]; done), by repeat (first | exact Drawn0.refl _ | apply Drawn0.step)⟩
      ·rw [if_neg c6] at H
       exact absurd H (by simp)
     ·rw [if_neg c5] at H
      exact absurd H (by simp)
    ·rw [if_neg c4] at H
     have c4b0 : decide (x5_1 < (l0.length : Int)) = false := decide_eq_false c4
     clear c4
     obtain rfl := Option.some.inj H
     go_wp2
     repeat (go_quiet (fail); try go_wp2)
     go_ret
     exact ⟨by first | rfl | (unfold wrap64; rfl) | (simp; done) | (simp [*]; done), by repeat (first | exact Drawn0.refl _ | apply Drawn0.step)⟩
 ·rw [if_neg c3] at H
  have c3b0 : ((l0.length : Int) == (l1.length : Int)) = false := beq_eq_false_iff_ne.mpr c3
  have c3b1 : ((l0.length : Int) != (l1.length : Int)) = true := bne_iff_ne.mpr c3
  have c3b2 : (l0.length == l1.length) = false := by first | simpa using c3 | (simp at c3 ⊢; omega)
  obtain rfl := Option.some.inj H
  go_enter Try.func18, Try.ntmps18
  go_wp2
  repeat (go_quiet (fail); try go_wp2)
  go_ret
  exact ⟨by first | rfl | (unfold wrap64; rfl) | (simp; done) | (simp [*]; done), by repeat (first | exact Drawn0.refl _ | apply Drawn0.step)⟩
/-! ### peristyleref01_Same: function 14 -/
def peristyleref01_Same.l0 : Nat → List Int → List Int → Int → Option (Bool)
 | 0, _, _, _ => none
 | k + 1, x0, x1, x5 => if x5 < (x0.length : Int) then (if 0 ≤ x5 then (if x5 < (x1.length : Int) then (if (rd x0 x5) = (rd x1 x5) then (peristyleref01_Same.l0 k x0 x1 (wrap64 (x5 + 1))) else (some false)) else (none)) else (none)) else (some true)
def peristyleref01_Same.f (k : Nat) (l0 : List Int) (l1 : List Int) : Option (Bool) := if (l0.length : Int) = (l1.length : Int) then (peristyleref01_Same.l0 k l0 l1 0) else (some false)
theorem peristyleref01_Same.l0_succ (k : Nat) (x0 : List Int) (x1 : List Int) (x5 : Int) : peristyleref01_Same.l0 (k + 1) x0 x1 x5 = (if x5 < (x0.length : Int) then (if 0 ≤ x5 then (if x5 < (x1.length : Int) then (if (rd x0 x5) = (rd x1 x5) then (peristyleref01_Same.l0 k x0 x1 (wrap64 (x5 + 1))) else (some false)) else (none)) else (none)) else (some true)) := by
 simp only [peristyleref01_Same.l0]
theorem peristyleref01_Same.mono_l : ∀ k, (∀ y0 y1 y2, LeO (peristyleref01_Same.l0 k y0 y1 y2) (peristyleref01_Same.l0 (k + 1) y0 y1 y2))
 | 0 => fun _ _ _ r h => by simp [peristyleref01_Same.l0] at h
 | k + 1 => by
  have ih0 := peristyleref01_Same.mono_l k
  ·intro y0 y1 y2
   unfold peristyleref01_Same.l0
   repeat' first
   | (with_reducible exact ih0 _ _ _)
   | (with_reducible exact LeO.refl _)
   | (with_reducible exact LeO.none _)
   | (with_reducible refine LeO.ite ?_ ?_)
   | (with_reducible refine LeO.bind ?_ (fun _ => ?_))
   | exact ih0 _ _ _
   | exact LeO.none _
   | refine LeO.ite ?_ ?_
   | refine LeO.bind ?_ (fun _ => ?_)
theorem peristyleref01_Same.mono : ∀ a0 a1 k, LeO (peristyleref01_Same.f k a0 a1) (peristyleref01_Same.f (k + 1) a0 a1) := by
 intro a0 a1 k
 have ih0 := peristyleref01_Same.mono_l k
 unfold peristyleref01_Same.f
 repeat' first
   | (with_reducible exact ih0 _ _ _)
   | (with_reducible exact LeO.refl _)
   | (with_reducible exact LeO.none _)
   | (with_reducible refine LeO.ite ?_ ?_)
   | (with_reducible refine LeO.bind ?_ (fun _ => ?_))
   | exact ih0 _ _ _
   | exact LeO.none _
   | refine LeO.ite ?_ ?_
   | refine LeO.bind ?_ (fun _ => ?_)
set_option maxHeartbeats 8000000 in
set_option maxRecDepth 100000 in
theorem peristyleref01_Same.calls (k : Nat) (A0 : Option Addr) (c0 : Nat) (l0 : List Int) (A1 : Option Addr) (c1 : Nat) (l1 : List Int) (r : Bool) (w : World) (hr0 : Kd.C (Kd.int .i64) w A0 l0.length l0) (hc0 : l0.length ≤ c0) (hr1 : Kd.C (Kd.int .i64) w A1 l1.length l1) (hc1 : l1.length ≤ c1) (h : peristyleref01_Same.f k l0 l1 = some r) :
  Calls Try.prog 14 #[.slice A0 l0.length c0, .slice A1 l1.length c1] w fun e w' => e = .returned (.bool r) ∧ Drawn0 w w' := by
 have HR0 := Aside0.mk hr0
 have HC0 := Aside0.mk hc0
 clear hr0 hc0
 have HR1 := Aside0.mk hr1
 have HC1 := Aside0.mk hc1
 clear hr1 hc1
 have H : (if (l0.length : Int) = (l1.length : Int) then (peristyleref01_Same.l0 k l0 l1 0) else (some false)) = some r := h
 clear h
 by_cases c3 : (l0.length : Int) = (l1.length : Int)
 ·rw [if_pos c3] at H
  have c3b0 : ((l0.length : Int) == (l1.length : Int)) = true := beq_iff_eq.mpr c3
  have c3b1 : ((l0.length : Int) != (l1.length : Int)) = false := bne_eq_false_iff_eq.mpr c3
  have c3b2 : (l0.length == l1.length) = true := by first | simpa using c3 | (simp at c3 ⊢; omega)
  clear c3
  have H' := Aside0.mk H
  clear H
  go_enter Try.func14, Try.ntmps14
  go_wp2
  repeat (go_quiet (fail); try go_wp2)
  go_loopg [5] k (fun kq v5 w' => ∃ (x5_1 : Int), v5 = .int .i64 x5_1 ∧ Aside0 (peristyleref01_Same.l0 kq l0 l1 x5_1 = some r) ∧ Aside0 (kq ≤ k) ∧ Drawn0 w w')
  case atStart => exact ⟨(0), (by first | rfl | (simp; done) | (simp [*]; done)), H', ⟨Nat.le_refl _⟩, by repeat (first | exact Drawn0.refl _ | apply Drawn0.step)⟩
  case round =>
   clear H'
   try clear c1
   try clear c3
   try clear c3b0
   try clear c3b1
   try clear c3b2
   obtain ⟨x5_1, rfl, HA, HK1, ⟨m1, rfl⟩⟩ := hrel
   cases gk with
   | zero => exact absurd HA.out (by simp [peristyleref01_Same.l0])
   | succ k1 =>
    have H := HA.out
    clear HA
    simp only [peristyleref01_Same.l0] at H
    by_cases c4 : x5_1 < (l0.length : Int)
    ·rw [if_pos c4] at H
     have c4b0 : decide (x5_1 < (l0.length : Int)) = true := decide_eq_true c4
     clear c4
     by_cases c5 : 0 ≤ x5_1
     ·rw [if_pos c5] at H
      have c5b0 : decide (0 ≤ x5_1) = true := decide_eq_true c5
      clear c5
      by_cases c6 : x5_1 < (l1.length : Int)
      ·rw [if_pos c6] at H
       have c6b0 : decide (x5_1 < (l1.length : Int)) = true := decide_eq_true c6
       clear c6
       by_cases c7 : (rd l0 x5_1) = (rd l1 x5_1)
       ·rw [if_pos c7] at H
        have c7b0 : ((rd l0 x5_1) == (rd l1 x5_1)) = true := beq_iff_eq.mpr c7
        have c7b1 : ((rd l0 x5_1) != (rd l1 x5_1)) = false := bne_eq_false_iff_eq.mpr c7
        clear c7
        have H' := Aside0.mk H
        clear H
        have p211 : 0 ≤ (x5_1 : Int) := of_decide_eq_true (by assumption)
        have q211 : x5_1 < (l0.length : Int) := of_decide_eq_true (by assumption)
        obtain ⟨ad211, e211, hx211_0⟩ := Kd.at_int HR0.out x5_1 p211 q211
        cases e211
        replace p211 := eq_true p211
        replace q211 := eq_true q211
        have p212 : 0 ≤ (x5_1 : Int) := of_decide_eq_true (by assumption)
        have q212 : x5_1 < (l1.length : Int) := of_decide_eq_true (by assumption)
        obtain ⟨ad212, e212, hx212_0⟩ := Kd.at_int HR1.out x5_1 p212 q212
        cases e212
        replace p212 := eq_true p212
        replace q212 := eq_true q212
        go_wp2
        repeat (go_quiet (fail); try go_wp2)
        go_roundg k1
        case measure => have := HK1.out; omega
        case rel => exact ⟨(wrap64 (x5_1 + 1)), (by first | rfl | (simp; done) | (simp [*]; done)), H', ⟨by have := HK1.out; omega⟩, by repeat (first | exact Drawn0.refl _ | apply Drawn0.step)⟩
       ·rw [if_neg c7] at H
        have c7b0 : ((rd l0 x5_1) == (rd l1 x5_1)) = false := beq_eq_false_iff_ne.mpr c7
        have c7b1 : ((rd l0 x5_1) != (rd l1 x5_1)) = true := bne_iff_ne.mpr c7
        obtain rfl := Option.some.inj H
        have p211 : 0 ≤ (x5_1 : Int) := of_decide_eq_true (by assumption)
        have q211 : x5_1 < (l0.length : Int) := of_decide_eq_true (by assumption)
        obtain ⟨ad211, e211, hx211_0⟩ := Kd.at_int HR0.out x5_1 p211 q211
        cases e211
        replace p211 := eq_true p211
        replace q211 := eq_true q211
        have p212 : 0 ≤ (x5_1 : Int) := of_decide_eq_true (by assumption)
        have q212 : x5_1 < (l1.length : Int) := of_decide_eq_true (by assumption)
        obtain ⟨ad212, e212, hx212_0⟩ := Kd.at_int HR1.out x5_1 p212 q212
        cases e212
        replace p212 := eq_true p212
        replace q212 := eq_true q212
        go_wp2
        repeat (go_quiet (fail); try go_wp2)
        go_ret
        exact ⟨by first | rfl | (unfold wrap64; rfl) | (simp; done) | (simp [*]; done), by repeat (first | exact Drawn0.refl _ | apply Drawn0.step)⟩
      ·rw [if_neg c6] at H
       exact absurd H (by simp)
     ·rw [if_neg c5] at H
      exact absurd H (by simp)
    ·rw [if_neg c4] at H
     have c4b0 : decide (x5_1 < (l0.length : Int)) = false := decide_eq_false c4
     clear c4
     obtain rfl := Option.some.inj H
     go_wp2
     repeat (go_quiet (fail); try go_wp2)
     go_ret
     exact ⟨by first | rfl | (unfold wrap64; rfl) | (simp; done) | (simp [*]; done), by repeat (first | exact Drawn0.refl _ | apply Drawn0.step)⟩
 ·rw [if_neg c3] at H
  have c3b0 : ((l0.length : Int) == (l1.length : Int)) = false := beq_eq_false_iff_ne.mpr c3
  have c3b1 : ((l0.length : Int) != (l1.length : Int)) = true := bne_iff_ne.mpr c3
  have c3b2 : (l0.length == l1.length) = false := by first | simpa using c3 | (simp at c3 ⊢; omega)
  obtain rfl := Option.some.inj H
  go_enter Try.func14, Try.ntmps14
  go_wp2
  repeat (go_quiet (fail); try go_wp2)
  go_ret
  exact ⟨by first | rfl | (unfold wrap64; rfl) | (simp; done) | (simp [*]; done), by repeat (first | exact Drawn0.refl _ | apply Drawn0.step)⟩
/-! ### peristylelaw11_awake: function 7 -/
def peristylelaw11_awake.f (k : Nat)  : Option (Bool) := (dict_Of_string.f k (([(⟨#[98]⟩ : ByteArray), (⟨#[97]⟩ : ByteArray), (⟨#[98]⟩ : ByteArray)] : List ByteArray))).bind fun bt216 => ((dict_PutTexts.f k (([(⟨#[98]⟩ : ByteArray), (⟨#[97]⟩ : ByteArray), (⟨#[98]⟩ : ByteArray)] : List ByteArray))).bind fun bt225 => ((dict_TakeInts.f k (⟨#[4, 10, 14, 1]⟩ : ByteArray) 2).bind fun bt227 => ((peristyleref07_Same.f k bt216.1 (([(⟨#[97]⟩ : ByteArray), (⟨#[98]⟩ : ByteArray)] : List ByteArray))).bind fun t234 => (if t234 = true then ((peristyleref01_Same.f k bt216.2 (([1, 0, 1] : List Int))).bind fun t238 => (if t238 = true then (if bt225.1.toList = ([4, 1, 97, 1, 98, 5] : List UInt8) then (if bt225.2 = 0 then ((peristyleref01_Same.f k bt227.1 (([7, 5] : List Int))).bind fun t242 => (if t242 = true then (some (bt227.2 == 0)) else (none))) else (none)) else (none)) else (none))) else (none)))))
set_option maxHeartbeats 8000000 in
set_option maxRecDepth 100000 in
theorem peristylelaw11_awake.calls (k : Nat)  (r : Bool) (w : World) (h : peristylelaw11_awake.f k  = some r) :
  Calls Try.prog 7 #[] w fun e w' => e = .returned (.bool r) ∧ Below w.heap.size w w' := by
 have HB := Aside0.mk (Below.refl w.heap.size w)
 have H : ((dict_Of_string.f k (([(⟨#[98]⟩ : ByteArray), (⟨#[97]⟩ : ByteArray), (⟨#[98]⟩ : ByteArray)] : List ByteArray))).bind fun bt216 => ((dict_PutTexts.f k (([(⟨#[98]⟩ : ByteArray), (⟨#[97]⟩ : ByteArray), (⟨#[98]⟩ : ByteArray)] : List ByteArray))).bind fun bt225 => ((dict_TakeInts.f k (⟨#[4, 10, 14, 1]⟩ : ByteArray) 2).bind fun bt227 => ((peristyleref07_Same.f k bt216.1 (([(⟨#[97]⟩ : ByteArray), (⟨#[98]⟩ : ByteArray)] : List ByteArray))).bind fun t234 => (if t234 = true then ((peristyleref01_Same.f k bt216.2 (([1, 0, 1] : List Int))).bind fun t238 => (if t238 = true then (if bt225.1.toList = ([4, 1, 97, 1, 98, 5] : List UInt8) then (if bt225.2 = 0 then ((peristyleref01_Same.f k bt227.1 (([7, 5] : List Int))).bind fun t242 => (if t242 = true then (some (bt227.2 == 0)) else (none))) else (none)) else (none)) else (none))) else (none)))))) = some r := h
 clear h
 obtain ⟨y213, hy213⟩ : ∃ y_ : List ByteArray, y_ = (([(⟨#[98]⟩ : ByteArray), (⟨#[97]⟩ : ByteArray), (⟨#[98]⟩ : ByteArray)] : List ByteArray)) := ⟨_, rfl⟩
 replace H : ((dict_Of_string.f k y213).bind fun bt216 => ((dict_PutTexts.f k (([(⟨#[98]⟩ : ByteArray), (⟨#[97]⟩ : ByteArray), (⟨#[98]⟩ : ByteArray)] : List ByteArray))).bind fun bt225 => ((dict_TakeInts.f k (⟨#[4, 10, 14, 1]⟩ : ByteArray) 2).bind fun bt227 => ((peristyleref07_Same.f k bt216.1 (([(⟨#[97]⟩ : ByteArray), (⟨#[98]⟩ : ByteArray)] : List ByteArray))).bind fun t234 => (if t234 = true then ((peristyleref01_Same.f k bt216.2 (([1, 0, 1] : List Int))).bind fun t238 => (if t238 = true then (if bt225.1.toList = ([4, 1, 97, 1, 98, 5] : List UInt8) then (if bt225.2 = 0 then ((peristyleref01_Same.f k bt227.1 (([7, 5] : List Int))).bind fun t242 => (if t242 = true then (some (bt227.2 == 0)) else (none))) else (none)) else (none)) else (none))) else (none)))))) = some r := by first | (rw [hy213]; with_reducible exact H) | (have H2_ := (Option.bind_some _ _).symm.trans H; rw [hy213]; with_reducible exact H2_) | (have H2_ := (Option.bind_some _ _).symm.trans H; with_reducible exact H2_) | with_reducible exact H | (rw [hy213]; exact H) | exact H
 have Ny213 := Aside0.mk hy213
 clear hy213
 replace H := Option.bind_eq_some_iff.mp H
 obtain ⟨⟨t216, t217⟩, A10, H⟩ := H
 replace H : ((dict_PutTexts.f k (([(⟨#[98]⟩ : ByteArray), (⟨#[97]⟩ : ByteArray), (⟨#[98]⟩ : ByteArray)] : List ByteArray))).bind fun bt225 => ((dict_TakeInts.f k (⟨#[4, 10, 14, 1]⟩ : ByteArray) 2).bind fun bt227 => ((peristyleref07_Same.f k t216 (([(⟨#[97]⟩ : ByteArray), (⟨#[98]⟩ : ByteArray)] : List ByteArray))).bind fun t234 => (if t234 = true then ((peristyleref01_Same.f k t217 (([1, 0, 1] : List Int))).bind fun t238 => (if t238 = true then (if bt225.1.toList = ([4, 1, 97, 1, 98, 5] : List UInt8) then (if bt225.2 = 0 then ((peristyleref01_Same.f k bt227.1 (([7, 5] : List Int))).bind fun t242 => (if t242 = true then (some (bt227.2 == 0)) else (none))) else (none)) else (none)) else (none))) else (none))))) = some r := H
 have A1 := Aside0.mk A10
 clear A10
 obtain ⟨y222, hy222⟩ : ∃ y_ : List ByteArray, y_ = (([(⟨#[98]⟩ : ByteArray), (⟨#[97]⟩ : ByteArray), (⟨#[98]⟩ : ByteArray)] : List ByteArray)) := ⟨_, rfl⟩
 replace H : ((dict_PutTexts.f k y222).bind fun bt225 => ((dict_TakeInts.f k (⟨#[4, 10, 14, 1]⟩ : ByteArray) 2).bind fun bt227 => ((peristyleref07_Same.f k t216 (([(⟨#[97]⟩ : ByteArray), (⟨#[98]⟩ : ByteArray)] : List ByteArray))).bind fun t234 => (if t234 = true then ((peristyleref01_Same.f k t217 (([1, 0, 1] : List Int))).bind fun t238 => (if t238 = true then (if bt225.1.toList = ([4, 1, 97, 1, 98, 5] : List UInt8) then (if bt225.2 = 0 then ((peristyleref01_Same.f k bt227.1 (([7, 5] : List Int))).bind fun t242 => (if t242 = true then (some (bt227.2 == 0)) else (none))) else (none)) else (none)) else (none))) else (none))))) = some r := by first | (rw [hy222]; with_reducible exact H) | (have H2_ := (Option.bind_some _ _).symm.trans H; rw [hy222]; with_reducible exact H2_) | (have H2_ := (Option.bind_some _ _).symm.trans H; with_reducible exact H2_) | with_reducible exact H | (rw [hy222]; exact H) | exact H
 have Ny222 := Aside0.mk hy222
 clear hy222
 replace H := Option.bind_eq_some_iff.mp H
 obtain ⟨⟨t225, t226⟩, A20, H⟩ := H
 replace H : ((dict_TakeInts.f k (⟨#[4, 10, 14, 1]⟩ : ByteArray) 2).bind fun bt227 => ((peristyleref07_Same.f k t216 (([(⟨#[97]⟩ : ByteArray), (⟨#[98]⟩ : ByteArray)] : List ByteArray))).bind fun t234 => (if t234 = true then ((peristyleref01_Same.f k t217 (([1, 0, 1] : List Int))).bind fun t238 => (if t238 = true then (if t225.toList = ([4, 1, 97, 1, 98, 5] : List UInt8) then (if t226 = 0 then ((peristyleref01_Same.f k bt227.1 (([7, 5] : List Int))).bind fun t242 => (if t242 = true then (some (bt227.2 == 0)) else (none))) else (none)) else (none)) else (none))) else (none)))) = some r := H
 have A2 := Aside0.mk A20
 clear A20
 replace H := Option.bind_eq_some_iff.mp H
 obtain ⟨⟨t227, t228⟩, A30, H⟩ := H
 replace H : ((peristyleref07_Same.f k t216 (([(⟨#[97]⟩ : ByteArray), (⟨#[98]⟩ : ByteArray)] : List ByteArray))).bind fun t234 => (if t234 = true then ((peristyleref01_Same.f k t217 (([1, 0, 1] : List Int))).bind fun t238 => (if t238 = true then (if t225.toList = ([4, 1, 97, 1, 98, 5] : List UInt8) then (if t226 = 0 then ((peristyleref01_Same.f k t227 (([7, 5] : List Int))).bind fun t242 => (if t242 = true then (some (t228 == 0)) else (none))) else (none)) else (none)) else (none))) else (none))) = some r := H
 have A3 := Aside0.mk A30
 clear A30
 obtain ⟨y231, hy231⟩ : ∃ y_ : List ByteArray, y_ = (([(⟨#[97]⟩ : ByteArray), (⟨#[98]⟩ : ByteArray)] : List ByteArray)) := ⟨_, rfl⟩
 replace H : ((peristyleref07_Same.f k t216 y231).bind fun t234 => (if t234 = true then ((peristyleref01_Same.f k t217 (([1, 0, 1] : List Int))).bind fun t238 => (if t238 = true then (if t225.toList = ([4, 1, 97, 1, 98, 5] : List UInt8) then (if t226 = 0 then ((peristyleref01_Same.f k t227 (([7, 5] : List Int))).bind fun t242 => (if t242 = true then (some (t228 == 0)) else (none))) else (none)) else (none)) else (none))) else (none))) = some r := by first | (rw [hy231]; with_reducible exact H) | (have H2_ := (Option.bind_some _ _).symm.trans H; rw [hy231]; with_reducible exact H2_) | (have H2_ := (Option.bind_some _ _).symm.trans H; with_reducible exact H2_) | with_reducible exact H | (rw [hy231]; exact H) | exact H
 have Ny231 := Aside0.mk hy231
 clear hy231
 replace H := Option.bind_eq_some_iff.mp H
 obtain ⟨t234, A40, H⟩ := H
 replace H : (if t234 = true then ((peristyleref01_Same.f k t217 (([1, 0, 1] : List Int))).bind fun t238 => (if t238 = true then (if t225.toList = ([4, 1, 97, 1, 98, 5] : List UInt8) then (if t226 = 0 then ((peristyleref01_Same.f k t227 (([7, 5] : List Int))).bind fun t242 => (if t242 = true then (some (t228 == 0)) else (none))) else (none)) else (none)) else (none))) else (none)) = some r := H
 have A4 := Aside0.mk A40
 clear A40
 by_cases c5 : t234 = true
 ·subst c5
  have H1 : ((peristyleref01_Same.f k t217 (([1, 0, 1] : List Int))).bind fun t238 => (if t238 = true then (if t225.toList = ([4, 1, 97, 1, 98, 5] : List UInt8) then (if t226 = 0 then ((peristyleref01_Same.f k t227 (([7, 5] : List Int))).bind fun t242 => (if t242 = true then (some (t228 == 0)) else (none))) else (none)) else (none)) else (none))) = some r := by rw [if_pos rfl] at H; exact H
  clear H
  have H := H1
  clear H1
  obtain ⟨y235, hy235⟩ : ∃ y_ : List Int, y_ = (([1, 0, 1] : List Int)) := ⟨_, rfl⟩
  replace H : ((peristyleref01_Same.f k t217 y235).bind fun t238 => (if t238 = true then (if t225.toList = ([4, 1, 97, 1, 98, 5] : List UInt8) then (if t226 = 0 then ((peristyleref01_Same.f k t227 (([7, 5] : List Int))).bind fun t242 => (if t242 = true then (some (t228 == 0)) else (none))) else (none)) else (none)) else (none))) = some r := by first | (rw [hy235]; with_reducible exact H) | (have H2_ := (Option.bind_some _ _).symm.trans H; rw [hy235]; with_reducible exact H2_) | (have H2_ := (Option.bind_some _ _).symm.trans H; with_reducible exact H2_) | with_reducible exact H | (rw [hy235]; exact H) | exact H
  have Ny235 := Aside0.mk hy235
  clear hy235
  replace H := Option.bind_eq_some_iff.mp H
  obtain ⟨t238, A60, H⟩ := H
  replace H : (if t238 = true then (if t225.toList = ([4, 1, 97, 1, 98, 5] : List UInt8) then (if t226 = 0 then ((peristyleref01_Same.f k t227 (([7, 5] : List Int))).bind fun t242 => (if t242 = true then (some (t228 == 0)) else (none))) else (none)) else (none)) else (none)) = some r := H
  have A6 := Aside0.mk A60
  clear A60
  by_cases c7 : t238 = true
  ·subst c7
   have H1 : (if t225.toList = ([4, 1, 97, 1, 98, 5] : List UInt8) then (if t226 = 0 then ((peristyleref01_Same.f k t227 (([7, 5] : List Int))).bind fun t242 => (if t242 = true then (some (t228 == 0)) else (none))) else (none)) else (none)) = some r := by rw [if_pos rfl] at H; exact H
   clear H
   have H := H1
   clear H1
   by_cases c8 : t225.toList = ([4, 1, 97, 1, 98, 5] : List UInt8)
   ·rw [if_pos c8] at H
    have c8b0 : (t225.toList == ([4, 1, 97, 1, 98, 5] : List UInt8)) = true := beq_iff_eq.mpr c8
    have c8b1 : (t225.toList != ([4, 1, 97, 1, 98, 5] : List UInt8)) = false := bne_eq_false_iff_eq.mpr c8
    clear c8
    by_cases c9 : t226 = 0
    ·rw [if_pos c9] at H
     have c9b0 : (t226 == 0) = true := beq_iff_eq.mpr c9
     have c9b1 : (t226 != 0) = false := bne_eq_false_iff_eq.mpr c9
     clear c9
     obtain ⟨y239, hy239⟩ : ∃ y_ : List Int, y_ = (([7, 5] : List Int)) := ⟨_, rfl⟩
     replace H : ((peristyleref01_Same.f k t227 y239).bind fun t242 => (if t242 = true then (some (t228 == 0)) else (none))) = some r := by first | (rw [hy239]; with_reducible exact H) | (have H2_ := (Option.bind_some _ _).symm.trans H; rw [hy239]; with_reducible exact H2_) | (have H2_ := (Option.bind_some _ _).symm.trans H; with_reducible exact H2_) | with_reducible exact H | (rw [hy239]; exact H) | exact H
     have Ny239 := Aside0.mk hy239
     clear hy239
     replace H := Option.bind_eq_some_iff.mp H
     obtain ⟨t242, A100, H⟩ := H
     replace H : (if t242 = true then (some (t228 == 0)) else (none)) = some r := H
     have A10 := Aside0.mk A100
     clear A100
     by_cases c11 : t242 = true
     ·subst c11
      have H1 : (some (t228 == 0)) = some r := by rw [if_pos rfl] at H; exact H
      clear H
      have H := H1
      clear H1
      obtain rfl := Option.some.inj H
      go_enter Try.func7, Try.ntmps7
      go_wp2_with (first | ((with_reducible refine gate_dst (N := 8) rfl ?_); (try (refine gate_guard (by rfl) ?_; dsimp only)); refine Kd.R_lit Kd.string _ 9 ?hg (N := 8) ?hd (xs := ([(⟨#[98]⟩ : ByteArray), (⟨#[97]⟩ : ByteArray), (⟨#[98]⟩ : ByteArray)] : List ByteArray)) (inner := [.string (⟨#[98]⟩ : ByteArray), .string (⟨#[97]⟩ : ByteArray), .string (⟨#[98]⟩ : ByteArray)]) (ok := fun _ => True) (okp := fun _ => True) ?hr ?hp (fun _ hk => hk) trivial (Below.refl _ _) (Nat.le_refl _) (by simp) ?_; (case hd => rfl); (case hg => rfl); (case hr => first | (go_simp; done) | (go_simp; rfl)); (case hp => exact (Reps.one (show Kd.M Kd.string _ _ _ (⟨#[98]⟩ : ByteArray) [.string (⟨#[98]⟩ : ByteArray)] from rfl) (Reps.one (show Kd.M Kd.string _ _ _ (⟨#[97]⟩ : ByteArray) [.string (⟨#[97]⟩ : ByteArray)] from rfl) (Reps.one (show Kd.M Kd.string _ _ _ (⟨#[98]⟩ : ByteArray) [.string (⟨#[98]⟩ : ByteArray)] from rfl) (Reps.none _ _))))); intro v214 w12 ho13 hb hg_ hnew_; clear hg_ hnew_; (first | rw [← Ny213.out] at ho13 | (simp only [Int.reduceToNat] at ho13; rw [← Ny213.out] at ho13)); have HO215 := Aside0.mk (Kd.R_lower ho13 (below_size (bh HB.out))); replace HB := bsa HB hb; clear hb ho13; obtain ⟨Ao14, co14, eo14⟩ := Kd.R_slice HO215.out; subst eo14) | ((with_reducible refine gate_callee (f := 8) rfl ?_); refine goesL_ (some 9) rfl rfl Try.func8 (by kernel_rfl) rfl #[.slice Ao14 y213.length co14] rfl (by (try simp only [List.map_toArray, List.map_cons, List.map_nil]); first | done | rfl) ?_; (with_reducible refine (dict_Of_string.calls k _ _ y213 t216 t217 _ ?side1 ?side2 A1.out).mono ?_); (case side1 => exact cx (Kd.R_reads' HO215.out).2.2); (case side2 => exact (Kd.R_reads' HO215.out).2.1); rintro e w15 ⟨v218, v220, rfl, ho0, ho1, hb⟩; refine ⟨_, rfl, ?_⟩; have HO219 := Aside0.mk (Kd.R_lower (Kd.R_new' ho0 (Kd.R_lt (rx HO215.out))) (below_size (bh HB.out))); replace HO215 := Aside0.mk (Kd.R_elder' (rx HO215.out) (Kd.R_base ho0) hb); have HO221 := Aside0.mk (Kd.R_lower ho1 (below_size (bh HB.out))); replace HB := bsa HB hb; (try clear hb); (try clear hk); (try clear ho0); (try clear ho1)) | ((with_reducible refine gate_dst (N := 13) rfl ?_); (try (refine gate_guard (by rfl) ?_; dsimp only)); refine Kd.R_lit Kd.string _ 9 ?hg (N := 13) ?hd (xs := ([(⟨#[98]⟩ : ByteArray), (⟨#[97]⟩ : ByteArray), (⟨#[98]⟩ : ByteArray)] : List ByteArray)) (inner := [.string (⟨#[98]⟩ : ByteArray), .string (⟨#[97]⟩ : ByteArray), .string (⟨#[98]⟩ : ByteArray)]) (ok := fun _ => True) (okp := fun _ => True) ?hr ?hp (fun _ hk => hk) trivial (Below.refl _ _) (Nat.le_refl _) (by simp) ?_; (case hd => rfl); (case hg => rfl); (case hr => first | (go_simp; done) | (go_simp; rfl)); (case hp => exact (Reps.one (show Kd.M Kd.string _ _ _ (⟨#[98]⟩ : ByteArray) [.string (⟨#[98]⟩ : ByteArray)] from rfl) (Reps.one (show Kd.M Kd.string _ _ _ (⟨#[97]⟩ : ByteArray) [.string (⟨#[97]⟩ : ByteArray)] from rfl) (Reps.one (show Kd.M Kd.string _ _ _ (⟨#[98]⟩ : ByteArray) [.string (⟨#[98]⟩ : ByteArray)] from rfl) (Reps.none _ _))))); intro v223 w16 ho17 hb hg_ hnew_; clear hg_ hnew_; (first | rw [← Ny222.out] at ho17 | (simp only [Int.reduceToNat] at ho17; rw [← Ny222.out] at ho17)); replace HO221 := rba HO221 hb; have HO224 := Aside0.mk (Kd.R_lower (Kd.R_new' (Kd.R_new' ho17 (Kd.R_lt (rx HO215.out))) (Kd.R_lt (rx HO219.out))) (below_size (bh HB.out))); replace HO215 := Aside0.mk (Kd.R_elder' (rx HO215.out) (Kd.R_base ho17) hb); replace HO219 := Aside0.mk (Kd.R_elder' (rx HO219.out) (Kd.R_base ho17) hb); replace HB := bsa HB hb; clear hb ho17; obtain ⟨Ao18, co18, eo18⟩ := Kd.R_slice HO224.out; subst eo18) | ((with_reducible refine gate_callee (f := 16) rfl ?_); refine goesL_ (some 14) rfl rfl Try.func16 (by kernel_rfl) rfl #[.slice Ao18 y222.length co18] rfl (by (try simp only [List.map_toArray, List.map_cons, List.map_nil]); first | done | rfl) ?_; (with_reducible refine (dict_PutTexts.calls k _ _ y222 t225 t226 _ ?side1 ?side2 A2.out).mono ?_); (case side1 => exact cx (Kd.R_reads' HO224.out).2.2); (case side2 => exact (Kd.R_reads' HO224.out).2.1); rintro e w19 ⟨rfl, hb⟩; refine ⟨_, rfl, ?_⟩; replace HO215 := rba HO215 hb; replace HO219 := rba HO219 hb; replace HO221 := rba HO221 hb; replace HO224 := rba HO224 hb; replace HB := bsa HB hb; (try clear hb); (try clear hk)) | ((with_reducible refine gate_callee (f := 13) rfl ?_); refine goesL_ (some 18) rfl rfl Try.func13 (by kernel_rfl) rfl #[.string (⟨#[4, 10, 14, 1]⟩ : ByteArray), .int .i64 2] rfl (by (try simp only [List.map_toArray, List.map_cons, List.map_nil]); first | done | rfl) ?_; (with_reducible refine (dict_TakeInts.calls k (⟨#[4, 10, 14, 1]⟩ : ByteArray) 2 t227 t228 _ A3.out).mono ?_); rintro e w20 ⟨v229, rfl, ho0, hb⟩; refine ⟨_, rfl, ?_⟩; replace HO215 := rba HO215 hb; replace HO219 := rba HO219 hb; replace HO224 := rba HO224 hb; have HO230 := Aside0.mk (Kd.R_lower (Kd.R_new' ho0 (Kd.R_lt (rx HO221.out))) (below_size (bh HB.out))); replace HO221 := Aside0.mk (Kd.R_elder' (rx HO221.out) (Kd.R_base ho0) hb); replace HB := bsa HB hb; (try clear hb); (try clear hk); (try clear ho0)) | ((with_reducible refine gate_dst (N := 22) rfl ?_); (try (refine gate_guard (by rfl) ?_; dsimp only)); refine Kd.R_lit Kd.string _ 9 ?hg (N := 22) ?hd (xs := ([(⟨#[97]⟩ : ByteArray), (⟨#[98]⟩ : ByteArray)] : List ByteArray)) (inner := [.string (⟨#[97]⟩ : ByteArray), .string (⟨#[98]⟩ : ByteArray)]) (ok := fun _ => True) (okp := fun _ => True) ?hr ?hp (fun _ hk => hk) trivial (Below.refl _ _) (Nat.le_refl _) (by simp) ?_; (case hd => rfl); (case hg => rfl); (case hr => first | (go_simp; done) | (go_simp; rfl)); (case hp => exact (Reps.one (show Kd.M Kd.string _ _ _ (⟨#[97]⟩ : ByteArray) [.string (⟨#[97]⟩ : ByteArray)] from rfl) (Reps.one (show Kd.M Kd.string _ _ _ (⟨#[98]⟩ : ByteArray) [.string (⟨#[98]⟩ : ByteArray)] from rfl) (Reps.none _ _)))); intro v232 w21 ho22 hb hg_ hnew_; clear hg_ hnew_; (first | rw [← Ny231.out] at ho22 | (simp only [Int.reduceToNat] at ho22; rw [← Ny231.out] at ho22)); replace HO221 := rba HO221 hb; replace HO230 := rba HO230 hb; have HO233 := Aside0.mk (Kd.R_lower (Kd.R_new' (Kd.R_new' (Kd.R_new' ho22 (Kd.R_lt (rx HO215.out))) (Kd.R_lt (rx HO219.out))) (Kd.R_lt (rx HO224.out))) (below_size (bh HB.out))); replace HO215 := Aside0.mk (Kd.R_elder' (rx HO215.out) (Kd.R_base ho22) hb); replace HO219 := Aside0.mk (Kd.R_elder' (rx HO219.out) (Kd.R_base ho22) hb); replace HO224 := Aside0.mk (Kd.R_elder' (rx HO224.out) (Kd.R_base ho22) hb); replace HB := bsa HB hb; clear hb ho22; obtain ⟨Ao23, co23, eo23⟩ := Kd.R_slice HO219.out; subst eo23; obtain ⟨Ao24, co24, eo24⟩ := Kd.R_slice HO233.out; subst eo24) | ((with_reducible refine gate_callee (f := 18) rfl ?_); refine goesL_ (some 23) rfl rfl Try.func18 (by kernel_rfl) rfl #[.slice Ao23 t216.length co23, .slice Ao24 y231.length co24] rfl (by (try simp only [List.map_toArray, List.map_cons, List.map_nil]); first | done | rfl) ?_; (with_reducible refine (peristyleref07_Same.calls k _ _ t216 _ _ y231 true _ ?side1 ?side2 ?side3 ?side4 A4.out).mono ?_); (case side1 => exact cx (Kd.R_reads' HO219.out).2.2); (case side2 => exact (Kd.R_reads' HO219.out).2.1); (case side3 => exact cx (Kd.R_reads' HO233.out).2.2); (case side4 => exact (Kd.R_reads' HO233.out).2.1); rintro e w' ⟨rfl, ⟨nd, rfl⟩⟩; refine ⟨_, rfl, ?_⟩) | ((with_reducible refine gate_dst (N := 26) rfl ?_); (try (refine gate_guard (by rfl) ?_; dsimp only)); refine Kd.R_lit (Kd.int .i64) _ 3 ?hg (N := 26) ?hd (xs := ([1, 0, 1] : List Int)) (inner := [.int .i64 1, .int .i64 0, .int .i64 1]) (ok := fun _ => True) (okp := fun _ => True) ?hr ?hp (fun _ hk => hk) trivial (Below.refl _ _) (Nat.le_refl _) (by simp) ?_; (case hd => rfl); (case hg => rfl); (case hr => first | (go_simp; done) | (go_simp; rfl)); (case hp => exact (Reps.one (show Kd.M (Kd.int .i64) _ _ _ 1 [.int .i64 1] from rfl) (Reps.one (show Kd.M (Kd.int .i64) _ _ _ 0 [.int .i64 0] from rfl) (Reps.one (show Kd.M (Kd.int .i64) _ _ _ 1 [.int .i64 1] from rfl) (Reps.none _ _))))); intro v236 w25 ho26 hb hg_ hnew_; clear hg_ hnew_; (first | rw [← Ny235.out] at ho26 | (simp only [Int.reduceToNat] at ho26; rw [← Ny235.out] at ho26)); replace HO215 := rba HO215 hb; replace HO219 := rba HO219 hb; replace HO224 := rba HO224 hb; replace HO233 := rba HO233 hb; have HO237 := Aside0.mk (Kd.R_lower (Kd.R_new' (Kd.R_new' ho26 (Kd.R_lt (rx HO221.out))) (Kd.R_lt (rx HO230.out))) (below_size (bh HB.out))); replace HO221 := Aside0.mk (Kd.R_elder' (rx HO221.out) (Kd.R_base ho26) hb); replace HO230 := Aside0.mk (Kd.R_elder' (rx HO230.out) (Kd.R_base ho26) hb); replace HB := bsa HB hb; clear hb ho26; obtain ⟨Ao27, co27, eo27⟩ := Kd.R_slice HO221.out; subst eo27; obtain ⟨Ao28, co28, eo28⟩ := Kd.R_slice HO237.out; subst eo28) | (go_at_call 14; (with_reducible refine (peristyleref01_Same.calls k _ _ t217 _ _ y235 true _ ?side1 ?side2 ?side3 ?side4 A6.out).mono ?_); (case side1 => exact cx (Kd.R_reads' HO221.out).2.2); (case side2 => exact (Kd.R_reads' HO221.out).2.1); (case side3 => exact cx (Kd.R_reads' HO237.out).2.2); (case side4 => exact (Kd.R_reads' HO237.out).2.1); rintro e w' ⟨rfl, ⟨nd, rfl⟩⟩; (try clear A6)) | ((with_reducible refine gate_dst (N := 39) rfl ?_); (try (refine gate_guard (by rfl) ?_; dsimp only)); refine Kd.R_lit (Kd.int .i64) _ 3 ?hg (N := 39) ?hd (xs := ([7, 5] : List Int)) (inner := [.int .i64 7, .int .i64 5]) (ok := fun _ => True) (okp := fun _ => True) ?hr ?hp (fun _ hk => hk) trivial (Below.refl _ _) (Nat.le_refl _) (by simp) ?_; (case hd => rfl); (case hg => rfl); (case hr => first | (go_simp; done) | (go_simp; rfl)); (case hp => exact (Reps.one (show Kd.M (Kd.int .i64) _ _ _ 7 [.int .i64 7] from rfl) (Reps.one (show Kd.M (Kd.int .i64) _ _ _ 5 [.int .i64 5] from rfl) (Reps.none _ _)))); intro v240 w29 ho30 hb hg_ hnew_; clear hg_ hnew_; (first | rw [← Ny239.out] at ho30 | (simp only [Int.reduceToNat] at ho30; rw [← Ny239.out] at ho30)); replace HO215 := rba HO215 hb; replace HO219 := rba HO219 hb; replace HO224 := rba HO224 hb; replace HO233 := rba HO233 hb; have HO241 := Aside0.mk (Kd.R_lower (Kd.R_new' (Kd.R_new' (Kd.R_new' ho30 (Kd.R_lt (rx HO221.out))) (Kd.R_lt (rx HO230.out))) (Kd.R_lt (rx HO237.out))) (below_size (bh HB.out))); replace HO221 := Aside0.mk (Kd.R_elder' (rx HO221.out) (Kd.R_base ho30) hb); replace HO230 := Aside0.mk (Kd.R_elder' (rx HO230.out) (Kd.R_base ho30) hb); replace HO237 := Aside0.mk (Kd.R_elder' (rx HO237.out) (Kd.R_base ho30) hb); replace HB := bsa HB hb; clear hb ho30; obtain ⟨Ao31, co31, eo31⟩ := Kd.R_slice HO230.out; subst eo31; obtain ⟨Ao32, co32, eo32⟩ := Kd.R_slice HO241.out; subst eo32) | (go_at_call 14; (with_reducible refine (peristyleref01_Same.calls k _ _ t227 _ _ y239 true _ ?side1 ?side2 ?side3 ?side4 A10.out).mono ?_); (case side1 => exact cx (Kd.R_reads' HO230.out).2.2); (case side2 => exact (Kd.R_reads' HO230.out).2.1); (case side3 => exact cx (Kd.R_reads' HO241.out).2.2); (case side4 => exact (Kd.R_reads' HO241.out).2.1); rintro e w' ⟨rfl, ⟨nd, rfl⟩⟩; (try clear A10)))
      go_ret
      exact ⟨er, bh HB.out⟩
     ·replace c11 := Bool.eq_false_iff.mpr c11
      subst c11
      have H1 : (none) = some r := by rw [if_neg (show ¬ (false = true) by decide)] at H; exact H
      clear H
      have H := H1
      clear H1
      exact absurd H (by simp)
    ·rw [if_neg c9] at H
     exact absurd H (by simp)
   ·rw [if_neg c8] at H
    exact absurd H (by simp)
  ·replace c7 := Bool.eq_false_iff.mpr c7
   subst c7
   have H1 : (none) = some r := by rw [if_neg (show ¬ (false = true) by decide)] at H; exact H
   clear H
   have H := H1
   clear H1
   exact absurd H (by simp)
 ·replace c5 := Bool.eq_false_iff.mpr c5
  subst c5
  have H1 : (none) = some r := by rw [if_neg (show ¬ (false = true) by decide)] at H; exact H
  clear H
  have H := H1
  clear H1
  exact absurd H (by simp)
end Go.Proofs.Ytfohecpfenegkaa.Print
end
section
namespace Go.Proofs.Ytfohecpfenegkaa.Print
open Go.RowKit Go.Proofs.YtfohecpfenegkaaW.PrintWords Go.Proofs.YtfohecpfenegkaaW.PrintLast Go.Proofs.YtfohecpfenegkaaW.PrintMore
attribute [local go_sem] max2_int min2_int max_two min_two max_three min_three max_four min_four   -- for this text's walks alone
set_option linter.unusedVariables false
set_option linter.unusedSimpArgs false
/-! ### slices_Clone_int_int: function 25 (a contract of the session's own) -/
def slices_Clone_int_int.f (l0 : List Int) : Option (List Int) := if l0.length ≤ 2000000000000 then some l0 else none
set_option maxHeartbeats 4000000 in
set_option maxRecDepth 100000 in
theorem slices_Clone_int_int.calls (A0 : Option Addr) (c0 : Nat) (l0 : List Int) (r : List Int) (w : World) (hr0 : (Kd.int .i64).C w A0 l0.length l0) (hc0 : l0.length ≤ c0) (h : slices_Clone_int_int.f l0 = some r) :
    Calls Try.prog 25 #[.slice A0 l0.length c0] w fun e w' => ∃ v0_ : Value, e = .returned v0_ ∧ (Kd.int .i64).R 3 w' w.heap.size (fun _ => True) v0_ r ∧ Below w.heap.size w w' := by
  have hl : l0.length ≤ 2000000000000 := by
    unfold slices_Clone_int_int.f at h
    split at h
    · assumption
    · exact absurd h (by simp)
  obtain rfl : l0 = r := by
    unfold slices_Clone_int_int.f at h
    rw [if_pos hl] at h
    exact Option.some.inj h
  have HR := Aside0.mk hr0
  have HC := Aside0.mk hc0
  have HL := Aside0.mk hl
  clear hr0 hc0 hl h
  go_enter Try.func25, Try.ntmps25
  rcases A0 with _ | ad
  · have h0 : l0 = [] := by
      have := HR.out.2.2
      rcases l0 with _ | ⟨x, l⟩
      · rfl
      · obtain ⟨ad, he, _⟩ := this (by simp)
        exact absurd he (by simp)
    subst h0
    have hE := Go.Lib.run_eql_slice_nil_nil (P := Try.prog) w (t := 25) (e := 3) 0 c0 Try.underlying25
    go_wp2
    go_ret
    exact ⟨_, rfl, Kd.R_nil _ _ _ _ _, Below.refl _ _⟩
  · have hE := Go.Lib.run_eql_slice_some_nil (P := Try.prog) w (t := 25) (e := 3) ad l0.length c0 Try.underlying25
    go_wp2_with (first | ((with_reducible refine gate_dst (N := 5) rfl ?_); refine Kd.R_lit (Kd.int .i64) (w0 := w) w.heap.size 3 rfl (N := 5) rfl (xs := []) (inner := []) (ok := fun _ => True) (okp := fun _ => True) (by first | rfl | (go_simp; done) | (go_simp; rfl)) (Reps.none _ _) (fun _ _ => trivial) trivial (Below.refl _ _) (Nat.le_refl _) (by simp) ?_; intro v5 w1 ho5 hb hg_ hnew_; have HO5 := Aside0.mk ho5; have HB := Aside0.mk hb; clear ho5 hb hg_ hnew_; obtain ⟨Ao5, co5, eo5⟩ := Kd.R_slice HO5.out; subst eo5) | ((with_reducible refine gate_builtin (b := .append) (xs := #[.tmp 5, .tmp 6]) rfl ?_); at_builtin; refine Kd.R_append_rows (Kd.int .i64) (w0 := w) w.heap.size rfl (.tmp 5) (.tmp 6) 25 3 _ _ rfl Try.underlying25 info3 rfl (by decide) (by omega) _ [] l0 _ _ _ (fun _ => True) (fun _ => False) rfl rfl HO5.out (Kd.C_below HR.out HB.out) (fun _ _ h => h) (fun _ h => h.elim) (fun _ _ => trivial) HB.out (below_size HB.out) (by have := HL.out; simp; omega) ?_; intro v7 w2 ho7 hb7 hg_ hat_; have HO7 := Aside0.mk ho7; have HB7 := Aside0.mk hb7; clear ho7 hb7 hg_ hat_))
    go_ret
    exact ⟨_, rfl, by simpa using HO7.out, HB7.out⟩
/-! ### slices_Sort_int_int: function 26 (a contract of the session's own) -/
def Try.laysSort_ren : Go.Shelf.Ren := ⟨fun | 189 => 26 | 125 => 44 | 257 => 47 | 128 => 72 | 129 => 73 | 294 => 75 | 295 => 76 | 296 => 77 | 297 => 78 | 298 => 79 | 299 => 80 | 216 => 48 | 300 => 81 | 301 => 82 | 328 => 100 | 329 => 96 | 330 => 97 | 331 => 101 | 332 => 102 | 215 => 83 | 343 => 105 | n => n, fun | 28 => 25 | 3 => 3 | 46 => 67 | 0 => 0 | 51 => 100 | 53 => 89 | 4 => 4 | 183 => 94 | 182 => 93 | 131 => 47 | 5 => 5 | 9 => 9 | 218 => 116 | 222 => 120 | 228 => 126 | 229 => 86 | n => n, fun | n => n⟩
theorem Try.laysSort : Go.Proofs.Lays.n189 Try.prog Try.laysSort_ren := {
  mixed := by kernel_rfl
  f125 := Try.func44.trans (congrArg some (by kernel_rfl))
  f128 := Try.func72.trans (congrArg some (by kernel_rfl))
  f129 := Try.func73.trans (congrArg some (by kernel_rfl))
  f189 := Try.func26.trans (congrArg some (by kernel_rfl))
  f215 := Try.func83.trans (congrArg some (by kernel_rfl))
  f216 := Try.func48.trans (congrArg some (by kernel_rfl))
  f257 := Try.func47.trans (congrArg some (by kernel_rfl))
  f294 := Try.func75.trans (congrArg some (by kernel_rfl))
  f295 := Try.func76.trans (congrArg some (by kernel_rfl))
  f296 := Try.func77.trans (congrArg some (by kernel_rfl))
  f297 := Try.func78.trans (congrArg some (by kernel_rfl))
  f298 := Try.func79.trans (congrArg some (by kernel_rfl))
  f299 := Try.func80.trans (congrArg some (by kernel_rfl))
  f300 := Try.func81.trans (congrArg some (by kernel_rfl))
  f301 := Try.func82.trans (congrArg some (by kernel_rfl))
  f328 := Try.func100.trans (congrArg some (by kernel_rfl))
  f329 := Try.func96.trans (congrArg some (by kernel_rfl))
  f330 := Try.func97.trans (congrArg some (by kernel_rfl))
  f331 := Try.func101.trans (congrArg some (by kernel_rfl))
  f332 := Try.func102.trans (congrArg some (by kernel_rfl))
  f343 := Try.func105.trans (congrArg some (by kernel_rfl))
  t0 := Try.underlying0
  a0 := Try.isAgg0
  z0 := Try.sizeOf0
  v0 := Try.zeroValue0
  t3 := Try.underlying3
  a3 := Try.isAgg3
  z3 := Try.sizeOf3
  v3 := Try.zeroValue3
  t4 := Try.underlying4
  a4 := Try.isAgg4
  z4 := Try.sizeOf4
  v4 := Try.zeroValue4
  t5 := Try.underlying5
  a5 := Try.isAgg5
  z5 := Try.sizeOf5
  v5 := Try.zeroValue5
  t9 := Try.underlying9
  a9 := Try.isAgg9
  z9 := Try.sizeOf9
  v9 := Try.zeroValue9
  t28 := Try.underlying25
  a28 := Try.isAgg25
  z28 := Try.sizeOf25
  v28 := Try.zeroValue25
  t46 := Try.underlying67
  a46 := Try.isAgg67
  z46 := Try.sizeOf67
  v46 := Try.zeroValue67
  t51 := Try.underlying100
  a51 := Try.isAgg100
  z51 := Try.sizeOf100
  v51 := Try.zeroValue100
  t53 := Try.underlying89
  a53 := Try.isAgg89
  z53 := Try.sizeOf89
  v53 := Try.zeroValue89
  t131 := Try.underlying47
  a131 := Try.isAgg47
  z131 := Try.sizeOf47
  v131 := Try.zeroValue47
  t182 := Try.underlying93
  a182 := Try.isAgg93
  z182 := Try.sizeOf93
  v182 := Try.zeroValue93
  t183 := Try.underlying94
  a183 := Try.isAgg94
  z183 := Try.sizeOf94
  v183 := Try.zeroValue94
  t218 := Try.underlying116
  a218 := Try.isAgg116
  z218 := Try.sizeOf116
  v218 := Try.zeroValue116
  t222 := Try.underlying120
  a222 := Try.isAgg120
  z222 := Try.sizeOf120
  v222 := Try.zeroValue120
  t228 := Try.underlying126
  a228 := Try.isAgg126
  z228 := Try.sizeOf126
  v228 := Try.zeroValue126
  t229 := Try.underlying86
  a229 := Try.isAgg86
  z229 := Try.sizeOf86
  v229 := Try.zeroValue86 }
def slices_Sort_int_int.f (l0 : List Int) : Option (List Int) := if l0.length ≤ 2000000000000 then some (l0.mergeSort fun x y => decide (x ≤ y)) else none
theorem slices_Sort_int_int.calls (P0_ : Nat → Prop) (u9000_ : Value) (l0 : List Int) (r : List Int) (w0 w : World) (hB : Below w0.heap.size w0 w) (ho0 : Kd.R (Kd.int .i64) 3 w w0.heap.size P0_ u9000_ l0) (h : slices_Sort_int_int.f l0 = some r) :
    Calls Try.prog 26 #[u9000_] w fun e w' => e = .returned (.tuple #[]) ∧ Kd.R (Kd.int .i64) 3 w' w0.heap.size (fun k_ => (P0_ k_ ∨ w.heap.size ≤ k_)) u9000_ r ∧ Below w0.heap.size w0 w' ∧ Kept w w' (fun k_ => P0_ k_) := by
  have hl : l0.length ≤ 2000000000000 := by
    unfold slices_Sort_int_int.f at h
    split at h
    · assumption
    · exact absurd h (by simp)
  obtain rfl : (l0.mergeSort fun x y => decide (x ≤ y)) = r := by
    unfold slices_Sort_int_int.f at h
    rw [if_pos hl] at h
    exact Option.some.inj h
  have hown := Kd.own_of_R ho0
  have hok := ho0.1
  have hlen : (l0.mergeSort fun x y => decide (x ≤ y)).length = l0.length := List.length_mergeSort l0
  rcases hown.2 with ⟨rfl, hnil⟩ | ⟨g, cap, cur, rfl, hb, hh, hn, hcap, hsz, htk⟩
  · have h0 : l0 = [] := by
      cases l0 with
      | nil => rfl
      | cons x l => simp at hnil
    subst h0
    refine (calls_of_every_depth fun D => AnyS.slices_Sort_int_none_alone Try.laysSort D none 0 w).mono ?_
    rintro e w' ⟨rfl, rfl⟩
    rw [show (([] : List Int).mergeSort fun x y => decide (x ≤ y)) = [] by simp]
    exact ⟨rfl, Kd.R_mono ho0 (fun k hk => .inl hk), hB, Kept.refl _ _⟩
  · have hH := holds_of_blockI (ss := l0) hh (by simpa [encs] using htk)
    have hg : g < w.heap.size := (Array.getElem?_eq_some_iff.1 hh).1
    refine (Go.Proofs.Any.slices_Sort_int Try.laysSort g 0 cap l0 w hH hg (by omega)).mono ?_
    rintro e w' ⟨rfl, n, os, rfl⟩
    have hgr := grownBy_sortedI (w := w) (g := g) (n := n) (os := os) (l0.mergeSort fun x y => decide (x ≤ y)).toArray
    have ho := ownsRow_sortedI (n := n) (os := os) (ss := l0) hlen hb hh hn hcap hsz
    refine ⟨rfl, ?_, pw_below_grown hB (some g) hB.size hgr (fun k hk => by cases hk; exact hb), Kept.of_grown hgr (Kept.refl _ _) (fun k hk => by cases hk; exact .inl (hok g rfl))⟩
    have ho2 := ho
    rw [← hlen] at ho2
    refine Kd.R_of_own ?_ (fun k hk => .inl (hok k hk))
    rw [hlen]
    exact ho
/-! ### slices_Compact_int_int: function 27 (a contract of the session's own) -/
abbrev slices_Compact_int_int.eq (a b : Int) : Prop := a = b
def slices_Compact_int_int.kp (l : List Int) : Nat → List Int
  | 0 => []
  | 1 => l.take 1
  | j + 2 => if slices_Compact_int_int.eq (rd l ((j + 1 : Nat) : Int)) (rd l (j : Int)) then slices_Compact_int_int.kp l (j + 1) else slices_Compact_int_int.kp l (j + 1) ++ [rd l ((j + 1 : Nat) : Int)]
def slices_Compact_int_int.f (l0 : List Int) : Option (List Int) := if l0.length ≤ 2000000000000 then some (slices_Compact_int_int.kp l0 l0.length) else none
theorem slices_Compact_int_int.rd_get (l : List Int) (i : Nat) (h : i < l.length) : rd l (i : Int) = l[i] := by simp [rd, List.getD_eq_getElem?_getD, h]
theorem slices_Compact_int_int.kp_more {l : List Int} {k : Nat} (h1 : 1 ≤ k) (hk : k < l.length) (h : slices_Compact_int_int.kp l k = l.take k) (hne : ¬ slices_Compact_int_int.eq (rd l (k : Int)) (rd l ((k : Int) - 1))) : slices_Compact_int_int.kp l (k + 1) = l.take (k + 1) := by
  obtain ⟨j, rfl⟩ : ∃ j, k = j + 1 := ⟨k - 1, by omega⟩
  rw [show (((j + 1 : Nat) : Int) - 1) = (j : Int) by omega] at hne
  simp only [slices_Compact_int_int.kp]
  rw [if_neg hne, h, slices_Compact_int_int.rd_get l (j + 1) hk, List.take_succ_eq_append_getElem hk]
def slices_Compact_int_int.St (l L : List Int) (i q : Nat) : Prop := L.length = l.length ∧ 1 ≤ i ∧ i < q ∧ q ≤ l.length ∧ L.take i = slices_Compact_int_int.kp l q ∧ L.drop (q - 1) = l.drop (q - 1)
theorem slices_Compact_int_int.St.start {l : List Int} {k : Nat} (h1 : 1 ≤ k) (hk : k < l.length) (h : slices_Compact_int_int.kp l k = l.take k) (he : slices_Compact_int_int.eq (rd l (k : Int)) (rd l ((k : Int) - 1))) : slices_Compact_int_int.St l l k (k + 1) := by
  refine ⟨rfl, h1, by omega, by omega, ?_, rfl⟩
  obtain ⟨j, rfl⟩ : ∃ j, k = j + 1 := ⟨k - 1, by omega⟩
  rw [show (((j + 1 : Nat) : Int) - 1) = (j : Int) by omega] at he
  simp only [slices_Compact_int_int.kp]
  rw [if_pos he, h]
theorem slices_Compact_int_int.St.at_ {l L : List Int} {i q : Nat} (h : slices_Compact_int_int.St l L i q) (hq : q < l.length) : rd L (q : Int) = rd l (q : Int) ∧ rd L ((q - 1 : Nat) : Int) = rd l ((q - 1 : Nat) : Int) := by
  obtain ⟨h1, h2, h3, h4, h5, h6⟩ := h
  have e : ∀ m, q - 1 ≤ m → m < l.length → rd L (m : Int) = rd l (m : Int) := fun m hm hl => by
    have : (L.drop (q - 1))[m - (q - 1)]? = (l.drop (q - 1))[m - (q - 1)]? := by rw [h6]
    rw [List.getElem?_drop, List.getElem?_drop, show q - 1 + (m - (q - 1)) = m by omega] at this
    simp [rd, List.getD_eq_getElem?_getD, this]
  exact ⟨e q (by omega) hq, e (q - 1) (by omega) (by omega)⟩
theorem slices_Compact_int_int.St.skip {l L : List Int} {i q : Nat} (h : slices_Compact_int_int.St l L i q) (hq : q < l.length) (he : slices_Compact_int_int.eq (rd L (q : Int)) (rd L ((q - 1 : Nat) : Int))) : slices_Compact_int_int.St l L i (q + 1) := by
  rw [(h.at_ hq).1, (h.at_ hq).2] at he
  obtain ⟨h1, h2, h3, h4, h5, h6⟩ := h
  obtain ⟨j, rfl⟩ : ∃ j, q = j + 1 := ⟨q - 1, by omega⟩
  refine ⟨h1, h2, by omega, by omega, ?_, ?_⟩
  · simp only [slices_Compact_int_int.kp]
    rw [h5]
    exact (if_pos he).symm
  · have := congrArg (fun z => z.drop 1) h6
    simp only [List.drop_drop] at this
    simpa using this
theorem slices_Compact_int_int.St.put {l L : List Int} {i q : Nat} (h : slices_Compact_int_int.St l L i q) (hq : q < l.length) (hne : ¬ slices_Compact_int_int.eq (rd L (q : Int)) (rd L ((q - 1 : Nat) : Int))) : slices_Compact_int_int.St l (L.set i (rd L (q : Int))) (i + 1) (q + 1) := by
  rw [(h.at_ hq).1, (h.at_ hq).2] at hne
  rw [(h.at_ hq).1]
  obtain ⟨h1, h2, h3, h4, h5, h6⟩ := h
  obtain ⟨j, rfl⟩ : ∃ j, q = j + 1 := ⟨q - 1, by omega⟩
  refine ⟨by rw [List.length_set, h1], by omega, by omega, by omega, ?_, ?_⟩
  · have hi : i < (L.set i (rd l ((j + 1 : Nat) : Int))).length := by rw [List.length_set]; omega
    simp only [slices_Compact_int_int.kp]
    rw [List.take_succ_eq_append_getElem hi, List.getElem_set_self, List.take_set_of_le (Nat.le_refl _), h5]
    exact (if_neg hne).symm
  · rw [List.drop_set_of_lt (by omega)]
    have := congrArg (fun z => z.drop 1) h6
    simp only [List.drop_drop] at this
    simpa using this
theorem slices_Compact_int_int.St.done {l L : List Int} {i q : Nat} (h : slices_Compact_int_int.St l L i q) (hq : ¬ q < l.length) : L.take i = slices_Compact_int_int.kp l l.length := by
  obtain ⟨h1, h2, h3, h4, h5, h6⟩ := h
  rw [h5, show q = l.length by omega]
theorem slices_Compact_int_int.zero : (Try.prog.info? 3).map (fun i => (i.zero, i.size)) = some (some (.int .i64 0), 1) := by kernel_rfl
set_option maxHeartbeats 4000000 in
set_option maxRecDepth 100000 in
theorem slices_Compact_int_int.calls (P0_ : Nat → Prop) (u : Value) (l0 : List Int) (r : List Int) (w0 w : World) (hB : Below w0.heap.size w0 w) (ho0 : Kd.R (Kd.int .i64) 3 w w0.heap.size P0_ u l0) (h : slices_Compact_int_int.f l0 = some r) :
    Calls Try.prog 27 #[u] w fun e w' => ∃ v0_ : Value, e = .returned v0_ ∧ Kd.R (Kd.int .i64) 3 w' w0.heap.size (fun k_ => (P0_ k_ ∨ w.heap.size ≤ k_)) v0_ r ∧ Below w0.heap.size w0 w' ∧ Kept w w' (fun k_ => P0_ k_) := by
  have hl : l0.length ≤ 2000000000000 := by
    unfold slices_Compact_int_int.f at h
    split at h
    · assumption
    · exact absurd h (by simp)
  obtain rfl : slices_Compact_int_int.kp l0 l0.length = r := by
    unfold slices_Compact_int_int.f at h
    rw [if_pos hl] at h
    exact Option.some.inj h
  clear h
  have HL := Aside0.mk hl
  have HW := Aside0.mk hB
  have HR := Aside0.mk ho0
  by_cases h2 : l0.length < 2
  · obtain ⟨A, c, rfl, hlc, hC⟩ := Kd.R_reads ho0
    have HK : Aside0 (slices_Compact_int_int.kp l0 l0.length = l0) := ⟨by
      rcases l0 with _ | ⟨x, _ | ⟨y, l⟩⟩
      · rfl
      · rfl
      · exact absurd h2 (by simp only [List.length_cons]; omega)⟩
    have q2 : (l0.length : Int) < 2 := by omega
    clear hlc hC ho0 hB hl
    go_enter Try.func27, Try.ntmps27
    go_wp2
    go_ret
    exact ⟨_, rfl, by rw [HK.out]; exact Kd.R_mono HR.out (fun _ hk => .inl hk), HW.out, Kept.refl _ _⟩
  · obtain ⟨g, cap, he, hbg, hlt, cells, hcells⟩ := Kd.R_form ho0 (by omega)
    subst he
    have A3 := Aside0.mk ((Kd.R_reads' ho0).2.1)
    have AG := Aside0.mk hbg
    have AI := Aside0.mk (show ¬ l0.length < 2 from h2)
    have q2 : ¬ (l0.length : Int) < 2 := by omega
    have q2b : decide ((l0.length : Int) < 2) = false := decide_eq_false q2
    have A4 := Aside0.mk (show slices_Compact_int_int.kp l0 1 = l0.take 1 from rfl)
    have HG := Aside0.mk (HR.out.1 g (by simp [Value.ownBlock]))
    have HO := Aside0.mk (Kd.R_mono (ok' := fun k_ => P0_ k_ ∨ w.heap.size ≤ k_) HR.out (fun _ hk => .inl hk))
    clear ho0 hB hl hlt hcells hbg h2
    go_enter Try.func27, Try.ntmps27
    go_wp2
    go_loopw [3] (fun v3 wr => ∃ (k : Nat) (kk : Int), Aside0 (1 ≤ k ∧ k ≤ l0.length ∧ slices_Compact_int_int.kp l0 k = l0.take k) ∧ Aside0 (kk = (k : Int)) ∧ v3 = .int .i64 kk ∧ Aside0 (Kd.R (Kd.int .i64) 3 wr w0.heap.size (fun k_ => P0_ k_ ∨ w.heap.size ≤ k_) (.slice (some ⟨g, 0, none⟩) l0.length cap) l0) ∧ Aside0 (Below w0.heap.size w0 wr) ∧ Aside0 (Kept w wr (fun k_ => P0_ k_))) (fun v3 _ => l0.length - (intOf v3).toNat)
    case atStart => exact ⟨1, 1, ⟨by omega, by have := AI.out; omega, A4.out⟩, ⟨rfl⟩, by first | rfl | (simp; done), HO, HW, ⟨Kept.refl _ _⟩⟩
    case round =>
      obtain ⟨k, kk, HS, HKK, rfl, HO2, HB2, HK2⟩ := hrel
      by_cases hlt : kk < (l0.length : Int)
      · have hk0 : (0 : Int) ≤ kk := by have := HKK.out; omega
        have HKI := Aside0.mk (show 1 ≤ k ∧ k < l0.length by have := HKK.out; have := HS.out.1; omega)
        have hj0 : (0 : Int) ≤ kk - 1 := by have := HKK.out; have := HS.out.1; omega
        have hj1 : kk - 1 < (l0.length : Int) := by omega
        have hjw : wrap64 (kk - 1) = kk - 1 := by have := HL.out; unfold wrap64; omega
        have hjv : IntKind.i64.wrap (kk - 1) = kk - 1 := (i64_w _).trans hjw
        have hx := (Kd.R_cell (0 : Int) HO2.out kk hk0 hlt).1
        have hy := (Kd.R_cell (0 : Int) HO2.out (kk - 1) hj0 hj1).1
        obtain ⟨x, ex⟩ : ∃ x, x = rdOf (0 : Int) l0 kk := ⟨_, rfl⟩
        obtain ⟨y, ey⟩ : ∃ y, y = rdOf (0 : Int) l0 (kk - 1) := ⟨_, rfl⟩
        rw [← ex] at hx
        rw [← ey] at hy
        have hy' := hy
        rw [show (kk - 1).toNat = kk.toNat - 1 by omega] at hy'
        have hk1 : 1 ≤ kk := by omega
        have EX := Aside0.mk (show x = rd l0 (k : Int) by first | (rw [ex, HKK.out]; rfl) | rw [ex, HKK.out])
        have EY := Aside0.mk (show y = rd l0 ((k : Int) - 1) by first | (rw [ey, HKK.out]; rfl) | rw [ey, HKK.out])
        clear ex ey
        by_cases e : slices_Compact_int_int.eq x y
        · skip
          have e1 : (x == y) = true := beq_iff_eq.mpr e; have e2 : decide (x = y) = true := decide_eq_true e; have e4 : (x != y) = false := bne_eq_false_iff_eq.mpr e
          have A5 := Aside0.mk (slices_Compact_int_int.St.start HKI.out.1 HKI.out.2 HS.out.2.2 (by rw [← EX.out, ← EY.out]; exact e))
          have hcutS := cut_from (P := Try.prog) 25 3 .i64 Try.underlying25 (info_parts info3).choose_spec.1 1 (info_parts info3).choose_spec.2.2.1 (some ⟨g, 0, none⟩) l0.length cap kk hk0 (Int.le_of_lt hlt)
          rw [if_neg (show ¬ cap = kk.toNat by have := A3.out; omega)] at hcutS
          simp only [Option.map_some, add_plain, Nat.zero_add, Nat.mul_one] at hcutS
          have HD2 := Aside0.mk (Kd.R_drew HO2.out)
          have HB3 := Aside0.mk (show Below w0.heap.size w0 wr.drew by first | exact below_drew1 HB2.out | (apply below_drew1; exact HB2.out))
          have HK3 := Aside0.mk (show Kept w wr.drew (fun k_ => P0_ k_) by first | exact Kept.drew HK2.out | (apply Kept.drew; exact HK2.out))
          have HKL := Aside0.mk hlt
          clear e
          go_wp2
          go_region
          go_wp2
          clear hx hy hy' hcutS hjw hjv hk1 hj0 hj1 e1 e2 EX EY HO2 HB2 HK2 hlt
          go_loopw [3, 5] (fun v3 v5 wr => ∃ (L : List Int) (i q : Nat) (ii jj : Int), Aside0 (slices_Compact_int_int.St l0 L i q) ∧ Aside0 (ii = (i : Int)) ∧ Aside0 (jj = (q : Int) - (k : Int) ∧ k < q) ∧ v3 = .int .i64 ii ∧ v5 = .int .i64 jj ∧ Aside0 (Kd.R (Kd.int .i64) 3 wr w0.heap.size (fun k_ => P0_ k_ ∨ w.heap.size ≤ k_) (.slice (some ⟨g, 0, none⟩) l0.length cap) L) ∧ Aside0 (Below w0.heap.size w0 wr) ∧ Aside0 (Kept w wr (fun k_ => P0_ k_))) (fun _ v5 _ => l0.length - (intOf v5).toNat)
          case atStart => exact ⟨l0, k, k + 1, kk, 1, A5, HKK, ⟨by omega, by omega⟩, by first | rfl | (simp; done), by first | rfl | (simp; done), HD2, HB3, HK3⟩
          case round =>
            obtain ⟨L, i, q, ii, jj, HS2, HII, HJJ, rfl, rfl, HO4, HB4, HK4⟩ := hrel
            by_cases hlt2 : jj < ((l0.length - kk.toNat : Nat) : Int)
            · have hq := HJJ.out
              have hkk := HKK.out
              have hKI := HKI.out
              have hq0 : (0 : Int) ≤ jj := by omega
              have hq1 : 1 ≤ jj := by omega
              have HQ := Aside0.mk (show q < l0.length by omega)
              have HLn := Aside0.mk HS2.out.1
              have HO5 : Aside0 (Kd.R (Kd.int .i64) 3 wr w0.heap.size (fun k_ => P0_ k_ ∨ w.heap.size ≤ k_) (.slice (some ⟨g, 0, none⟩) L.length cap) L) := ⟨by rw [HLn.out]; exact HO4.out⟩
              have hx := (Kd.R_cell (0 : Int) HO5.out (q : Int) (by omega) (by rw [HLn.out]; have := HQ.out; omega)).1
              have hy := (Kd.R_cell (0 : Int) HO5.out ((q - 1 : Nat) : Int) (by omega) (by rw [HLn.out]; have := HQ.out; omega)).1
              obtain ⟨x, ex⟩ : ∃ x, x = rdOf (0 : Int) L (q : Int) := ⟨_, rfl⟩
              obtain ⟨y, ey⟩ : ∃ y, y = rdOf (0 : Int) L ((q - 1 : Nat) : Int) := ⟨_, rfl⟩
              rw [← ex, show ((q : Int)).toNat = kk.toNat + jj.toNat by omega] at hx
              rw [← ey, show (((q - 1 : Nat) : Int)).toNat = kk.toNat + (jj.toNat - 1) by omega] at hy
              have hjb : jj - 1 < ((l0.length - kk.toNat : Nat) : Int) := by omega
              have hja : (0 : Int) ≤ jj - 1 := by omega
              have hjw : wrap64 (jj - 1) = jj - 1 := by have := HL.out; unfold wrap64; omega
              have hjv : IntKind.i64.wrap (jj - 1) = jj - 1 := (i64_w _).trans hjw
              have EX := Aside0.mk (show x = rd L (q : Int) by first | (rw [ex]; rfl) | rw [ex])
              have EY := Aside0.mk (show y = rd L ((q - 1 : Nat) : Int) by first | (rw [ey]; rfl) | rw [ey])
              clear ex ey hq hkk hKI
              by_cases e : slices_Compact_int_int.eq x y
              · skip
                have e1 : (x == y) = true := beq_iff_eq.mpr e; have e2 : decide (x = y) = true := decide_eq_true e; have e4 : (x != y) = false := bne_eq_false_iff_eq.mpr e
                have A6 := Aside0.mk (HS2.out.skip HQ.out (by rw [← EX.out, ← EY.out]; exact e))
                clear e
                go_wp2
                go_region
                go_wp2
                go_roundw
                case rel => exact ⟨L, i, q + 1, ii, wrap64 (jj + 1), A6, HII, ⟨by have := HJJ.out; have := HL.out; have := HQ.out; unfold wrap64; omega, by have := HJJ.out; omega⟩, by first | rfl | (simp; done), by first | rfl | (simp; done) | (unfold wrap64; go_num), ⟨by (with_reducible repeat (first | apply Kd.R_drewN | apply Kd.R_drew)); exact HO4.out⟩, ⟨by repeat (first | exact HB4.out | apply pw_below_drewN | apply below_drew1)⟩, ⟨by repeat (first | exact HK4.out | apply Kept.drewN | apply Kept.drew)⟩⟩
                case measure => have := HJJ.out; have := HL.out; have := HQ.out; first | (show l0.length - (wrap64 (jj + 1)).toNat < l0.length - jj.toNat; unfold wrap64; omega) | (simp [intOf]; unfold wrap64; omega)
              · skip
                have e1 : (x == y) = false := beq_eq_false_iff_ne.mpr e; have e2 : decide (x = y) = false := decide_eq_false e; have e4 : (x != y) = true := bne_iff_ne.mpr e
                have A6 := Aside0.mk (HS2.out.put HQ.out (by rw [← EX.out, ← EY.out]; exact e))
                clear e
                have hI0 : (0 : Int) ≤ ii := by have := HII.out; omega
                have hI1 : ii < (l0.length : Int) := by have := HII.out; have := HS2.out.2.2.1; have := HQ.out; omega
                have HII1 := Aside0.mk hI1
                have hc := Kd.R_cell (0 : Int) HO5.out ii hI0 (by rw [HLn.out]; exact hI1)
                obtain ⟨hc1, hc2⟩ := hc
                generalize rdOf (0 : Int) L ii = old at hc1
                have hput := Kd.R_put (Kd.R_drew HO5.out) ii x
                rw [HLn.out] at hput
                have HP1 := Aside0.mk hput.1
                have HP2 := Aside0.mk hput.2
                clear hput
                go_wp2
                go_region
                go_wp2
                go_roundw
                case rel => exact ⟨L.set ii.toNat x, i + 1, q + 1, wrap64 (ii + 1), wrap64 (jj + 1), ⟨by rw [HII.out, Int.toNat_natCast, EX.out]; exact A6.out⟩, ⟨by have := HII.out; have := HII1.out; have := HL.out; unfold wrap64; omega⟩, ⟨by have := HJJ.out; have := HL.out; have := HQ.out; unfold wrap64; omega, by have := HJJ.out; omega⟩, by first | rfl | (simp; done) | (unfold wrap64; go_num), by first | rfl | (simp; done) | (unfold wrap64; go_num), HP1, ⟨(below_drew1 HB4.out).grown HP2.out (below_drew1 HB4.out).size (fun k hk => by injection hk with hk; subst hk; exact AG.out)⟩, ⟨Kept.of_grown HP2.out (Kept.drew HK4.out) (fun k hk => by injection hk with hk; subst hk; exact .inl HG.out)⟩⟩
                case measure => have := HJJ.out; have := HL.out; have := HQ.out; first | (show l0.length - (wrap64 (jj + 1)).toNat < l0.length - jj.toNat; unfold wrap64; omega) | (simp [intOf]; unfold wrap64; omega)
            · have HD : Aside0 (L.take ii.toNat = slices_Compact_int_int.kp l0 l0.length) := ⟨by rw [HII.out, Int.toNat_natCast]; exact HS2.out.done (by have := HJJ.out; have := HKK.out; have := HKI.out; omega)⟩
              have hI0 : (0 : Int) ≤ ii := by have := HII.out; omega
              have hI1 : ii < (l0.length : Int) := by have := HII.out; have := HS2.out.2.2.1; have := HS2.out.2.2.2.1; omega
              have hI2 : ii ≤ (l0.length : Int) := Int.le_of_lt hI1
              obtain ⟨i1, hi1, _, hsz1, _⟩ := info_parts info3
              have hcutA := cut_from (P := Try.prog) 25 3 .i64 Try.underlying25 hi1 1 hsz1 (some ⟨g, 0, none⟩) l0.length cap ii hI0 hI2
              have hcutB := cut_to (P := Try.prog) 25 3 .i64 Try.underlying25 hi1 (some ⟨g, 0, none⟩) l0.length cap ii hI0 hI2 A3.out
              rw [if_neg (show ¬ cap = ii.toNat by have := A3.out; omega)] at hcutA
              simp only [Option.map_some, add_plain, Nat.zero_add, Nat.mul_one] at hcutA
              obtain ⟨cur, hh, hcs⟩ := Kd.R_block HO4.out
              have HH := Aside0.mk hh
              have HS5 := Aside0.mk (show ii.toNat + (l0.length - ii.toNat) * 1 ≤ cur.size by rw [hcs, show ((Kd.int .i64)).sz = 1 from rfl]; have := A3.out; omega)
              have HS6 := Aside0.mk (show ii.toNat + (l0.length - ii.toNat) * 1 ≤ cap * ((Kd.int .i64)).sz by rw [show ((Kd.int .i64)).sz = 1 from rfl]; have := A3.out; omega)
              have HS7 := Aside0.mk (show 0 < l0.length - ii.toNat by omega)
              have HS8 := Aside0.mk (show ii.toNat ≤ L.length by rw [HS2.out.1]; omega)
              clear hi1 hsz1 hh hcs
              obtain ⟨vs, hvs, hclr⟩ := run_clear_row (P := Try.prog) (ty := 0) (c := cap - ii.toNat) (q := ii.toNat) (n := l0.length - ii.toNat) (t := 25) (e := 3) Try.underlying25 slices_Compact_int_int.zero rfl (by decide) (by simp [Value.oneCell', Value.cells]) HH.out HS7.out HS5.out
              have HVS := Aside0.mk hvs
              clear hvs
              go_wp2
              go_ret
              have hb := Kd.R_beyond (Kd.R_take HO4.out HS8.out) ii.toNat vs (by rw [show ((Kd.int .i64)).sz = 1 from rfl]; omega) (by rw [HVS.out]; exact HS6.out)
              refine ⟨_, rfl, ?_, HB4.out.grown hb.2 HB4.out.size (fun k hk => by injection hk with hk; subst hk; exact AG.out), Kept.of_grown hb.2 HK4.out (fun k hk => by injection hk with hk; subst hk; exact .inl HG.out)⟩
              rw [← HD.out]
              exact hb.1
        · skip
          have e1 : (x == y) = false := beq_eq_false_iff_ne.mpr e; have e2 : decide (x = y) = false := decide_eq_false e; have e4 : (x != y) = true := bne_iff_ne.mpr e
          have A5 := Aside0.mk (slices_Compact_int_int.kp_more HKI.out.1 HKI.out.2 HS.out.2.2 (by rw [← EX.out, ← EY.out]; exact e))
          clear e
          go_wp2
          go_region
          go_wp2
          go_roundw
          case rel => exact ⟨k + 1, wrap64 (kk + 1), ⟨by omega, by have := HKI.out; omega, A5.out⟩, ⟨by have := HKK.out; have := HL.out; unfold wrap64; omega⟩, by first | rfl | (simp; done) | (unfold wrap64; go_num), ⟨by (with_reducible repeat (first | apply Kd.R_drewN | apply Kd.R_drew)); exact HO2.out⟩, ⟨by repeat (first | exact HB2.out | apply pw_below_drewN | apply below_drew1)⟩, ⟨by repeat (first | exact HK2.out | apply Kept.drewN | apply Kept.drew)⟩⟩
          case measure => have := HKK.out; have := HL.out; have := HKI.out; first | (show l0.length - (wrap64 (kk + 1)).toNat < l0.length - kk.toNat; unfold wrap64; omega) | (simp [intOf]; unfold wrap64; omega)
      · have HD : Aside0 (slices_Compact_int_int.kp l0 l0.length = l0) := ⟨by
          have h1 := HS.out
          have h3 := HKK.out
          have e : k = l0.length := by omega
          have h4 := h1.2.2
          rw [e, List.take_of_length_le (Nat.le_refl _)] at h4
          exact h4⟩
        go_wp2
        go_ret
        exact ⟨_, rfl, by rw [HD.out]; exact HO2.out, HB2.out, HK2.out⟩
/-! ### cmp_isNaN_int: function 83 -/
def cmp_isNaN_int.f (a0 : Int) : Option (Bool) := some (a0 != a0)
set_option maxHeartbeats 8000000 in
set_option maxRecDepth 100000 in
theorem cmp_isNaN_int.calls (a0 : Int) (r : Bool) (w : World) (h : cmp_isNaN_int.f a0 = some r) :
  Calls Try.prog 83 #[.int .i64 a0] w fun e w' => e = .returned (.bool r) ∧ Drawn0 w w' := by
 have H : (some (a0 != a0)) = some r := h
 clear h
 obtain rfl := Option.some.inj H
 go_enter Try.func83, Try.ntmps83
 go_wp2
 go_ret
 exact ⟨by first | rfl | (unfold wrap64; rfl) | (simp; done) | (simp [*]; done), by repeat (first | exact Drawn0.refl _ | apply Drawn0.step)⟩
/-! ### cmp_Less_int: function 48 -/
def cmp_Less_int.f (a0 : Int) (a1 : Int) : Option (Bool) := (cmp_isNaN_int.f a0).bind fun t271 => (if t271 = true then ((cmp_isNaN_int.f a1).bind fun t272 => (if t272 = true then (some (decide (a0 < a1))) else (some true))) else (some (decide (a0 < a1))))
set_option maxHeartbeats 8000000 in
set_option maxRecDepth 100000 in
theorem cmp_Less_int.calls (a0 : Int) (a1 : Int) (r : Bool) (w : World) (h : cmp_Less_int.f a0 a1 = some r) :
  Calls Try.prog 48 #[.int .i64 a0, .int .i64 a1] w fun e w' => e = .returned (.bool r) ∧ Drawn0 w w' := by
 have H : ((cmp_isNaN_int.f a0).bind fun t271 => (if t271 = true then ((cmp_isNaN_int.f a1).bind fun t272 => (if t272 = true then (some (decide (a0 < a1))) else (some true))) else (some (decide (a0 < a1))))) = some r := h
 clear h
 replace H := Option.bind_eq_some_iff.mp H
 obtain ⟨t271, A30, H⟩ := H
 replace H : (if t271 = true then ((cmp_isNaN_int.f a1).bind fun t272 => (if t272 = true then (some (decide (a0 < a1))) else (some true))) else (some (decide (a0 < a1)))) = some r := H
 have A3 := Aside0.mk A30
 clear A30
 by_cases c4 : t271 = true
 ·subst c4
  have H1 : ((cmp_isNaN_int.f a1).bind fun t272 => (if t272 = true then (some (decide (a0 < a1))) else (some true))) = some r := by rw [if_pos rfl] at H; exact H
  clear H
  have H := H1
  clear H1
  replace H := Option.bind_eq_some_iff.mp H
  obtain ⟨t272, A50, H⟩ := H
  replace H : (if t272 = true then (some (decide (a0 < a1))) else (some true)) = some r := H
  have A5 := Aside0.mk A50
  clear A50
  by_cases c6 : t272 = true
  ·subst c6
   have H1 : (some (decide (a0 < a1))) = some r := by rw [if_pos rfl] at H; exact H
   clear H
   have H := H1
   clear H1
   obtain rfl := Option.some.inj H
   go_enter Try.func48, Try.ntmps48
   go_wp2_with (first | ((with_reducible refine gate_callee (f := 83) rfl ?_); refine goesL_ (some 6) rfl rfl Try.func83 (by kernel_rfl) rfl #[.int .i64 a0] rfl (by (try simp only [List.map_toArray, List.map_cons, List.map_nil]); first | done | rfl) ?_; (with_reducible refine (cmp_isNaN_int.calls a0 true _ A3.out).mono ?_); rintro e w' ⟨rfl, ⟨nd, rfl⟩⟩; refine ⟨_, rfl, ?_⟩) | (go_at_call 83; (with_reducible refine (cmp_isNaN_int.calls a1 true _ A5.out).mono ?_); rintro e w' ⟨rfl, ⟨nd, rfl⟩⟩; (try clear A5)))
   go_ret
   exact ⟨by first | rfl | (unfold wrap64; rfl) | (simp; done) | (simp [*]; done), by repeat (first | exact Drawn0.refl _ | apply Drawn0.step)⟩
  ·replace c6 := Bool.eq_false_iff.mpr c6
   subst c6
   have H1 : (some true) = some r := by rw [if_neg (show ¬ (false = true) by decide)] at H; exact H
   clear H
   have H := H1
   clear H1
   obtain rfl := Option.some.inj H
   go_enter Try.func48, Try.ntmps48
   go_wp2_with (first | ((with_reducible refine gate_callee (f := 83) rfl ?_); refine goesL_ (some 6) rfl rfl Try.func83 (by kernel_rfl) rfl #[.int .i64 a0] rfl (by (try simp only [List.map_toArray, List.map_cons, List.map_nil]); first | done | rfl) ?_; (with_reducible refine (cmp_isNaN_int.calls a0 true _ A3.out).mono ?_); rintro e w' ⟨rfl, ⟨nd, rfl⟩⟩; refine ⟨_, rfl, ?_⟩) | (go_at_call 83; (with_reducible refine (cmp_isNaN_int.calls a1 false _ A5.out).mono ?_); rintro e w' ⟨rfl, ⟨nd, rfl⟩⟩; (try clear A5)))
   go_ret
   exact ⟨by first | rfl | (unfold wrap64; rfl) | (simp; done) | (simp [*]; done), by repeat (first | exact Drawn0.refl _ | apply Drawn0.step)⟩
 ·replace c4 := Bool.eq_false_iff.mpr c4
  subst c4
  have H1 : (some (decide (a0 < a1))) = some r := by rw [if_neg (show ¬ (false = true) by decide)] at H; exact H
  clear H
  have H := H1
  clear H1
  obtain rfl := Option.some.inj H
  go_enter Try.func48, Try.ntmps48
  go_wp2_with (first | ((with_reducible refine gate_callee (f := 83) rfl ?_); refine goesL_ (some 6) rfl rfl Try.func83 (by kernel_rfl) rfl #[.int .i64 a0] rfl (by (try simp only [List.map_toArray, List.map_cons, List.map_nil]); first | done | rfl) ?_; (with_reducible refine (cmp_isNaN_int.calls a0 false _ A3.out).mono ?_); rintro e w' ⟨rfl, ⟨nd, rfl⟩⟩; refine ⟨_, rfl, ?_⟩))
  go_ret
  exact ⟨by first | rfl | (unfold wrap64; rfl) | (simp; done) | (simp [*]; done), by repeat (first | exact Drawn0.refl _ | apply Drawn0.step)⟩
/-! ### slices_isNaN_int: function 49 -/
def slices_isNaN_int.f (a0 : Int) : Option (Bool) := some (a0 != a0)
set_option maxHeartbeats 8000000 in
set_option maxRecDepth 100000 in
theorem slices_isNaN_int.calls (a0 : Int) (r : Bool) (w : World) (h : slices_isNaN_int.f a0 = some r) :
  Calls Try.prog 49 #[.int .i64 a0] w fun e w' => e = .returned (.bool r) ∧ Drawn0 w w' := by
 have H : (some (a0 != a0)) = some r := h
 clear h
 obtain rfl := Option.some.inj H
 go_enter Try.func49, Try.ntmps49
 go_wp2
 go_ret
 exact ⟨by first | rfl | (unfold wrap64; rfl) | (simp; done) | (simp [*]; done), by repeat (first | exact Drawn0.refl _ | apply Drawn0.step)⟩
/-! ### slices_BinarySearch_int_int: function 28 -/
def slices_BinarySearch_int_int.l0 : Nat → List Int → Int → Int → Int → Int → Option (Int × Bool)
 | 0, _, _, _, _, _ => none
 | k + 1, x0, x1, x6, x7, x8 => if x7 < x8 then (if 0 ≤ (wrap64 ((IntKind.u64.wrap (wrap64 (x7 + x8))) / 2)) then (if (wrap64 ((IntKind.u64.wrap (wrap64 (x7 + x8))) / 2)) < (x0.length : Int) then ((cmp_Less_int.f (rd x0 (wrap64 ((IntKind.u64.wrap (wrap64 (x7 + x8))) / 2))) x1).bind fun t274 => (if t274 = true then (slices_BinarySearch_int_int.l0 k x0 x1 x6 (wrap64 ((wrap64 ((IntKind.u64.wrap (wrap64 (x7 + x8))) / 2)) + 1)) x8) else (slices_BinarySearch_int_int.l0 k x0 x1 x6 x7 (wrap64 ((IntKind.u64.wrap (wrap64 (x7 + x8))) / 2))))) else (none)) else (none)) else (if x7 < x6 then (if 0 ≤ x7 then (if x7 < (x0.length : Int) then (if (rd x0 x7) = x1 then (some (x7, true)) else ((slices_isNaN_int.f (rd x0 x7)).bind fun t277 => (if t277 = true then ((slices_isNaN_int.f x1).bind fun t278 => (some (x7, t278))) else (some (x7, false))))) else (none)) else (none)) else (some (x7, false)))
def slices_BinarySearch_int_int.f (k : Nat) (l0 : List Int) (a1 : Int) : Option (Int × Bool) := slices_BinarySearch_int_int.l0 k l0 a1 (l0.length : Int) 0 (l0.length : Int)
theorem slices_BinarySearch_int_int.l0_succ (k : Nat) (x0 : List Int) (x1 : Int) (x6 : Int) (x7 : Int) (x8 : Int) : slices_BinarySearch_int_int.l0 (k + 1) x0 x1 x6 x7 x8 = (if x7 < x8 then (if 0 ≤ (wrap64 ((IntKind.u64.wrap (wrap64 (x7 + x8))) / 2)) then (if (wrap64 ((IntKind.u64.wrap (wrap64 (x7 + x8))) / 2)) < (x0.length : Int) then ((cmp_Less_int.f (rd x0 (wrap64 ((IntKind.u64.wrap (wrap64 (x7 + x8))) / 2))) x1).bind fun t274 => (if t274 = true then (slices_BinarySearch_int_int.l0 k x0 x1 x6 (wrap64 ((wrap64 ((IntKind.u64.wrap (wrap64 (x7 + x8))) / 2)) + 1)) x8) else (slices_BinarySearch_int_int.l0 k x0 x1 x6 x7 (wrap64 ((IntKind.u64.wrap (wrap64 (x7 + x8))) / 2))))) else (none)) else (none)) else (if x7 < x6 then (if 0 ≤ x7 then (if x7 < (x0.length : Int) then (if (rd x0 x7) = x1 then (some (x7, true)) else ((slices_isNaN_int.f (rd x0 x7)).bind fun t277 => (if t277 = true then ((slices_isNaN_int.f x1).bind fun t278 => (some (x7, t278))) else (some (x7, false))))) else (none)) else (none)) else (some (x7, false)))) := by
 simp only [slices_BinarySearch_int_int.l0]
set_option maxHeartbeats 8000000 in
set_option maxRecDepth 100000 in
theorem slices_BinarySearch_int_int.calls (k : Nat) (A0 : Option Addr) (c0 : Nat) (l0 : List Int) (a1 : Int) (r1 : Int) (r2 : Bool) (w : World) (hr0 : Kd.C (Kd.int .i64) w A0 l0.length l0) (hc0 : l0.length ≤ c0) (h : slices_BinarySearch_int_int.f k l0 a1 = some (r1, r2)) :
  Calls Try.prog 28 #[.slice A0 l0.length c0, .int .i64 a1] w fun e w' => e = .returned (.tuple #[.int .i64 r1, .bool r2]) ∧ Drawn0 w w' := by
 have HR0 := Aside0.mk hr0
 have HC0 := Aside0.mk hc0
 clear hr0 hc0
 have H : (slices_BinarySearch_int_int.l0 k l0 a1 (l0.length : Int) 0 (l0.length : Int)) = some (r1, r2) := h
 clear h
 have H' := Aside0.mk H
 clear H
 go_enter Try.func28, Try.ntmps28
 go_wp2
 go_loopg [7, 8] k (fun kq v7 v8 w' => ∃ (x7_1 : Int) (x8_1 : Int), v7 = .int .i64 x7_1 ∧ v8 = .int .i64 x8_1 ∧ Aside0 (slices_BinarySearch_int_int.l0 kq l0 a1 (l0.length : Int) x7_1 x8_1 = some (r1, r2)) ∧ Aside0 (kq ≤ k) ∧ Drawn0 w w')
 case atStart => exact ⟨(0), ((l0.length : Int)), (by first | rfl | (simp; done) | (simp [*]; done)), (by first | rfl | (simp; done) | (simp [*]; done)), H', ⟨Nat.le_refl _⟩, by repeat (first | exact Drawn0.refl _ | apply Drawn0.step)⟩
 case round =>
  clear H'
  obtain ⟨x7_1, x8_1, rfl, rfl, HA, HK1, ⟨m1, rfl⟩⟩ := hrel
  cases gk with
  | zero => exact absurd HA.out (by simp [slices_BinarySearch_int_int.l0])
  | succ k1 =>
   have H := HA.out
   clear HA
   simp only [slices_BinarySearch_int_int.l0] at H
   by_cases c3 : x7_1 < x8_1
   ·rw [if_pos c3] at H
    have c3b0 : decide (x7_1 < x8_1) = true := decide_eq_true c3
    clear c3
    obtain ⟨ji4, hji4⟩ : ∃ j_ : Int, (wrap64 ((IntKind.u64.wrap (wrap64 (x7_1 + x8_1))) / 2)) = j_ := ⟨_, rfl⟩
    replace H : (if 0 ≤ (ji4) then (if (ji4) < (l0.length : Int) then ((cmp_Less_int.f (rd l0 (ji4)) a1).bind fun t274 => (if t274 = true then (slices_BinarySearch_int_int.l0 k1 l0 a1 (l0.length : Int) (wrap64 ((ji4) + 1)) x8_1) else (slices_BinarySearch_int_int.l0 k1 l0 a1 (l0.length : Int) x7_1 ji4))) else (none)) else (none)) = some (r1, r2) := by first | (rw [hji4] at H; exact H) | (simp only [hji4] at H ⊢; exact H)
    have hji4w : (IntKind.i64.wrap ((IntKind.u64.wrap (wrap64 (x7_1 + x8_1))) / 2)) = ji4 := (i64_w _).trans hji4
    by_cases c5 : 0 ≤ (ji4)
    ·rw [if_pos c5] at H
     have c5b0 : decide (0 ≤ (ji4)) = true := decide_eq_true c5
     clear c5
     by_cases c6 : (ji4) < (l0.length : Int)
     ·rw [if_pos c6] at H
      have c6b0 : decide ((ji4) < (l0.length : Int)) = true := decide_eq_true c6
      clear c6
      replace H := Option.bind_eq_some_iff.mp H
      obtain ⟨t274, A70, H⟩ := H
      replace H : (if t274 = true then (slices_BinarySearch_int_int.l0 k1 l0 a1 (l0.length : Int) (wrap64 ((ji4) + 1)) x8_1) else (slices_BinarySearch_int_int.l0 k1 l0 a1 (l0.length : Int) x7_1 ji4)) = some (r1, r2) := H
      have A7 := Aside0.mk A70
      clear A70
      by_cases c8 : t274 = true
      ·subst c8
       have H1 : (slices_BinarySearch_int_int.l0 k1 l0 a1 (l0.length : Int) (wrap64 ((ji4) + 1)) x8_1) = some (r1, r2) := by rw [if_pos rfl] at H; exact H
       clear H
       have H := H1
       clear H1
       have H' := Aside0.mk H
       clear H
       have p273 : 0 ≤ ((ji4) : Int) := of_decide_eq_true (by assumption)
       have q273 : (ji4) < (l0.length : Int) := of_decide_eq_true (by assumption)
       obtain ⟨ad273, e273, hx273_0⟩ := Kd.at_int HR0.out (ji4) p273 q273
       cases e273
       replace p273 := eq_true p273
       replace q273 := eq_true q273
       go_wp2_with (first | ((with_reducible refine gate_callee (f := 48) rfl ?_); refine goesL_ (some 27) rfl rfl Try.func48 (by kernel_rfl) rfl #[.int .i64 (rd l0 (ji4)), .int .i64 a1] rfl (by (try simp only [List.map_toArray, List.map_cons, List.map_nil]); first | done | (simp only [hji4]; rfl) | rfl | (simp only [List.length_drop, List.length_take]; rfl)) ?_; (with_reducible refine (cmp_Less_int.calls (rd l0 (ji4)) a1 true _ A7.out).mono ?_); rintro e w' ⟨rfl, ⟨nd, rfl⟩⟩; refine ⟨_, rfl, ?_⟩))
       go_roundg k1
       case measure => have := HK1.out; omega
       case rel => exact ⟨(wrap64 ((ji4) + 1)), (x8_1), (by first | rfl | (simp; done) | (simp only [← hji4] <;> (first | rfl | simp)) | (simp [*]; done)), (by first | rfl | (simp; done) | (simp [*]; done)), (by first | exact H' | (simp only [hji4]; exact H')), ⟨by have := HK1.out; omega⟩, by repeat (first | exact Drawn0.refl _ | apply Drawn0.step)⟩
      ·replace c8 := Bool.eq_false_iff.mpr c8
       subst c8
       have H1 : (slices_BinarySearch_int_int.l0 k1 l0 a1 (l0.length : Int) x7_1 ji4) = some (r1, r2) := by rw [if_neg (show ¬ (false = true) by decide)] at H; exact H
       clear H
       have H := H1
       clear H1
       have H' := Aside0.mk H
       clear H
       have p273 : 0 ≤ ((ji4) : Int) := of_decide_eq_true (by assumption)
       have q273 : (ji4) < (l0.length : Int) := of_decide_eq_true (by assumption)
       obtain ⟨ad273, e273, hx273_0⟩ := Kd.at_int HR0.out (ji4) p273 q273
       cases e273
       replace p273 := eq_true p273
       replace q273 := eq_true q273
       go_wp2_with (first | ((with_reducible refine gate_callee (f := 48) rfl ?_); refine goesL_ (some 27) rfl rfl Try.func48 (by kernel_rfl) rfl #[.int .i64 (rd l0 (ji4)), .int .i64 a1] rfl (by (try simp only [List.map_toArray, List.map_cons, List.map_nil]); first | done | (simp only [hji4]; rfl) | rfl | (simp only [List.length_drop, List.length_take]; rfl)) ?_; (with_reducible refine (cmp_Less_int.calls (rd l0 (ji4)) a1 false _ A7.out).mono ?_); rintro e w' ⟨rfl, ⟨nd, rfl⟩⟩; refine ⟨_, rfl, ?_⟩))
       go_roundg k1
       case measure => have := HK1.out; omega
       case rel => exact ⟨(x7_1), (ji4), (by first | rfl | (simp; done) | (simp [*]; done)), (by first | rfl | (simp; done) | (simp only [← hji4] <;> (first | rfl | simp)) | (simp [*]; done)), (by first | exact H' | (simp only [hji4]; exact H')), ⟨by have := HK1.out; omega⟩, by repeat (first | exact Drawn0.refl _ | apply Drawn0.step)⟩
     ·rw [if_neg c6] at H
      exact absurd H (by simp)
    ·rw [if_neg c5] at H
     exact absurd H (by simp)
   ·rw [if_neg c3] at H
    have c3b0 : decide (x7_1 < x8_1) = false := decide_eq_false c3
    clear c3
    by_cases c9 : x7_1 < (l0.length : Int)
    ·rw [if_pos c9] at H
     have c9b0 : decide (x7_1 < (l0.length : Int)) = true := decide_eq_true c9
     clear c9
     by_cases c10 : 0 ≤ x7_1
     ·rw [if_pos c10] at H
      have c10b0 : decide (0 ≤ x7_1) = true := decide_eq_true c10
      clear c10
      by_cases c11 : x7_1 < (l0.length : Int)
      ·rw [if_pos c11] at H
       have c11b0 : decide (x7_1 < (l0.length : Int)) = true := decide_eq_true c11
       clear c11
       by_cases c12 : (rd l0 x7_1) = a1
       ·rw [if_pos c12] at H
        have c12b0 : ((rd l0 x7_1) == a1) = true := beq_iff_eq.mpr c12
        have c12b1 : ((rd l0 x7_1) != a1) = false := bne_eq_false_iff_eq.mpr c12
        clear c12
        simp only [Option.some.injEq, Prod.mk.injEq] at H
        obtain ⟨rfl, rfl⟩ := H
        have p275 : 0 ≤ (x7_1 : Int) := of_decide_eq_true (by assumption)
        have q275 : x7_1 < (l0.length : Int) := of_decide_eq_true (by assumption)
        obtain ⟨ad275, e275, hx275_0⟩ := Kd.at_int HR0.out x7_1 p275 q275
        cases e275
        replace p275 := eq_true p275
        replace q275 := eq_true q275
        go_wp2
        go_ret2
        exact ⟨by first | rfl | (unfold wrap64; rfl) | (simp; done) | (simp [*]; done), by repeat (first | exact Drawn0.refl _ | apply Drawn0.step)⟩
       ·rw [if_neg c12] at H
        have c12b0 : ((rd l0 x7_1) == a1) = false := beq_eq_false_iff_ne.mpr c12
        have c12b1 : ((rd l0 x7_1) != a1) = true := bne_iff_ne.mpr c12
        replace H := Option.bind_eq_some_iff.mp H
        obtain ⟨t277, A130, H⟩ := H
        replace H : (if t277 = true then ((slices_isNaN_int.f a1).bind fun t278 => (some (x7_1, t278))) else (some (x7_1, false))) = some (r1, r2) := H
        have A13 := Aside0.mk A130
        clear A130
        by_cases c14 : t277 = true
        ·subst c14
         have H1 : ((slices_isNaN_int.f a1).bind fun t278 => (some (x7_1, t278))) = some (r1, r2) := by rw [if_pos rfl] at H; exact H
         clear H
         have H := H1
         clear H1
         replace H := Option.bind_eq_some_iff.mp H
         obtain ⟨t278, A150, H⟩ := H
         replace H : (some (x7_1, t278)) = some (r1, r2) := H
         have A15 := Aside0.mk A150
         clear A150
         simp only [Option.some.injEq, Prod.mk.injEq] at H
         obtain ⟨rfl, rfl⟩ := H
         have p275 : 0 ≤ (x7_1 : Int) := of_decide_eq_true (by assumption)
         have q275 : x7_1 < (l0.length : Int) := of_decide_eq_true (by assumption)
         obtain ⟨ad275, e275, hx275_0⟩ := Kd.at_int HR0.out x7_1 p275 q275
         cases e275
         replace p275 := eq_true p275
         replace q275 := eq_true q275
         have p276 : 0 ≤ (x7_1 : Int) := of_decide_eq_true (by assumption)
         have q276 : x7_1 < (l0.length : Int) := of_decide_eq_true (by assumption)
         obtain ⟨ad276, e276, hx276_0⟩ := Kd.at_int HR0.out x7_1 p276 q276
         obtain rfl : ad275 = ad276 := (by injection e276)
         replace p276 := eq_true p276
         replace q276 := eq_true q276
         go_wp2_with (first | (go_at_call 49; (with_reducible refine (slices_isNaN_int.calls (rd l0 x7_1) true _ A13.out).mono ?_); rintro e w' ⟨rfl, ⟨nd, rfl⟩⟩; (try clear A13)) | (go_at_call 49; (with_reducible refine (slices_isNaN_int.calls a1 t278 _ A15.out).mono ?_); rintro e w' ⟨rfl, ⟨nd, rfl⟩⟩; (try clear A15)))
         go_ret2
         exact ⟨by first | rfl | (unfold wrap64; rfl) | (simp; done) | (simp [*]; done), by repeat (first | exact Drawn0.refl _ | apply Drawn0.step)⟩
        ·replace c14 := Bool.eq_false_iff.mpr c14
         subst c14
         have H1 : (some (x7_1, false)) = some (r1, r2) := by rw [if_neg (show ¬ (false = true) by decide)] at H; exact H
         clear H
         have H := H1
         clear H1
         simp only [Option.some.injEq, Prod.mk.injEq] at H
         obtain ⟨rfl, rfl⟩ := H
         have p275 : 0 ≤ (x7_1 : Int) := of_decide_eq_true (by assumption)
         have q275 : x7_1 < (l0.length : Int) := of_decide_eq_true (by assumption)
         obtain ⟨ad275, e275, hx275_0⟩ := Kd.at_int HR0.out x7_1 p275 q275
         cases e275
         replace p275 := eq_true p275
         replace q275 := eq_true q275
         have p276 : 0 ≤ (x7_1 : Int) := of_decide_eq_true (by assumption)
         have q276 : x7_1 < (l0.length : Int) := of_decide_eq_true (by assumption)
         obtain ⟨ad276, e276, hx276_0⟩ := Kd.at_int HR0.out x7_1 p276 q276
         obtain rfl : ad275 = ad276 := (by injection e276)
         replace p276 := eq_true p276
         replace q276 := eq_true q276
         go_wp2_with (first | (go_at_call 49; (with_reducible refine (slices_isNaN_int.calls (rd l0 x7_1) false _ A13.out).mono ?_); rintro e w' ⟨rfl, ⟨nd, rfl⟩⟩; (try clear A13)))
         go_ret2
         exact ⟨by first | rfl | (unfold wrap64; rfl) | (simp; done) | (simp [*]; done), by repeat (first | exact Drawn0.refl _ | apply Drawn0.step)⟩
      ·rw [if_neg c11] at H
       exact absurd H (by simp)
     ·rw [if_neg c10] at H
      exact absurd H (by simp)
    ·rw [if_neg c9] at H
     have c9b0 : decide (x7_1 < (l0.length : Int)) = false := decide_eq_false c9
     clear c9
     simp only [Option.some.injEq, Prod.mk.injEq] at H
     obtain ⟨rfl, rfl⟩ := H
     go_wp2
     go_ret2
     exact ⟨by first | rfl | (unfold wrap64; rfl) | (simp; done) | (simp [*]; done), by repeat (first | exact Drawn0.refl _ | apply Drawn0.step)⟩
/-! ### dict_Of_int: function 9 -/
def dict_Of_int.l0 : Nat → List Int → List Int → List Int → Int → Int → Option (List Int × List Int)
 | 0, _, _, _, _, _ => none
 | k + 1, x4, x5, x16, x17, x18 => if x18 < x17 then (if 0 ≤ x18 then (if x18 < (x16.length : Int) then ((slices_BinarySearch_int_int.f k x4 (rd x16 x18)).bind fun bt287 => (if x5.length < 17592186044416 then (dict_Of_int.l0 k x4 (x5 ++ [bt287.1]) x16 x17 (wrap64 (x18 + 1))) else (none))) else (none)) else (none)) else (some (x4, x5))
def dict_Of_int.f (k : Nat) (l0 : List Int) : Option (List Int × List Int) := (slices_Clone_int_int.f l0).bind fun t279 => ((slices_Sort_int_int.f t279).bind fun t282 => ((slices_Compact_int_int.f t282).bind fun t283 => (dict_Of_int.l0 k t283 ([] : List Int) l0 (l0.length : Int) 0)))
theorem dict_Of_int.l0_succ (k : Nat) (x4 : List Int) (x5 : List Int) (x16 : List Int) (x17 : Int) (x18 : Int) : dict_Of_int.l0 (k + 1) x4 x5 x16 x17 x18 = (if x18 < x17 then (if 0 ≤ x18 then (if x18 < (x16.length : Int) then ((slices_BinarySearch_int_int.f k x4 (rd x16 x18)).bind fun bt287 => (if x5.length < 17592186044416 then (dict_Of_int.l0 k x4 (x5 ++ [bt287.1]) x16 x17 (wrap64 (x18 + 1))) else (none))) else (none)) else (none)) else (some (x4, x5))) := by
 simp only [dict_Of_int.l0]
set_option maxHeartbeats 8000000 in
set_option maxRecDepth 100000 in
theorem dict_Of_int.calls (k : Nat) (A0 : Option Addr) (c0 : Nat) (l0 : List Int) (r1 : List Int) (r2 : List Int) (w : World) (hr0 : Kd.C (Kd.int .i64) w A0 l0.length l0) (hc0 : l0.length ≤ c0) (h : dict_Of_int.f k l0 = some (r1, r2)) :
  Calls Try.prog 9 #[.slice A0 l0.length c0] w fun e w' => ∃ v0_ v1_ : Value, e = .returned (.tuple #[v0_, v1_]) ∧ Kd.R (Kd.int .i64) 3 w' w.heap.size (fun k_ => some k_ ≠ (v1_ : Value).ownBlock) v0_ r1 ∧ Kd.R (Kd.int .i64) 3 w' w.heap.size (fun k_ => some k_ ≠ (v0_ : Value).ownBlock) v1_ r2 ∧ Below w.heap.size w w' := by
 have HR0 := Aside0.mk hr0
 have HC0 := Aside0.mk hc0
 clear hr0 hc0
 have HB := Aside0.mk (Below.refl w.heap.size w)
 have H : ((slices_Clone_int_int.f l0).bind fun t279 => ((slices_Sort_int_int.f t279).bind fun t282 => ((slices_Compact_int_int.f t282).bind fun t283 => (dict_Of_int.l0 k t283 ([] : List Int) l0 (l0.length : Int) 0)))) = some (r1, r2) := h
 clear h
 replace H := Option.bind_eq_some_iff.mp H
 obtain ⟨t279, A20, H⟩ := H
 replace H : ((slices_Sort_int_int.f t279).bind fun t282 => ((slices_Compact_int_int.f t282).bind fun t283 => (dict_Of_int.l0 k t283 ([] : List Int) l0 (l0.length : Int) 0))) = some (r1, r2) := H
 have A2 := Aside0.mk A20
 clear A20
 replace H := Option.bind_eq_some_iff.mp H
 obtain ⟨t282, A30, H⟩ := H
 replace H : ((slices_Compact_int_int.f t282).bind fun t283 => (dict_Of_int.l0 k t283 ([] : List Int) l0 (l0.length : Int) 0)) = some (r1, r2) := H
 have A3 := Aside0.mk A30
 clear A30
 replace H := Option.bind_eq_some_iff.mp H
 obtain ⟨t283, A40, H⟩ := H
 replace H : (dict_Of_int.l0 k t283 ([] : List Int) l0 (l0.length : Int) 0) = some (r1, r2) := H
 have A4 := Aside0.mk A40
 clear A40
 have H' := Aside0.mk H
 clear H
 go_enter Try.func9, Try.ntmps9
 go_wp2_with (first | ((with_reducible refine gate_callee (f := 25) rfl ?_); refine goesL_ (some 11) rfl rfl Try.func25 (by kernel_rfl) rfl #[.slice A0 l0.length c0] rfl (by (try simp only [List.map_toArray, List.map_cons, List.map_nil]); first | done | rfl) ?_; (with_reducible refine (slices_Clone_int_int.calls _ _ l0 t279 _ ?side1 ?side2 A2.out).mono ?_); (case side1 => exact cx HR0.out); (case side2 => exact HC0.out); rintro e w5 ⟨v280, rfl, ho0, hb⟩; refine ⟨_, rfl, ?_⟩; have HO281 := Aside0.mk (Kd.R_lower ho0 (below_size (bh HB.out))); replace HB := bsa HB hb; (try clear hb); (try clear ho0); obtain ⟨Ao6, co6, eo6⟩ := Kd.R_slice HO281.out; subst eo6) | ((with_reducible refine gate_callee (f := 26) rfl ?_); refine goesL_ (some 13) rfl rfl Try.func26 (by kernel_rfl) rfl #[.slice Ao6 t279.length co6] rfl (by (try simp only [List.map_toArray, List.map_cons, List.map_nil]); first | done | rfl) ?_; (with_reducible refine (slices_Sort_int_int.calls (fun k_ => some k_ = (.slice Ao6 t279.length co6 : Value).ownBlock) (.slice Ao6 t279.length co6) t279 t282 w _ ?side1 ?side2 A3.out).mono ?_); (case side1 => repeat (first | (with_reducible first | exact HB.out | apply below_alloc | apply pw_below_drewN | apply below_drew1) | exact HB.out)); (case side2 => exact Kd.R_tight rfl HO281.out); rintro e w7 ⟨rfl, hy0, hb, hkp⟩; refine ⟨_, rfl, ?_⟩; replace HO281 := Aside0.mk (Kd.R_reok rfl hy0 (fun k_ e_ => HO281.out.1 k_ e_)); replace HB := Aside0.mk (hb); (try clear hb); (try clear hkp); (try clear hy0)) | ((with_reducible refine gate_callee (f := 27) rfl ?_); refine goesL_ (some 15) rfl rfl Try.func27 (by kernel_rfl) rfl #[.slice Ao6 t279.length co6] rfl (by (try simp only [List.map_toArray, List.map_cons, List.map_nil]); first | done | rfl) ?_; (with_reducible refine (slices_Compact_int_int.calls (fun k_ => some k_ = (.slice Ao6 t279.length co6 : Value).ownBlock) (.slice Ao6 t279.length co6) t282 t283 w _ ?side1 ?side2 A4.out).mono ?_); (case side1 => repeat (first | (with_reducible first | exact HB.out | apply below_alloc | apply pw_below_drewN | apply below_drew1) | exact HB.out)); (case side2 => exact Kd.R_tight rfl HO281.out); rintro e w8 ⟨v284, rfl, ho0, hb, hkp⟩; refine ⟨_, rfl, ?_⟩; have n0_ := Aside0.mk (Kd.R_mono (ok' := fun k_ => True) ho0 (fun k_ hk_ => trivial)); have n1_ := Aside0.mk (hb); clear HB HO281; have HO285 := n0_; have HB := n1_; clear n0_ n1_; (try clear hb); (try clear hkp); (try clear ho0)))
 go_loopg [5, 18] k (fun kq v5 v18 w' => ∃ (x5_1 : List Int) (x18_1 : Int), v18 = .int .i64 x18_1 ∧ Aside0 (dict_Of_int.l0 kq t283 x5_1 l0 (l0.length : Int) x18_1 = some (r1, r2)) ∧ Aside0 (kq ≤ k) ∧ Aside0 (Kd.R (Kd.int .i64) 3 w' w.heap.size (fun k_ => some k_ ≠ (v5 : Value).ownBlock) v284 t283) ∧ Aside0 (Kd.R (Kd.int .i64) 3 w' w.heap.size (fun k_ => some k_ ≠ (v284 : Value).ownBlock) v5 x5_1) ∧ Aside0 (Below w.heap.size w w'))
 case atStart => exact ⟨(([] : List Int)), (0), (by first | rfl | (simp; done) | (simp [*]; done)), H', ⟨Nat.le_refl _⟩, ⟨by (with_reducible repeat (first | apply Kd.R_alloc | apply Kd.R_drewN | apply Kd.R_drew)); exact Kd.R_mono HO285.out (fun _ hk => (by simp [Value.ownBlock]))⟩, ⟨nl⟩, ⟨bh HB.out⟩⟩
 case round =>
  clear H'
  obtain ⟨x5_1, x18_1, rfl, HA, HK1, HO_4, HO_5, HB⟩ := hrel
  cases gk with
  | zero => exact absurd HA.out (by simp [dict_Of_int.l0])
  | succ k1 =>
   have H := HA.out
   clear HA
   simp only [dict_Of_int.l0] at H
   by_cases c9 : x18_1 < (l0.length : Int)
   ·rw [if_pos c9] at H
    have c9b0 : decide (x18_1 < (l0.length : Int)) = true := decide_eq_true c9
    clear c9
    by_cases c10 : 0 ≤ x18_1
    ·rw [if_pos c10] at H
     have c10b0 : decide (0 ≤ x18_1) = true := decide_eq_true c10
     clear c10
     by_cases c11 : x18_1 < (l0.length : Int)
     ·rw [if_pos c11] at H
      have c11b0 : decide (x18_1 < (l0.length : Int)) = true := decide_eq_true c11
      clear c11
      replace H := Option.bind_eq_some_iff.mp H
      obtain ⟨⟨t287, t288⟩, A120, H⟩ := H
      replace H : (if x5_1.length < 17592186044416 then (dict_Of_int.l0 k1 t283 (x5_1 ++ [t287]) l0 (l0.length : Int) (wrap64 (x18_1 + 1))) else (none)) = some (r1, r2) := H
      have A12 := Aside0.mk A120
      clear A120
      by_cases c13 : x5_1.length < 17592186044416
      ·rw [if_pos c13] at H
       have LMc13 := Aside0.mk c13
       clear c13
       obtain ⟨y289, hy289⟩ : ∃ y_ : List Int, y_ = (x5_1 ++ [t287]) := ⟨_, rfl⟩
       replace H : (dict_Of_int.l0 k1 t283 y289 l0 (l0.length : Int) (wrap64 (x18_1 + 1))) = some (r1, r2) := by first | (rw [hy289]; with_reducible exact H) | (have H2_ := (Option.bind_some _ _).symm.trans H; rw [hy289]; with_reducible exact H2_) | (have H2_ := (Option.bind_some _ _).symm.trans H; with_reducible exact H2_) | with_reducible exact H | (rw [hy289]; exact H) | exact H
       have Ny289 := Aside0.mk hy289
       clear hy289
       have H' := Aside0.mk H
       clear H
       have p286 : 0 ≤ (x18_1 : Int) := of_decide_eq_true (by assumption)
       have q286 : x18_1 < (l0.length : Int) := of_decide_eq_true (by assumption)
       obtain ⟨ad286, e286, hx286_0⟩ := Kd.at_int HR0.out x18_1 p286 q286
       cases e286
       replace hx286_0 := (HB.out.cell (World.block_lt_of_cell? w _ hx286_0)).trans hx286_0
       replace p286 := eq_true p286
       replace q286 := eq_true q286
       obtain ⟨Ao14, co14, eo14⟩ := Kd.R_slice HO_4.out
       subst eo14
       go_wp2_with (first | ((with_reducible refine gate_callee (f := 28) rfl ?_); refine goesL_ (some 25) rfl rfl Try.func28 (by kernel_rfl) rfl #[.slice Ao14 t283.length co14, .int .i64 (rd l0 x18_1)] rfl (by (try simp only [List.map_toArray, List.map_cons, List.map_nil]); first | done | rfl) ?_; (with_reducible refine (slices_BinarySearch_int_int.calls k1 _ _ t283 (rd l0 x18_1) t287 t288 _ ?side1 ?side2 A12.out).mono ?_); (case side1 => exact cx (Kd.R_reads' HO_4.out).2.2); (case side2 => exact (Kd.R_reads' HO_4.out).2.1); rintro e w' ⟨rfl, ⟨nd, rfl⟩⟩; refine ⟨_, rfl, ?_⟩) | ((with_reducible refine gate_builtin (b := .append) (xs := #[.tmp 28, .tmp 30]) rfl ?_); at_builtin; refine Kd.R_append (Kd.int .i64) (w0 := w) w.heap.size rfl (.tmp 28) (.tmp 30) 25 3 (.int .i64 0) 8 rfl Try.underlying25 info3 rfl (by decide) (by omega) u5 x5_1 t287 [.int .i64 t287] (fun k_ => some k_ ≠ (.slice Ao14 t283.length co14 : Value).ownBlock) (fun _ => False) rfl rfl ?aP (fun _ hk => hk.elim) ?aF ?aO ?aB ?aS ?aL ?_; (case aP => exact rfl); (case aB => exact (bh HB.out)); (case aF => exact (fun k_ hk => Kd.fresh' (Kd.R_lt (rx HO_4.out)) k_ hk)); (case aO => exact (rx HO_5.out)); (case aS => exact (below_size (bh HB.out))); (case aL => have := LMc13.out; omega); intro v290 w15 ho hb hg hat; rw [← Ny289.out] at ho; have n0_ := Aside0.mk (Kd.R_after (ok := (fun _ => True)) (by (with_reducible repeat (first | apply Kd.R_alloc | apply Kd.R_drewN | apply Kd.R_drew)); exact Kd.R_mono HO_4.out (fun _ hk => ⟨trivial, hk⟩)) hg hat); have n1_ := Aside0.mk (hb); have n2_ := Aside0.mk (ho); clear HO_4 HB HO_5; have HO_4 := n0_; have HB := n1_; have HO291 := n2_; clear n0_ n1_ n2_; clear ho hb hg hat))
       go_roundg k1
       case measure => have := HK1.out; omega
       case rel => exact ⟨(y289), (wrap64 (x18_1 + 1)), (by first | rfl | (simp; done) | (simp [*]; done)), H', ⟨by have := HK1.out; omega⟩, ⟨by (with_reducible repeat (first | apply Kd.R_alloc | apply Kd.R_drewN | apply Kd.R_drew)); exact Kd.R_mono HO_4.out (fun _ hk => hk.2)⟩, ⟨by (with_reducible repeat (first | apply Kd.R_alloc | apply Kd.R_drewN | apply Kd.R_drew)); exact HO291.out⟩, ⟨bh HB.out⟩⟩
      ·rw [if_neg c13] at H
       exact absurd H (by simp)
     ·rw [if_neg c11] at H
      exact absurd H (by simp)
    ·rw [if_neg c10] at H
     exact absurd H (by simp)
   ·rw [if_neg c9] at H
    have c9b0 : decide (x18_1 < (l0.length : Int)) = false := decide_eq_false c9
    clear c9
    simp only [Option.some.injEq, Prod.mk.injEq] at H
    obtain ⟨rfl, rfl⟩ := H
    go_wp2
    go_ret2
    exact ⟨_, _, er, by (with_reducible repeat (first | apply Kd.R_alloc | apply Kd.R_drewN | apply Kd.R_drew)); exact HO_4.out, by (with_reducible repeat (first | apply Kd.R_alloc | apply Kd.R_drewN | apply Kd.R_drew)); exact HO_5.out, bh HB.out⟩
end Go.Proofs.Ytfohecpfenegkaa.Print
end
