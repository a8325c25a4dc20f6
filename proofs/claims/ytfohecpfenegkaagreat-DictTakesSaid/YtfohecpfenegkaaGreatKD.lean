-- Functions and laws: texts of the session's own and of the kit's print program, joined; what nothing names is left out.
import Derived.Test.YtfohecpfenegkaaGreatKA
import Derived.Test.YtfohecpfenegkaaGreatKW
import Derived.Test.YtfohecpfenegkaaGreatKC
import Derived.Ground.NamesProg
import Derived.Lib.SortBridge
import Derived.Shelf.Slices.In.SortNone
import Derived.Shelf.Sort.Plain
import Derived.Sort.EveryDepth
import Derived.Sort.OwnSortedInts
import Derived.Test.YtfohecpfenegkaaGreatKB
section
namespace Go.Proofs.YtfohecpfenegkaaGreat.Print
open Go.RowKit Go.Proofs.YtfohecpfenegkaaGreatW.PrintWords Go.Proofs.YtfohecpfenegkaaGreatW.PrintLast Go.Proofs.YtfohecpfenegkaaGreatW.PrintMore
attribute [local go_sem] max2_int min2_int max_two min_two max_three min_three max_four min_four   -- for this text's walks alone
set_option linter.unusedVariables false
set_option linter.unusedSimpArgs false
/-! ### peristyleref11_Places: function 10 -/
def peristyleref11_Places.f (k : Nat) (a0 : ByteArray) (a1 : Int) : Option (List ByteArray × List Int × Int) := (peristyleref11_TakeTexts.f k a0 a1).bind fun bt496 => (if bt496.2 = 0 then ((peristyleref11_Texts.f k bt496.1).bind fun bt500 => (some (bt500.1, bt500.2, 0))) else (some (([] : List ByteArray), ([] : List Int), bt496.2)))
set_option maxHeartbeats 8000000 in
set_option maxRecDepth 100000 in
theorem peristyleref11_Places.calls (k : Nat) (a0 : ByteArray) (a1 : Int) (r1 : List ByteArray) (r2 : List Int) (r3 : Int) (w : World) (h : peristyleref11_Places.f k a0 a1 = some (r1, r2, r3)) :
  Calls Tryz.prog 10 #[.string a0, .int .i64 a1] w fun e w' => ∃ v0_ v1_ : Value, e = .returned (.tuple #[v0_, v1_, .int .i64 r3]) ∧ Kd.R Kd.string 9 w' w.heap.size (fun _ => True) v0_ r1 ∧ Kd.R (Kd.int .i64) 3 w' w.heap.size (fun _ => True) v1_ r2 ∧ Below w.heap.size w w' := by
 have HB := Aside0.mk (Below.refl w.heap.size w)
 have H := h
 clear h
 unfold peristyleref11_Places.f at H
 replace H := bd H
 obtain ⟨⟨t496, t497⟩, A3, H⟩ := H
 dsimp only at H
 replace H := ife H
 rcases H with ⟨-, c4b0, c4b1, H⟩ | ⟨c4, c4b0, c4b1, H⟩
 ·replace H := bd H
  obtain ⟨⟨t500, t501⟩, A5, H⟩ := H
  dsimp only at H
  simp only [Option.some.injEq, Prod.mk.injEq] at H
  obtain ⟨rfl, rfl, rfl⟩ := H
  go_enter Tryz.func10, Tryz.ntmps10
  go_wp2_with (first | ((with_reducible refine gate_callee (f := 8) rfl ?_); refine gL 14 Tryz.func8 #[.string a0, .int .i64 a1] ?_; (with_reducible refine (peristyleref11_TakeTexts.calls k a0 a1 t496 t497 _ A3.out).mono ?_); rintro e w6 ⟨v498, rfl, ho0, hb⟩; refine ⟨_, rfl, ?_⟩; have HO499 := Aside0.mk (Kd.R_lower ho0 (below_size (bh HB.out))); replace HB := bsa HB hb; clear hb ho0; obtain ⟨Ao7, co7, eo7⟩ := Kd.R_slice HO499.out; subst eo7) | ((with_reducible refine gate_callee (f := 30) rfl ?_); refine gL 22 Tryz.func30 #[.slice Ao7 t496.length co7] ?_; (with_reducible refine (peristyleref11_Texts.calls k _ _ t496 t500 t501 _ ?side1 ?side2 A5.out).mono ?_); (case side1 => exact cx (Kd.R_reads' HO499.out).2.2); (case side2 => exact (Kd.R_reads' HO499.out).2.1); rintro e w8 ⟨v502, v504, rfl, ho0, ho1, hb⟩; refine ⟨_, rfl, ?_⟩; have HO503 := Aside0.mk (Kd.R_lower (Kd.R_new' ho0 (Kd.R_lt (rx HO499.out))) (below_size (bh HB.out))); replace HO499 := Aside0.mk (Kd.R_elder' (rx HO499.out) (Kd.R_base ho0) hb); have HO505 := Aside0.mk (Kd.R_lower ho1 (below_size (bh HB.out))); replace HB := bsa HB hb; clear hb ho0 ho1))
  go_ret3
  exact ⟨_, _, er, by exact Kd.R_mono HO503.out (fun _ hk => trivial), by exact HO505.out, bh HB.out⟩
 ·simp only [Option.some.injEq, Prod.mk.injEq] at H
  obtain ⟨rfl, rfl, rfl⟩ := H
  go_enter Tryz.func10, Tryz.ntmps10
  go_wp2_with (((with_reducible refine gate_callee (f := 8) rfl ?_); refine gL 14 Tryz.func8 #[.string a0, .int .i64 a1] ?_; (with_reducible refine (peristyleref11_TakeTexts.calls k a0 a1 t496 t497 _ A3.out).mono ?_); rintro e w9 ⟨v498, rfl, ho0, hb⟩; refine ⟨_, rfl, ?_⟩; have HO499 := Aside0.mk (Kd.R_lower ho0 (below_size (bh HB.out))); replace HB := bsa HB hb; clear hb ho0))
  go_ret3
  exact ⟨_, _, er, nl, nl, bh HB.out⟩
/-! ### dict_ints: function 32 (a contract of the session's own) -/
def dict_ints.l0 : Nat → List Int → ByteArray → Int → Option ByteArray
  | 0, _, _, _ => none
  | k + 1, l0, s, i => if i < (l0.length : Int) then (if 0 ≤ i then ((vint_Put.f (rd l0 i)).bind fun x => if s.size + x.size ≤ 100000000000000 then dict_ints.l0 k l0 (s ++ x) (wrap64 (i + 1)) else none) else none) else some s
def dict_ints.f (k : Nat) (l0 : List Int) : Option (ByteArray × Int) := (dict_ints.l0 k l0 ByteArray.empty 0).bind fun s => some (s, 0)
theorem dict_ints.l0_succ (k) (a0) (a1) (a2) : type_of% (@dict_ints.l0.eq_2 a0 a1 a2 k) := dict_ints.l0.eq_2 a0 a1 a2 k
set_option maxHeartbeats 8000000 in
set_option maxRecDepth 100000 in
theorem dict_ints.calls (k : Nat) (A0 : Option Addr) (c0 : Nat) (l0 : List Int) (r1 : ByteArray) (r2 : Int) (w : World) (hr0 : Kd.C (Kd.int .i64) w A0 l0.length l0) (hc0 : l0.length ≤ c0) (h : dict_ints.f k l0 = some (r1, r2)) :
    Calls Tryz.prog 32 #[.slice A0 l0.length c0] w fun e w' => e = .returned (.tuple #[.string r1, .int .i64 r2]) ∧ Below w.heap.size w w' := by
 have HR0 := Aside0.mk hr0
 have HC0 := Aside0.mk hc0
 clear hr0 hc0
 have HB := Aside0.mk (Below.refl w.heap.size w)
 obtain ⟨s9, A2_, H⟩ := Option.bind_eq_some_iff.mp h
 clear h
 simp only [Option.some.injEq, Prod.mk.injEq] at H
 obtain ⟨rfl, rfl⟩ := H
 have H' := Aside0.mk A2_
 clear A2_
 go_enter Tryz.func32, Tryz.ntmps32
 go_wp2_with (((with_reducible refine gate_dst (N := 4) rfl ?_); refine box_event ?hg (N := 4) ?hd (cs := #[.pointer none, .slice none 0 0]) (t := 78) ?hr ?_; (case hd => rfl); (case hg => rfl); (case hr => (go_simp; done)); intro gb hg w2 hbox hb; have HD := Aside0.mk (Bld.fresh (bz HB.out hg) hbox); replace HB := bsa HB hb; clear hb hbox hg))
 go_loopg [9] k (fun kq v9 w' => ∃ (i : Int) (s : ByteArray), v9 = .int .i64 i ∧ Aside0 (dict_ints.l0 kq l0 s i = some s9) ∧ Aside0 (kq ≤ k) ∧ Aside0 (Bld w.heap.size gb s w') ∧ Aside0 (Below w.heap.size w w'))
 case atStart => exact ⟨0, _, (by rfl), H', ⟨Nat.le_refl _⟩, HD, HB⟩
 case round =>
   clear H' HD HB
   obtain ⟨i, s, rfl, HA, HK1, HD, HB⟩ := hrel
   cases gk with
   | zero => exact absurd HA.out (by simp [dict_ints.l0])
   | succ k1 =>
     have H := HA.out
     clear HA
     rw [dict_ints.l0_succ] at H
     replace H := ifd H
     rcases H with ⟨-, c3b0, H⟩ | ⟨-, c3b0, H⟩
     ·replace H := ifn H
      obtain ⟨-, c4b0, H⟩ := H
      obtain ⟨x, A3_, H⟩ := Option.bind_eq_some_iff.mp H
      have H3 := Aside0.mk A3_
      clear A3_
      by_cases q1 : s.size + x.size ≤ 100000000000000
      ·rw [if_pos q1] at H
       have LM := Aside0.mk q1
       clear q1
       have H' := Aside0.mk H
       clear H
       have p2 : 0 ≤ (i : Int) := ad
       have q2 : i < (l0.length : Int) := ad
       obtain ⟨ad, e2, hx0⟩ := Kd.at_int HR0.out i p2 q2
       cases e2
       replace hx0 := cb HB.out.cell hx0
       replace p2 := eq_true p2
       replace q2 := eq_true q2
       go_wp2_with (first | (go_at_call 56; (with_reducible refine (vint_Put.calls (rd l0 i) x _ H3.out).mono ?_); rintro e w7 ⟨rfl, hb⟩; replace HD := Aside0.mk (HD.out.below hb); replace HB := bsa HB hb; clear hb) | (go_at_call 57; (with_reducible refine (strings_Builder_WriteString.calls w.heap.size gb _ x _ HD.out (by have := LM.out; omega) (below_size HB.out)).mono ?_); rintro e w8 ⟨rfl, hd, hb, hk⟩; replace HD := Aside0.mk hd; replace HB := Aside0.mk (HB.out.trans hb); clear hd hb hk))
       go_roundg k1
       case measure => have := HK1.out; omega
       case rel => exact ⟨wrap64 (i + 1), _, (by rfl), H', ⟨by have := HK1.out; omega⟩, HD, HB⟩
      ·rw [if_neg q1] at H
       exact absurd H (by simp)
     ·obtain rfl := Option.some.inj H
      go_wp2_with ((go_at_call 58; (with_reducible refine (strings_Builder_String.calls w.heap.size gb _ _ HD.out (below_size HB.out)).mono ?_); rintro e wS ⟨rfl, hb⟩; replace HB := Aside0.mk (HB.out.trans hb); clear hb))
      go_ret2
      exact ⟨rfl, HB.out⟩
/-! ### slices_Clone_int_int: function 74 (a contract of the session's own) -/
def slices_Clone_int_int.f (l0 : List Int) : Option (List Int) := if l0.length ≤ 2000000000000 then some l0 else none
set_option maxHeartbeats 4000000 in
set_option maxRecDepth 100000 in
theorem slices_Clone_int_int.calls (A0 : Option Addr) (c0 : Nat) (l0 : List Int) (r : List Int) (w : World) (hr0 : (Kd.int .i64).C w A0 l0.length l0) (hc0 : l0.length ≤ c0) (h : slices_Clone_int_int.f l0 = some r) :
    Calls Tryz.prog 74 #[.slice A0 l0.length c0] w fun e w' => ∃ v0_ : Value, e = .returned v0_ ∧ (Kd.int .i64).R 3 w' w.heap.size (fun _ => True) v0_ r ∧ Below w.heap.size w w' := by
 have hl : l0.length ≤ 2000000000000 := by
   unfold slices_Clone_int_int.f at h
   split at h
   ·assumption
   ·exact absurd h (by simp)
 obtain rfl : l0 = r := by
   unfold slices_Clone_int_int.f at h
   rw [if_pos hl] at h
   exact Option.some.inj h
 have HR := Aside0.mk hr0
 have HC := Aside0.mk hc0
 have HL := Aside0.mk hl
 clear hr0 hc0 hl h
 go_enter Tryz.func74, Tryz.ntmps74
 rcases A0 with _ | ad
 ·have h0 : l0 = [] := by
    have := HR.out.2.2
    rcases l0 with _ | ⟨x, l⟩
    ·rfl
    ·obtain ⟨ad, he, _⟩ := this (by simp)
     exact absurd he (by simp)
  subst h0
  have hE := Go.Lib.run_eql_slice_nil_nil (P := Tryz.prog) w (t := 23) (e := 3) 0 c0 Tryz.underlying23
  go_wp2
  go_ret
  exact ⟨_, rfl, Kd.R_nil _ _ _ _ _, Below.refl _ _⟩
 ·have hE := Go.Lib.run_eql_slice_some_nil (P := Tryz.prog) w (t := 23) (e := 3) ad l0.length c0 Tryz.underlying23
  go_wp2_with (first | ((with_reducible refine gate_dst (N := 5) rfl ?_); refine Kd.R_lit (Kd.int .i64) (w0 := w) w.heap.size 3 rfl (N := 5) rfl (xs := []) (inner := []) (ok := fun _ => True) (okp := fun _ => True) (by (go_simp; done)) (Reps.none _ _) (fun _ _ => trivial) trivial (Below.refl _ _) (Nat.le_refl _) (by simp) ?_; intro v5 w1 ho5 hb hg_ hnew_; have HO5 := Aside0.mk ho5; have HB := Aside0.mk hb; clear ho5 hb hg_ hnew_; obtain ⟨Ao5, co5, eo5⟩ := Kd.R_slice HO5.out; subst eo5) | ((with_reducible refine gate_builtin (b := .append) (xs := #[.tmp 5, .tmp 6]) rfl ?_); at_builtin; refine Kd.R_append_rows (Kd.int .i64) (w0 := w) w.heap.size rfl (.tmp 5) (.tmp 6) 23 3 _ _ rfl Tryz.underlying23 info3 rfl (by decide) (by omega) _ [] l0 _ _ _ (fun _ => True) (fun _ => False) rfl rfl HO5.out (Kd.C_below HR.out HB.out) (fun _ _ h => h) (fun _ h => h.elim) (fun _ _ => trivial) HB.out (below_size HB.out) (by have := HL.out; simp; omega) ?_; intro v7 w2 ho7 hb7 hg_ hat_; have HO7 := Aside0.mk ho7; have HB7 := Aside0.mk hb7; clear ho7 hb7 hg_ hat_))
  go_ret
  exact ⟨_, rfl, by simpa using HO7.out, HB7.out⟩
/-! ### slices_Sort_int_int: function 75 (a contract of the session's own) -/
def Tryz.laysSort_ren : Go.Shelf.Ren := ⟨fun | 189 => 75 | 125 => 61 | 257 => 91 | 128 => 88 | 129 => 89 | 294 => 100 | 295 => 101 | 296 => 102 | 297 => 103 | 298 => 104 | 299 => 105 | 216 => 92 | 300 => 106 | 301 => 107 | 328 => 110 | 329 => 96 | 330 => 97 | 331 => 111 | 332 => 112 | 215 => 108 | 343 => 113 | n => n, fun | 28 => 23 | 3 => 3 | 46 => 87 | 0 => 0 | 51 => 109 | 53 => 65 | 4 => 4 | 183 => 103 | 182 => 102 | 131 => 59 | 5 => 5 | 9 => 9 | 218 => 116 | 222 => 120 | 228 => 127 | 229 => 61 | n => n, fun | n => n⟩
theorem Tryz.laysSort : Go.Proofs.Lays.n189 Tryz.prog Tryz.laysSort_ren := {
  mixed := by kernel_rfl
  f125 := Tryz.func61.trans (congrArg some (by kernel_rfl))
  f128 := Tryz.func88.trans (congrArg some (by kernel_rfl))
  f129 := Tryz.func89.trans (congrArg some (by kernel_rfl))
  f189 := Tryz.func75.trans (congrArg some (by kernel_rfl))
  f215 := Tryz.func108.trans (congrArg some (by kernel_rfl))
  f216 := Tryz.func92.trans (congrArg some (by kernel_rfl))
  f257 := Tryz.func91.trans (congrArg some (by kernel_rfl))
  f294 := Tryz.func100.trans (congrArg some (by kernel_rfl))
  f295 := Tryz.func101.trans (congrArg some (by kernel_rfl))
  f296 := Tryz.func102.trans (congrArg some (by kernel_rfl))
  f297 := Tryz.func103.trans (congrArg some (by kernel_rfl))
  f298 := Tryz.func104.trans (congrArg some (by kernel_rfl))
  f299 := Tryz.func105.trans (congrArg some (by kernel_rfl))
  f300 := Tryz.func106.trans (congrArg some (by kernel_rfl))
  f301 := Tryz.func107.trans (congrArg some (by kernel_rfl))
  f328 := Tryz.func110.trans (congrArg some (by kernel_rfl))
  f329 := Tryz.func96.trans (congrArg some (by kernel_rfl))
  f330 := Tryz.func97.trans (congrArg some (by kernel_rfl))
  f331 := Tryz.func111.trans (congrArg some (by kernel_rfl))
  f332 := Tryz.func112.trans (congrArg some (by kernel_rfl))
  f343 := Tryz.func113.trans (congrArg some (by kernel_rfl))
  t0 := Tryz.underlying0
  a0 := Tryz.isAgg0
  z0 := Tryz.sizeOf0
  v0 := Tryz.zeroValue0
  t3 := Tryz.underlying3
  a3 := Tryz.isAgg3
  z3 := Tryz.sizeOf3
  v3 := Tryz.zeroValue3
  t4 := Tryz.underlying4
  a4 := Tryz.isAgg4
  z4 := Tryz.sizeOf4
  v4 := Tryz.zeroValue4
  t5 := Tryz.underlying5
  a5 := Tryz.isAgg5
  z5 := Tryz.sizeOf5
  v5 := Tryz.zeroValue5
  t9 := Tryz.underlying9
  a9 := Tryz.isAgg9
  z9 := Tryz.sizeOf9
  v9 := Tryz.zeroValue9
  t28 := Tryz.underlying23
  a28 := Tryz.isAgg23
  z28 := Tryz.sizeOf23
  v28 := Tryz.zeroValue23
  t46 := Tryz.underlying87
  a46 := Tryz.isAgg87
  z46 := Tryz.sizeOf87
  v46 := Tryz.zeroValue87
  t51 := Tryz.underlying109
  a51 := Tryz.isAgg109
  z51 := Tryz.sizeOf109
  v51 := Tryz.zeroValue109
  t53 := Tryz.underlying65
  a53 := Tryz.isAgg65
  z53 := Tryz.sizeOf65
  v53 := Tryz.zeroValue65
  t131 := Tryz.underlying59
  a131 := Tryz.isAgg59
  z131 := Tryz.sizeOf59
  v131 := Tryz.zeroValue59
  t182 := Tryz.underlying102
  a182 := Tryz.isAgg102
  z182 := Tryz.sizeOf102
  v182 := Tryz.zeroValue102
  t183 := Tryz.underlying103
  a183 := Tryz.isAgg103
  z183 := Tryz.sizeOf103
  v183 := Tryz.zeroValue103
  t218 := Tryz.underlying116
  a218 := Tryz.isAgg116
  z218 := Tryz.sizeOf116
  v218 := Tryz.zeroValue116
  t222 := Tryz.underlying120
  a222 := Tryz.isAgg120
  z222 := Tryz.sizeOf120
  v222 := Tryz.zeroValue120
  t228 := Tryz.underlying127
  a228 := Tryz.isAgg127
  z228 := Tryz.sizeOf127
  v228 := Tryz.zeroValue127
  t229 := Tryz.underlying61
  a229 := Tryz.isAgg61
  z229 := Tryz.sizeOf61
  v229 := Tryz.zeroValue61 }
def slices_Sort_int_int.f (l0 : List Int) : Option (List Int) := if l0.length ≤ 2000000000000 then some (l0.mergeSort fun x y => decide (x ≤ y)) else none
theorem slices_Sort_int_int.calls (P0_ : Nat → Prop) (u9000_ : Value) (l0 : List Int) (r : List Int) (w0 w : World) (hB : Below w0.heap.size w0 w) (ho0 : Kd.R (Kd.int .i64) 3 w w0.heap.size P0_ u9000_ l0) (h : slices_Sort_int_int.f l0 = some r) :
    Calls Tryz.prog 75 #[u9000_] w fun e w' => e = .returned (.tuple #[]) ∧ Kd.R (Kd.int .i64) 3 w' w0.heap.size (fun k_ => (P0_ k_ ∨ w.heap.size ≤ k_)) u9000_ r ∧ Below w0.heap.size w0 w' ∧ Kept w w' (fun k_ => P0_ k_) := by
 have hl : l0.length ≤ 2000000000000 := by
   unfold slices_Sort_int_int.f at h
   split at h
   ·assumption
   ·exact absurd h (by simp)
 obtain rfl : (l0.mergeSort fun x y => decide (x ≤ y)) = r := by
   unfold slices_Sort_int_int.f at h
   rw [if_pos hl] at h
   exact Option.some.inj h
 have hown := Kd.own_of_R ho0
 have hok := ho0.1
 have hlen : (l0.mergeSort fun x y => decide (x ≤ y)).length = l0.length := List.length_mergeSort l0
 rcases hown.2 with ⟨rfl, hnil⟩ | ⟨g, cap, cur, rfl, hb, hh, hn, hcap, hsz, htk⟩
 ·have h0 : l0 = [] := by
    cases l0 with
    | nil => rfl
    | cons x l => simp at hnil
  subst h0
  refine (calls_of_every_depth fun D => AnyS.slices_Sort_int_none_alone Tryz.laysSort D none 0 w).mono ?_
  rintro e w' ⟨rfl, rfl⟩
  rw [show (([] : List Int).mergeSort fun x y => decide (x ≤ y)) = [] by simp]
  exact ⟨rfl, Kd.R_mono ho0 (fun k hk => .inl hk), hB, Kept.refl _ _⟩
 ·have hH := holds_of_blockI (ss := l0) hh (by simpa [encs] using htk)
  have hg : g < w.heap.size := (Array.getElem?_eq_some_iff.1 hh).1
  refine (Go.Proofs.Any.slices_Sort_int Tryz.laysSort g 0 cap l0 w hH hg (by omega)).mono ?_
  rintro e w' ⟨rfl, n, os, rfl⟩
  have hgr := grownBy_sortedI (w := w) (g := g) (n := n) (os := os) (l0.mergeSort fun x y => decide (x ≤ y)).toArray
  have ho := ownsRow_sortedI (n := n) (os := os) (ss := l0) hlen hb hh hn hcap hsz
  refine ⟨rfl, ?_, pw_below_grown hB (some g) hB.size hgr (fun k hk => by cases hk; exact hb), Kept.of_grown hgr (Kept.refl _ _) (fun k hk => by cases hk; exact .inl (hok g rfl))⟩
  have ho2 := ho
  rw [← hlen] at ho2
  refine Kd.R_of_own ?_ (fun k hk => .inl (hok k hk))
  rw [hlen]
  exact ho
/-! ### slices_Compact_int_int: function 76 (a contract of the session's own) -/
abbrev slices_Compact_int_int.eq (a b : Int) : Prop := a = b
def slices_Compact_int_int.kp (l : List Int) : Nat → List Int
  | 0 => []
  | 1 => l.take 1
  | j + 2 => if slices_Compact_int_int.eq (rd l ((j + 1 : Nat) : Int)) (rd l (j : Int)) then slices_Compact_int_int.kp l (j + 1) else slices_Compact_int_int.kp l (j + 1) ++ [rd l ((j + 1 : Nat) : Int)]
def slices_Compact_int_int.f (l0 : List Int) : Option (List Int) := if l0.length ≤ 2000000000000 then some (slices_Compact_int_int.kp l0 l0.length) else none
theorem slices_Compact_int_int.rd_get (l : List Int) (i : Nat) (h : i < l.length) : rd l (i : Int) = l[i] := by simp [rd, List.getD_eq_getElem?_getD, h]
theorem slices_Compact_int_int.kp_more {l : List Int} {k : Nat} (h1 : 1 ≤ k) (hk : k < l.length) (h : slices_Compact_int_int.kp l k = l.take k) (hne : ¬ slices_Compact_int_int.eq (rd l (k : Int)) (rd l ((k : Int) - 1))) : slices_Compact_int_int.kp l (k + 1) = l.take (k + 1) := by
 obtain ⟨j, rfl⟩ : ∃ j, k = j + 1 := ⟨k - 1, by omega⟩
 rw [show (((j + 1 : Nat) : Int) - 1) = (j : Int) by omega] at hne
 simp only [slices_Compact_int_int.kp]
 rw [if_neg hne, h, slices_Compact_int_int.rd_get l (j + 1) hk, List.take_succ_eq_append_getElem hk]
def slices_Compact_int_int.St (l L : List Int) (i q : Nat) : Prop := L.length = l.length ∧ 1 ≤ i ∧ i < q ∧ q ≤ l.length ∧ L.take i = slices_Compact_int_int.kp l q ∧ L.drop (q - 1) = l.drop (q - 1)
theorem slices_Compact_int_int.St.start {l : List Int} {k : Nat} (h1 : 1 ≤ k) (hk : k < l.length) (h : slices_Compact_int_int.kp l k = l.take k) (he : slices_Compact_int_int.eq (rd l (k : Int)) (rd l ((k : Int) - 1))) : slices_Compact_int_int.St l l k (k + 1) := by
 refine ⟨rfl, h1, by omega, by omega, ?_, rfl⟩
 obtain ⟨j, rfl⟩ : ∃ j, k = j + 1 := ⟨k - 1, by omega⟩
 rw [show (((j + 1 : Nat) : Int) - 1) = (j : Int) by omega] at he
 simp only [slices_Compact_int_int.kp]
 rw [if_pos he, h]
theorem slices_Compact_int_int.St.at_ {l L : List Int} {i q : Nat} (h : slices_Compact_int_int.St l L i q) (hq : q < l.length) : rd L (q : Int) = rd l (q : Int) ∧ rd L ((q - 1 : Nat) : Int) = rd l ((q - 1 : Nat) : Int) := by
 obtain ⟨h1, h2, h3, h4, h5, h6⟩ := h
 have e : ∀ m, q - 1 ≤ m → m < l.length → rd L (m : Int) = rd l (m : Int) := fun m hm hl => by
   have : (L.drop (q - 1))[m - (q - 1)]? = (l.drop (q - 1))[m - (q - 1)]? := by rw [h6]
   rw [List.getElem?_drop, List.getElem?_drop, show q - 1 + (m - (q - 1)) = m by omega] at this
   simp [rd, List.getD_eq_getElem?_getD, this]
 exact ⟨e q (by omega) hq, e (q - 1) (by omega) (by omega)⟩
theorem slices_Compact_int_int.St.skip {l L : List Int} {i q : Nat} (h : slices_Compact_int_int.St l L i q) (hq : q < l.length) (he : slices_Compact_int_int.eq (rd L (q : Int)) (rd L ((q - 1 : Nat) : Int))) : slices_Compact_int_int.St l L i (q + 1) := by
 rw [(h.at_ hq).1, (h.at_ hq).2] at he
 obtain ⟨h1, h2, h3, h4, h5, h6⟩ := h
 obtain ⟨j, rfl⟩ : ∃ j, q = j + 1 := ⟨q - 1, by omega⟩
 refine ⟨h1, h2, by omega, by omega, ?_, ?_⟩
 ·simp only [slices_Compact_int_int.kp]
  rw [h5]
  exact (if_pos he).symm
 ·have := congrArg (fun z => z.drop 1) h6
  simp only [List.drop_drop] at this
  simpa using this
theorem slices_Compact_int_int.St.put {l L : List Int} {i q : Nat} (h : slices_Compact_int_int.St l L i q) (hq : q < l.length) (hne : ¬ slices_Compact_int_int.eq (rd L (q : Int)) (rd L ((q - 1 : Nat) : Int))) : slices_Compact_int_int.St l (L.set i (rd L (q : Int))) (i + 1) (q + 1) := by
 rw [(h.at_ hq).1, (h.at_ hq).2] at hne
 rw [(h.at_ hq).1]
 obtain ⟨h1, h2, h3, h4, h5, h6⟩ := h
 obtain ⟨j, rfl⟩ : ∃ j, q = j + 1 := ⟨q - 1, by omega⟩
 refine ⟨by rw [List.length_set, h1], by omega, by omega, by omega, ?_, ?_⟩
 ·have hi : i < (L.set i (rd l ((j + 1 : Nat) : Int))).length := by rw [List.length_set]; omega
  simp only [slices_Compact_int_int.kp]
  rw [List.take_succ_eq_append_getElem hi, List.getElem_set_self, List.take_set_of_le (Nat.le_refl _), h5]
  exact (if_neg hne).symm
 ·rw [List.drop_set_of_lt (by omega)]
  have := congrArg (fun z => z.drop 1) h6
  simp only [List.drop_drop] at this
  simpa using this
theorem slices_Compact_int_int.St.done {l L : List Int} {i q : Nat} (h : slices_Compact_int_int.St l L i q) (hq : ¬ q < l.length) : L.take i = slices_Compact_int_int.kp l l.length := by
 obtain ⟨h1, h2, h3, h4, h5, h6⟩ := h
 rw [h5, show q = l.length by omega]
theorem slices_Compact_int_int.zero : (Tryz.prog.info? 3).map (fun i => (i.zero, i.size)) = some (some (.int .i64 0), 1) := by kernel_rfl
set_option maxHeartbeats 4000000 in
set_option maxRecDepth 100000 in
theorem slices_Compact_int_int.calls (P0_ : Nat → Prop) (u : Value) (l0 : List Int) (r : List Int) (w0 w : World) (hB : Below w0.heap.size w0 w) (ho0 : Kd.R (Kd.int .i64) 3 w w0.heap.size P0_ u l0) (h : slices_Compact_int_int.f l0 = some r) :
    Calls Tryz.prog 76 #[u] w fun e w' => ∃ v0_ : Value, e = .returned v0_ ∧ Kd.R (Kd.int .i64) 3 w' w0.heap.size (fun k_ => (P0_ k_ ∨ w.heap.size ≤ k_)) v0_ r ∧ Below w0.heap.size w0 w' ∧ Kept w w' (fun k_ => P0_ k_) := by
 have hl : l0.length ≤ 2000000000000 := by
   unfold slices_Compact_int_int.f at h
   split at h
   ·assumption
   ·exact absurd h (by simp)
 obtain rfl : slices_Compact_int_int.kp l0 l0.length = r := by
   unfold slices_Compact_int_int.f at h
   rw [if_pos hl] at h
   exact Option.some.inj h
 clear h
 have HL := Aside0.mk hl
 have HW := Aside0.mk hB
 have HR := Aside0.mk ho0
 by_cases h2 : l0.length < 2
 ·obtain ⟨A, c, rfl, hlc, hC⟩ := Kd.R_reads ho0
  have HK : Aside0 (slices_Compact_int_int.kp l0 l0.length = l0) := ⟨by
    rcases l0 with _ | ⟨x, _ | ⟨y, l⟩⟩
    ·rfl
    ·rfl
    ·exact absurd h2 (by simp only [List.length_cons]; omega)⟩
  have q2 : (l0.length : Int) < 2 := by omega
  clear hlc hC ho0 hB hl
  go_enter Tryz.func76, Tryz.ntmps76
  go_wp2
  go_ret
  exact ⟨_, rfl, by rw [HK.out]; exact Kd.R_mono HR.out (fun _ hk => .inl hk), HW.out, Kept.refl _ _⟩
 ·obtain ⟨g, cap, he, hbg, hlt, cells, hcells⟩ := Kd.R_form ho0 (by omega)
  subst he
  have A3 := Aside0.mk ((Kd.R_reads' ho0).2.1)
  have AG := Aside0.mk hbg
  have AI := Aside0.mk (show ¬ l0.length < 2 from h2)
  have q2 : ¬ (l0.length : Int) < 2 := by omega
  have q2b : decide ((l0.length : Int) < 2) = false := decide_eq_false q2
  have A4 := Aside0.mk (show slices_Compact_int_int.kp l0 1 = l0.take 1 from rfl)
  have HG := Aside0.mk (HR.out.1 g (by simp [Value.ownBlock]))
  have HO := Aside0.mk (Kd.R_mono (ok' := fun k_ => P0_ k_ ∨ w.heap.size ≤ k_) HR.out (fun _ hk => .inl hk))
  clear ho0 hB hl hlt hcells hbg h2
  go_enter Tryz.func76, Tryz.ntmps76
  go_wp2
  go_loopw [3] (fun v3 wr => ∃ (k : Nat) (kk : Int), Aside0 (1 ≤ k ∧ k ≤ l0.length ∧ slices_Compact_int_int.kp l0 k = l0.take k) ∧ Aside0 (kk = (k : Int)) ∧ v3 = .int .i64 kk ∧ Aside0 (Kd.R (Kd.int .i64) 3 wr w0.heap.size (fun k_ => P0_ k_ ∨ w.heap.size ≤ k_) (.slice (some ⟨g, 0, none⟩) l0.length cap) l0) ∧ Aside0 (Below w0.heap.size w0 wr) ∧ Aside0 (Kept w wr (fun k_ => P0_ k_))) (fun v3 _ => l0.length - (intOf v3).toNat)
  case atStart => exact ⟨1, 1, ⟨by omega, by have := AI.out; omega, A4.out⟩, ⟨rfl⟩, by rfl, HO, HW, ⟨Kept.refl _ _⟩⟩
  case round =>
    obtain ⟨k, kk, HS, HKK, rfl, HO2, HB2, HK2⟩ := hrel
    by_cases hlt : kk < (l0.length : Int)
    ·have hk0 : (0 : Int) ≤ kk := by have := HKK.out; omega
     have HKI := Aside0.mk (show 1 ≤ k ∧ k < l0.length by have := HKK.out; have := HS.out.1; omega)
     have hj0 : (0 : Int) ≤ kk - 1 := by have := HKK.out; have := HS.out.1; omega
     have hj1 : kk - 1 < (l0.length : Int) := by omega
     have hjw : wrap64 (kk - 1) = kk - 1 := by have := HL.out; unfold wrap64; omega
     have hjv : IntKind.i64.wrap (kk - 1) = kk - 1 := (i64_w _).trans hjw
     have hx := (Kd.R_cell (0 : Int) HO2.out kk hk0 hlt).1
     have hy := (Kd.R_cell (0 : Int) HO2.out (kk - 1) hj0 hj1).1
     obtain ⟨x, ex⟩ : ∃ x, x = rdOf (0 : Int) l0 kk := ⟨_, rfl⟩
     obtain ⟨y, ey⟩ : ∃ y, y = rdOf (0 : Int) l0 (kk - 1) := ⟨_, rfl⟩
     rw [← ex] at hx
     rw [← ey] at hy
     have hy' := hy
     rw [show (kk - 1).toNat = kk.toNat - 1 by omega] at hy'
     have hk1 : 1 ≤ kk := by omega
     have EX := Aside0.mk (show x = rd l0 (k : Int) by (rw [ex, HKK.out]; rfl))
     have EY := Aside0.mk (show y = rd l0 ((k : Int) - 1) by (rw [ey, HKK.out]; rfl))
     clear ex ey
     by_cases e : slices_Compact_int_int.eq x y
     ·skip
      have e1 : (x == y) = true := beq_iff_eq.mpr e; have e2 : decide (x = y) = true := decide_eq_true e; have e4 : (x != y) = false := bne_eq_false_iff_eq.mpr e
      have A5 := Aside0.mk (slices_Compact_int_int.St.start HKI.out.1 HKI.out.2 HS.out.2.2 (by rw [← EX.out, ← EY.out]; exact e))
      have hcutS := cut_from (P := Tryz.prog) 23 3 .i64 Tryz.underlying23 (info_parts info3).choose_spec.1 1 (info_parts info3).choose_spec.2.2.1 (some ⟨g, 0, none⟩) l0.length cap kk hk0 (Int.le_of_lt hlt)
      rw [if_neg (show ¬ cap = kk.toNat by have := A3.out; omega)] at hcutS
      simp only [Option.map_some, add_plain, Nat.zero_add, Nat.mul_one] at hcutS
      have HD2 := Aside0.mk (Kd.R_drew HO2.out)
      have HB3 := Aside0.mk (show Below w0.heap.size w0 wr.drew by exact below_drew1 HB2.out)
      have HK3 := Aside0.mk (show Kept w wr.drew (fun k_ => P0_ k_) by exact Kept.drew HK2.out)
      have HKL := Aside0.mk hlt
      clear e
      go_wp2
      go_region
      go_wp2
      clear hx hy hy' hcutS hjw hjv hk1 hj0 hj1 e1 e2 EX EY HO2 HB2 HK2 hlt
      go_loopw [3, 5] (fun v3 v5 wr => ∃ (L : List Int) (i q : Nat) (ii jj : Int), Aside0 (slices_Compact_int_int.St l0 L i q) ∧ Aside0 (ii = (i : Int)) ∧ Aside0 (jj = (q : Int) - (k : Int) ∧ k < q) ∧ v3 = .int .i64 ii ∧ v5 = .int .i64 jj ∧ Aside0 (Kd.R (Kd.int .i64) 3 wr w0.heap.size (fun k_ => P0_ k_ ∨ w.heap.size ≤ k_) (.slice (some ⟨g, 0, none⟩) l0.length cap) L) ∧ Aside0 (Below w0.heap.size w0 wr) ∧ Aside0 (Kept w wr (fun k_ => P0_ k_))) (fun _ v5 _ => l0.length - (intOf v5).toNat)
      case atStart => exact ⟨l0, k, k + 1, kk, 1, A5, HKK, ⟨by omega, by omega⟩, by rfl, by rfl, HD2, HB3, HK3⟩
      case round =>
        obtain ⟨L, i, q, ii, jj, HS2, HII, HJJ, rfl, rfl, HO4, HB4, HK4⟩ := hrel
        by_cases hlt2 : jj < ((l0.length - kk.toNat : Nat) : Int)
        ·have hq := HJJ.out
         have hkk := HKK.out
         have hKI := HKI.out
         have hq0 : (0 : Int) ≤ jj := by omega
         have hq1 : 1 ≤ jj := by omega
         have HQ := Aside0.mk (show q < l0.length by omega)
         have HLn := Aside0.mk HS2.out.1
         have HO5 : Aside0 (Kd.R (Kd.int .i64) 3 wr w0.heap.size (fun k_ => P0_ k_ ∨ w.heap.size ≤ k_) (.slice (some ⟨g, 0, none⟩) L.length cap) L) := ⟨by rw [HLn.out]; exact HO4.out⟩
         have hx := (Kd.R_cell (0 : Int) HO5.out (q : Int) (by omega) (by rw [HLn.out]; have := HQ.out; omega)).1
         have hy := (Kd.R_cell (0 : Int) HO5.out ((q - 1 : Nat) : Int) (by omega) (by rw [HLn.out]; have := HQ.out; omega)).1
         obtain ⟨x, ex⟩ : ∃ x, x = rdOf (0 : Int) L (q : Int) := ⟨_, rfl⟩
         obtain ⟨y, ey⟩ : ∃ y, y = rdOf (0 : Int) L ((q - 1 : Nat) : Int) := ⟨_, rfl⟩
         rw [← ex, show ((q : Int)).toNat = kk.toNat + jj.toNat by omega] at hx
         rw [← ey, show (((q - 1 : Nat) : Int)).toNat = kk.toNat + (jj.toNat - 1) by omega] at hy
         have hjb : jj - 1 < ((l0.length - kk.toNat : Nat) : Int) := by omega
         have hja : (0 : Int) ≤ jj - 1 := by omega
         have hjw : wrap64 (jj - 1) = jj - 1 := by have := HL.out; unfold wrap64; omega
         have hjv : IntKind.i64.wrap (jj - 1) = jj - 1 := (i64_w _).trans hjw
         have EX := Aside0.mk (show x = rd L (q : Int) by (rw [ex]; rfl))
         have EY := Aside0.mk (show y = rd L ((q - 1 : Nat) : Int) by (rw [ey]; rfl))
         clear ex ey hq hkk hKI
         by_cases e : slices_Compact_int_int.eq x y
         ·skip
          have e1 : (x == y) = true := beq_iff_eq.mpr e; have e2 : decide (x = y) = true := decide_eq_true e; have e4 : (x != y) = false := bne_eq_false_iff_eq.mpr e
          have A6 := Aside0.mk (HS2.out.skip HQ.out (by rw [← EX.out, ← EY.out]; exact e))
          clear e
          go_wp2
          go_region
          go_wp2
          go_roundw
          case rel => exact ⟨L, i, q + 1, ii, wrap64 (jj + 1), A6, HII, ⟨by have := HJJ.out; have := HL.out; have := HQ.out; unfold wrap64; omega, by have := HJJ.out; omega⟩, by rfl, by rfl, ⟨by (with_reducible repeat (apply Kd.R_drew)); exact HO4.out⟩, ⟨by repeat (first | exact HB4.out | apply pw_below_drewN)⟩, ⟨by repeat (exact HK4.out)⟩⟩
          case measure => have := HJJ.out; have := HL.out; have := HQ.out; (show l0.length - (wrap64 (jj + 1)).toNat < l0.length - jj.toNat; unfold wrap64; omega)
         ·skip
          have e1 : (x == y) = false := beq_eq_false_iff_ne.mpr e; have e2 : decide (x = y) = false := decide_eq_false e; have e4 : (x != y) = true := bne_iff_ne.mpr e
          have A6 := Aside0.mk (HS2.out.put HQ.out (by rw [← EX.out, ← EY.out]; exact e))
          clear e
          have hI0 : (0 : Int) ≤ ii := by have := HII.out; omega
          have hI1 : ii < (l0.length : Int) := by have := HII.out; have := HS2.out.2.2.1; have := HQ.out; omega
          have HII1 := Aside0.mk hI1
          have hc := Kd.R_cell (0 : Int) HO5.out ii hI0 (by rw [HLn.out]; exact hI1)
          obtain ⟨hc1, hc2⟩ := hc
          generalize rdOf (0 : Int) L ii = old at hc1
          have hput := Kd.R_put (Kd.R_drew HO5.out) ii x
          rw [HLn.out] at hput
          have HP1 := Aside0.mk hput.1
          have HP2 := Aside0.mk hput.2
          clear hput
          go_wp2
          go_region
          go_wp2
          go_roundw
          case rel => exact ⟨L.set ii.toNat x, i + 1, q + 1, wrap64 (ii + 1), wrap64 (jj + 1), ⟨by rw [HII.out, Int.toNat_natCast, EX.out]; exact A6.out⟩, ⟨by have := HII.out; have := HII1.out; have := HL.out; unfold wrap64; omega⟩, ⟨by have := HJJ.out; have := HL.out; have := HQ.out; unfold wrap64; omega, by have := HJJ.out; omega⟩, by rfl, by rfl, HP1, ⟨(below_drew1 HB4.out).grown HP2.out (below_drew1 HB4.out).size (fun k hk => by injection hk with hk; subst hk; exact AG.out)⟩, ⟨Kept.of_grown HP2.out (Kept.drew HK4.out) (fun k hk => by injection hk with hk; subst hk; exact .inl HG.out)⟩⟩
          case measure => have := HJJ.out; have := HL.out; have := HQ.out; (show l0.length - (wrap64 (jj + 1)).toNat < l0.length - jj.toNat; unfold wrap64; omega)
        ·have HD : Aside0 (L.take ii.toNat = slices_Compact_int_int.kp l0 l0.length) := ⟨by rw [HII.out, Int.toNat_natCast]; exact HS2.out.done (by have := HJJ.out; have := HKK.out; have := HKI.out; omega)⟩
         have hI0 : (0 : Int) ≤ ii := by have := HII.out; omega
         have hI1 : ii < (l0.length : Int) := by have := HII.out; have := HS2.out.2.2.1; have := HS2.out.2.2.2.1; omega
         have hI2 : ii ≤ (l0.length : Int) := Int.le_of_lt hI1
         obtain ⟨i1, hi1, _, hsz1, _⟩ := info_parts info3
         have hcutA := cut_from (P := Tryz.prog) 23 3 .i64 Tryz.underlying23 hi1 1 hsz1 (some ⟨g, 0, none⟩) l0.length cap ii hI0 hI2
         have hcutB := cut_to (P := Tryz.prog) 23 3 .i64 Tryz.underlying23 hi1 (some ⟨g, 0, none⟩) l0.length cap ii hI0 hI2 A3.out
         rw [if_neg (show ¬ cap = ii.toNat by have := A3.out; omega)] at hcutA
         simp only [Option.map_some, add_plain, Nat.zero_add, Nat.mul_one] at hcutA
         obtain ⟨cur, hh, hcs⟩ := Kd.R_block HO4.out
         have HH := Aside0.mk hh
         have HS5 := Aside0.mk (show ii.toNat + (l0.length - ii.toNat) * 1 ≤ cur.size by rw [hcs, show ((Kd.int .i64)).sz = 1 from rfl]; have := A3.out; omega)
         have HS6 := Aside0.mk (show ii.toNat + (l0.length - ii.toNat) * 1 ≤ cap * ((Kd.int .i64)).sz by rw [show ((Kd.int .i64)).sz = 1 from rfl]; have := A3.out; omega)
         have HS7 := Aside0.mk (show 0 < l0.length - ii.toNat by omega)
         have HS8 := Aside0.mk (show ii.toNat ≤ L.length by rw [HS2.out.1]; omega)
         clear hi1 hsz1 hh hcs
         obtain ⟨vs, hvs, hclr⟩ := run_clear_row (P := Tryz.prog) (ty := 0) (c := cap - ii.toNat) (q := ii.toNat) (n := l0.length - ii.toNat) (t := 23) (e := 3) Tryz.underlying23 slices_Compact_int_int.zero rfl (by decide) (by simp [Value.oneCell', Value.cells]) HH.out HS7.out HS5.out
         have HVS := Aside0.mk hvs
         clear hvs
         go_wp2
         go_ret
         have hb := Kd.R_beyond (Kd.R_take HO4.out HS8.out) ii.toNat vs (by rw [show ((Kd.int .i64)).sz = 1 from rfl]; omega) (by rw [HVS.out]; exact HS6.out)
         refine ⟨_, rfl, ?_, HB4.out.grown hb.2 HB4.out.size (fun k hk => by injection hk with hk; subst hk; exact AG.out), Kept.of_grown hb.2 HK4.out (fun k hk => by injection hk with hk; subst hk; exact .inl HG.out)⟩
         rw [← HD.out]
         exact hb.1
     ·skip
      have e1 : (x == y) = false := beq_eq_false_iff_ne.mpr e; have e2 : decide (x = y) = false := decide_eq_false e; have e4 : (x != y) = true := bne_iff_ne.mpr e
      have A5 := Aside0.mk (slices_Compact_int_int.kp_more HKI.out.1 HKI.out.2 HS.out.2.2 (by rw [← EX.out, ← EY.out]; exact e))
      clear e
      go_wp2
      go_region
      go_wp2
      go_roundw
      case rel => exact ⟨k + 1, wrap64 (kk + 1), ⟨by omega, by have := HKI.out; omega, A5.out⟩, ⟨by have := HKK.out; have := HL.out; unfold wrap64; omega⟩, by rfl, ⟨by (with_reducible repeat (apply Kd.R_drew)); exact HO2.out⟩, ⟨by repeat (first | exact HB2.out | apply pw_below_drewN)⟩, ⟨by repeat (exact HK2.out)⟩⟩
      case measure => have := HKK.out; have := HL.out; have := HKI.out; (show l0.length - (wrap64 (kk + 1)).toNat < l0.length - kk.toNat; unfold wrap64; omega)
    ·have HD : Aside0 (slices_Compact_int_int.kp l0 l0.length = l0) := ⟨by
       have h1 := HS.out
       have h3 := HKK.out
       have e : k = l0.length := by omega
       have h4 := h1.2.2
       rw [e, List.take_of_length_le (Nat.le_refl _)] at h4
       exact h4⟩
     go_wp2
     go_ret
     exact ⟨_, rfl, by rw [HD.out]; exact HO2.out, HB2.out, HK2.out⟩
/-! ### cmp_isNaN_int: function 108 -/
def cmp_isNaN_int.f (a0 : Int) : Option (Bool) := some (a0 != a0)
set_option maxHeartbeats 8000000 in
set_option maxRecDepth 100000 in
theorem cmp_isNaN_int.calls (a0 : Int) (r : Bool) (w : World) (h : cmp_isNaN_int.f a0 = some r) :
  Calls Tryz.prog 108 #[.int .i64 a0] w fun e w' => e = .returned (.bool r) ∧ Drawn0 w w' := by
 have H := h
 clear h
 unfold cmp_isNaN_int.f at H
 obtain rfl := Option.some.inj H
 go_enter Tryz.func108, Tryz.ntmps108
 go_wp2
 go_ret
 exact ⟨by rfl, by repeat (exact Drawn0.refl _)⟩
/-! ### cmp_Less_int: function 92 -/
def cmp_Less_int.f (a0 : Int) (a1 : Int) : Option (Bool) := (cmp_isNaN_int.f a0).bind fun t506 => (if t506 = true then ((cmp_isNaN_int.f a1).bind fun t507 => (if t507 = true then (some (decide (a0 < a1))) else (some true))) else (some (decide (a0 < a1))))
set_option maxHeartbeats 8000000 in
set_option maxRecDepth 100000 in
theorem cmp_Less_int.calls (a0 : Int) (a1 : Int) (r : Bool) (w : World) (h : cmp_Less_int.f a0 a1 = some r) :
  Calls Tryz.prog 92 #[.int .i64 a0, .int .i64 a1] w fun e w' => e = .returned (.bool r) ∧ Drawn0 w w' := by
 have H := h
 clear h
 unfold cmp_Less_int.f at H
 replace H := bd H
 obtain ⟨t506, A3, H⟩ := H
 replace H := ifb H
 rcases H with ⟨rfl, H⟩ | ⟨rfl, H⟩
 ·replace H := bd H
  obtain ⟨t507, A5, H⟩ := H
  replace H := ifb H
  rcases H with ⟨rfl, H⟩ | ⟨rfl, H⟩
  ·obtain rfl := Option.some.inj H
   go_enter Tryz.func92, Tryz.ntmps92
   go_wp2_with (first | ((with_reducible refine gate_callee (f := 108) rfl ?_); refine gL 6 Tryz.func108 #[.int .i64 a0] ?_; (with_reducible refine (cmp_isNaN_int.calls a0 true _ A3.out).mono ?_); rintro e w' ⟨rfl, ⟨nd, rfl⟩⟩; refine ⟨_, rfl, ?_⟩) | (go_at_call 108; (with_reducible refine (cmp_isNaN_int.calls a1 true _ A5.out).mono ?_); rintro e w' ⟨rfl, ⟨nd, rfl⟩⟩; clear A5))
   go_ret
   exact ⟨by rfl, by repeat (first | exact Drawn0.refl _ | apply Drawn0.step)⟩
  ·obtain rfl := Option.some.inj H
   go_enter Tryz.func92, Tryz.ntmps92
   go_wp2_with (first | ((with_reducible refine gate_callee (f := 108) rfl ?_); refine gL 6 Tryz.func108 #[.int .i64 a0] ?_; (with_reducible refine (cmp_isNaN_int.calls a0 true _ A3.out).mono ?_); rintro e w' ⟨rfl, ⟨nd, rfl⟩⟩; refine ⟨_, rfl, ?_⟩) | (go_at_call 108; (with_reducible refine (cmp_isNaN_int.calls a1 false _ A5.out).mono ?_); rintro e w' ⟨rfl, ⟨nd, rfl⟩⟩; clear A5))
   go_ret
   exact ⟨by rfl, by repeat (first | exact Drawn0.refl _ | apply Drawn0.step)⟩
 ·obtain rfl := Option.some.inj H
  go_enter Tryz.func92, Tryz.ntmps92
  go_wp2_with (((with_reducible refine gate_callee (f := 108) rfl ?_); refine gL 6 Tryz.func108 #[.int .i64 a0] ?_; (with_reducible refine (cmp_isNaN_int.calls a0 false _ A3.out).mono ?_); rintro e w' ⟨rfl, ⟨nd, rfl⟩⟩; refine ⟨_, rfl, ?_⟩))
  go_ret
  exact ⟨by rfl, by repeat (first | exact Drawn0.refl _ | apply Drawn0.step)⟩
/-! ### slices_isNaN_int: function 93 -/
def slices_isNaN_int.f (a0 : Int) : Option (Bool) := some (a0 != a0)
set_option maxHeartbeats 8000000 in
set_option maxRecDepth 100000 in
theorem slices_isNaN_int.calls (a0 : Int) (r : Bool) (w : World) (h : slices_isNaN_int.f a0 = some r) :
  Calls Tryz.prog 93 #[.int .i64 a0] w fun e w' => e = .returned (.bool r) ∧ Drawn0 w w' := by
 have H := h
 clear h
 unfold slices_isNaN_int.f at H
 obtain rfl := Option.some.inj H
 go_enter Tryz.func93, Tryz.ntmps93
 go_wp2
 go_ret
 exact ⟨by rfl, by repeat (exact Drawn0.refl _)⟩
/-! ### slices_BinarySearch_int_int: function 77 -/
def slices_BinarySearch_int_int.l0 : Nat → List Int → Int → Int → Int → Int → Option (Int × Bool)
 | 0, _, _, _, _, _ => none
 | k + 1, x0, x1, x6, x7, x8 => if x7 < x8 then (if 0 ≤ (wrap64 ((IntKind.u64.wrap (wrap64 (x7 + x8))) / 2)) then (if (wrap64 ((IntKind.u64.wrap (wrap64 (x7 + x8))) / 2)) < (x0.length : Int) then ((cmp_Less_int.f (rd x0 (wrap64 ((IntKind.u64.wrap (wrap64 (x7 + x8))) / 2))) x1).bind fun t509 => (if t509 = true then (slices_BinarySearch_int_int.l0 k x0 x1 x6 (wrap64 ((wrap64 ((IntKind.u64.wrap (wrap64 (x7 + x8))) / 2)) + 1)) x8) else (slices_BinarySearch_int_int.l0 k x0 x1 x6 x7 (wrap64 ((IntKind.u64.wrap (wrap64 (x7 + x8))) / 2))))) else (none)) else (none)) else (if x7 < x6 then (if 0 ≤ x7 then (if x7 < (x0.length : Int) then (if (rd x0 x7) = x1 then (some (x7, true)) else ((slices_isNaN_int.f (rd x0 x7)).bind fun t512 => (if t512 = true then ((slices_isNaN_int.f x1).bind fun t513 => (some (x7, t513))) else (some (x7, false))))) else (none)) else (none)) else (some (x7, false)))
def slices_BinarySearch_int_int.f (k : Nat) (l0 : List Int) (a1 : Int) : Option (Int × Bool) := slices_BinarySearch_int_int.l0 k l0 a1 (l0.length : Int) 0 (l0.length : Int)
theorem slices_BinarySearch_int_int.l0_succ (k) (a0) (a1) (a2) (a3) (a4) : type_of% (@slices_BinarySearch_int_int.l0.eq_2 a0 a1 a2 a3 a4 k) := slices_BinarySearch_int_int.l0.eq_2 a0 a1 a2 a3 a4 k
set_option maxHeartbeats 8000000 in
set_option maxRecDepth 100000 in
theorem slices_BinarySearch_int_int.calls (k : Nat) (A0 : Option Addr) (c0 : Nat) (l0 : List Int) (a1 : Int) (r1 : Int) (r2 : Bool) (w : World) (hr0 : Kd.C (Kd.int .i64) w A0 l0.length l0) (hc0 : l0.length ≤ c0) (h : slices_BinarySearch_int_int.f k l0 a1 = some (r1, r2)) :
  Calls Tryz.prog 77 #[.slice A0 l0.length c0, .int .i64 a1] w fun e w' => e = .returned (.tuple #[.int .i64 r1, .bool r2]) ∧ Drawn0 w w' := by
 have HR0 := Aside0.mk hr0
 have HC0 := Aside0.mk hc0
 clear hr0 hc0
 have H := h
 clear h
 unfold slices_BinarySearch_int_int.f at H
 have H' := Aside0.mk H
 clear H
 go_enter Tryz.func77, Tryz.ntmps77
 go_wp2
 go_loopg [7, 8] k (fun kq v7 v8 w' => ∃ (x7_1 : Int) (x8_1 : Int), v7 = .int .i64 x7_1 ∧ v8 = .int .i64 x8_1 ∧ Aside0 (slices_BinarySearch_int_int.l0 kq l0 a1 (l0.length : Int) x7_1 x8_1 = some (r1, r2)) ∧ Aside0 (kq ≤ k) ∧ Drawn0 w w')
 case atStart => exact ⟨(0), ((l0.length : Int)), (by rfl), (by rfl), H', ⟨Nat.le_refl _⟩, by repeat (exact Drawn0.refl _)⟩
 case round =>
  clear H'
  obtain ⟨x7_1, x8_1, rfl, rfl, HA, HK1, ⟨m1, rfl⟩⟩ := hrel
  cases gk with
  | zero => exact absurd HA.out (by simp [slices_BinarySearch_int_int.l0])
  | succ k1 =>
   have H := HA.out
   clear HA
   simp only [slices_BinarySearch_int_int.l0] at H
   replace H := ifd H
   rcases H with ⟨-, c3b0, H⟩ | ⟨-, c3b0, H⟩
   ·obtain ⟨ji4, hji4⟩ : ∃ j_ : Int, (wrap64 ((IntKind.u64.wrap (wrap64 (x7_1 + x8_1))) / 2)) = j_ := ⟨_, rfl⟩
    replace H : (if 0 ≤ (ji4) then (if (ji4) < (l0.length : Int) then ((cmp_Less_int.f (rd l0 (ji4)) a1).bind fun t509 => (if t509 = true then (slices_BinarySearch_int_int.l0 k1 l0 a1 (l0.length : Int) (wrap64 ((ji4) + 1)) x8_1) else (slices_BinarySearch_int_int.l0 k1 l0 a1 (l0.length : Int) x7_1 ji4))) else (none)) else (none)) = some (r1, r2) := by (rw [hji4] at H; exact H)
    have hji4w : (IntKind.i64.wrap ((IntKind.u64.wrap (wrap64 (x7_1 + x8_1))) / 2)) = ji4 := (i64_w _).trans hji4
    replace H := ifn H
    obtain ⟨-, c5b0, H⟩ := H
    replace H := ifn H
    obtain ⟨-, c6b0, H⟩ := H
    replace H := bd H
    obtain ⟨t509, A7, H⟩ := H
    replace H := ifb H
    rcases H with ⟨rfl, H⟩ | ⟨rfl, H⟩
    ·have H' := Aside0.mk H
     clear H
     have p508 : 0 ≤ ((ji4) : Int) := ad
     have q508 : (ji4) < (l0.length : Int) := ad
     obtain ⟨ad508, e508, hx508_0⟩ := Kd.at_int HR0.out (ji4) p508 q508
     cases e508
     replace p508 := eq_true p508
     replace q508 := eq_true q508
     go_wp2_with (((with_reducible refine gate_callee (f := 92) rfl ?_); refine gL 27 Tryz.func92 #[.int .i64 (rd l0 (ji4)), .int .i64 a1] ?_; (with_reducible refine (cmp_Less_int.calls (rd l0 (ji4)) a1 true _ A7.out).mono ?_); rintro e w' ⟨rfl, ⟨nd, rfl⟩⟩; refine ⟨_, rfl, ?_⟩))
     go_roundg k1
     case measure => have := HK1.out; omega
     case rel => exact ⟨(wrap64 ((ji4) + 1)), (x8_1), (by rfl), (by rfl), (by exact H'), ⟨by have := HK1.out; omega⟩, by repeat (first | exact Drawn0.refl _ | apply Drawn0.step)⟩
    ·have H' := Aside0.mk H
     clear H
     have p508 : 0 ≤ ((ji4) : Int) := ad
     have q508 : (ji4) < (l0.length : Int) := ad
     obtain ⟨ad508, e508, hx508_0⟩ := Kd.at_int HR0.out (ji4) p508 q508
     cases e508
     replace p508 := eq_true p508
     replace q508 := eq_true q508
     go_wp2_with (((with_reducible refine gate_callee (f := 92) rfl ?_); refine gL 27 Tryz.func92 #[.int .i64 (rd l0 (ji4)), .int .i64 a1] ?_; (with_reducible refine (cmp_Less_int.calls (rd l0 (ji4)) a1 false _ A7.out).mono ?_); rintro e w' ⟨rfl, ⟨nd, rfl⟩⟩; refine ⟨_, rfl, ?_⟩))
     go_roundg k1
     case measure => have := HK1.out; omega
     case rel => exact ⟨(x7_1), (ji4), (by rfl), (by rfl), (by exact H'), ⟨by have := HK1.out; omega⟩, by repeat (first | exact Drawn0.refl _ | apply Drawn0.step)⟩
   ·replace H := ifd H
    rcases H with ⟨-, c9b0, H⟩ | ⟨-, c9b0, H⟩
    ·replace H := ifn H
     obtain ⟨-, c10b0, H⟩ := H
     replace H := ifn H
     obtain ⟨-, c11b0, H⟩ := H
     replace H := ife H
     rcases H with ⟨-, c12b0, c12b1, H⟩ | ⟨c12, c12b0, c12b1, H⟩
     ·simp only [Option.some.injEq, Prod.mk.injEq] at H
      obtain ⟨rfl, rfl⟩ := H
      have p510 : 0 ≤ (x7_1 : Int) := ad
      have q510 : x7_1 < (l0.length : Int) := ad
      obtain ⟨ad510, e510, hx510_0⟩ := Kd.at_int HR0.out x7_1 p510 q510
      cases e510
      replace p510 := eq_true p510
      replace q510 := eq_true q510
      go_wp2
      go_ret2
      exact ⟨by rfl, by repeat (first | exact Drawn0.refl _ | apply Drawn0.step)⟩
     ·replace H := bd H
      obtain ⟨t512, A13, H⟩ := H
      replace H := ifb H
      rcases H with ⟨rfl, H⟩ | ⟨rfl, H⟩
      ·replace H := bd H
       obtain ⟨t513, A15, H⟩ := H
       simp only [Option.some.injEq, Prod.mk.injEq] at H
       obtain ⟨rfl, rfl⟩ := H
       have p510 : 0 ≤ (x7_1 : Int) := ad
       have q510 : x7_1 < (l0.length : Int) := ad
       obtain ⟨ad510, e510, hx510_0⟩ := Kd.at_int HR0.out x7_1 p510 q510
       cases e510
       replace p510 := eq_true p510
       replace q510 := eq_true q510
       have p511 : 0 ≤ (x7_1 : Int) := ad
       have q511 : x7_1 < (l0.length : Int) := ad
       obtain ⟨ad511, e511, hx511_0⟩ := Kd.at_int HR0.out x7_1 p511 q511
       obtain rfl : ad510 = ad511 := (by injection e511)
       replace p511 := eq_true p511
       replace q511 := eq_true q511
       go_wp2_with (first | (go_at_call 93; (with_reducible refine (slices_isNaN_int.calls (rd l0 x7_1) true _ A13.out).mono ?_); rintro e w' ⟨rfl, ⟨nd, rfl⟩⟩; clear A13) | (go_at_call 93; (with_reducible refine (slices_isNaN_int.calls a1 t513 _ A15.out).mono ?_); rintro e w' ⟨rfl, ⟨nd, rfl⟩⟩; clear A15))
       go_ret2
       exact ⟨by rfl, by repeat (first | exact Drawn0.refl _ | apply Drawn0.step)⟩
      ·simp only [Option.some.injEq, Prod.mk.injEq] at H
       obtain ⟨rfl, rfl⟩ := H
       have p510 : 0 ≤ (x7_1 : Int) := ad
       have q510 : x7_1 < (l0.length : Int) := ad
       obtain ⟨ad510, e510, hx510_0⟩ := Kd.at_int HR0.out x7_1 p510 q510
       cases e510
       replace p510 := eq_true p510
       replace q510 := eq_true q510
       have p511 : 0 ≤ (x7_1 : Int) := ad
       have q511 : x7_1 < (l0.length : Int) := ad
       obtain ⟨ad511, e511, hx511_0⟩ := Kd.at_int HR0.out x7_1 p511 q511
       obtain rfl : ad510 = ad511 := (by injection e511)
       replace p511 := eq_true p511
       replace q511 := eq_true q511
       go_wp2_with ((go_at_call 93; (with_reducible refine (slices_isNaN_int.calls (rd l0 x7_1) false _ A13.out).mono ?_); rintro e w' ⟨rfl, ⟨nd, rfl⟩⟩; clear A13))
       go_ret2
       exact ⟨by rfl, by repeat (first | exact Drawn0.refl _ | apply Drawn0.step)⟩
    ·simp only [Option.some.injEq, Prod.mk.injEq] at H
     obtain ⟨rfl, rfl⟩ := H
     go_wp2
     go_ret2
     exact ⟨by rfl, by repeat (first | exact Drawn0.refl _ | apply Drawn0.step)⟩
end Go.Proofs.YtfohecpfenegkaaGreat.Print
end
section
namespace Go.Proofs.YtfohecpfenegkaaGreat.Print
open Go.RowKit Go.Proofs.YtfohecpfenegkaaGreatW.PrintWords Go.Proofs.YtfohecpfenegkaaGreatW.PrintLast Go.Proofs.YtfohecpfenegkaaGreatW.PrintMore
attribute [local go_sem] max2_int min2_int max_two min_two max_three min_three max_four min_four   -- for this text's walks alone
set_option linter.unusedVariables false
set_option linter.unusedSimpArgs false
/-! ### dict_Of_int: function 54 -/
def dict_Of_int.l0 : Nat → List Int → List Int → List Int → Int → Int → Option (List Int × List Int)
 | 0, _, _, _, _, _ => none
 | k + 1, x4, x5, x16, x17, x18 => if x18 < x17 then (if 0 ≤ x18 then (if x18 < (x16.length : Int) then ((slices_BinarySearch_int_int.f k x4 (rd x16 x18)).bind fun bt522 => (if x5.length < 17592186044416 then (dict_Of_int.l0 k x4 (x5 ++ [bt522.1]) x16 x17 (wrap64 (x18 + 1))) else (none))) else (none)) else (none)) else (some (x4, x5))
def dict_Of_int.f (k : Nat) (l0 : List Int) : Option (List Int × List Int) := (slices_Clone_int_int.f l0).bind fun t514 => ((slices_Sort_int_int.f t514).bind fun t517 => ((slices_Compact_int_int.f t517).bind fun t518 => (dict_Of_int.l0 k t518 ([] : List Int) l0 (l0.length : Int) 0)))
theorem dict_Of_int.l0_succ (k) (a0) (a1) (a2) (a3) (a4) : type_of% (@dict_Of_int.l0.eq_2 a0 a1 a2 a3 a4 k) := dict_Of_int.l0.eq_2 a0 a1 a2 a3 a4 k
set_option maxHeartbeats 8000000 in
set_option maxRecDepth 100000 in
theorem dict_Of_int.calls (k : Nat) (A0 : Option Addr) (c0 : Nat) (l0 : List Int) (r1 : List Int) (r2 : List Int) (w : World) (hr0 : Kd.C (Kd.int .i64) w A0 l0.length l0) (hc0 : l0.length ≤ c0) (h : dict_Of_int.f k l0 = some (r1, r2)) :
  Calls Tryz.prog 54 #[.slice A0 l0.length c0] w fun e w' => ∃ v0_ v1_ : Value, e = .returned (.tuple #[v0_, v1_]) ∧ Kd.R (Kd.int .i64) 3 w' w.heap.size (fun k_ => some k_ ≠ (v1_ : Value).ownBlock) v0_ r1 ∧ Kd.R (Kd.int .i64) 3 w' w.heap.size (fun k_ => some k_ ≠ (v0_ : Value).ownBlock) v1_ r2 ∧ Below w.heap.size w w' := by
 have HR0 := Aside0.mk hr0
 have HC0 := Aside0.mk hc0
 clear hr0 hc0
 have HB := Aside0.mk (Below.refl w.heap.size w)
 have H := h
 clear h
 unfold dict_Of_int.f at H
 replace H := bd H
 obtain ⟨t514, A2, H⟩ := H
 replace H := bd H
 obtain ⟨t517, A3, H⟩ := H
 replace H := bd H
 obtain ⟨t518, A4, H⟩ := H
 have H' := Aside0.mk H
 clear H
 go_enter Tryz.func54, Tryz.ntmps54
 go_wp2_with (first | ((with_reducible refine gate_callee (f := 74) rfl ?_); refine gL 11 Tryz.func74 #[.slice A0 l0.length c0] ?_; (with_reducible refine (slices_Clone_int_int.calls _ _ l0 t514 _ ?side1 ?side2 A2.out).mono ?_); (case side1 => exact cx HR0.out); (case side2 => exact HC0.out); rintro e w5 ⟨v515, rfl, ho0, hb⟩; refine ⟨_, rfl, ?_⟩; have HO516 := Aside0.mk (Kd.R_lower ho0 (below_size (bh HB.out))); replace HB := bsa HB hb; clear hb ho0; obtain ⟨Ao6, co6, eo6⟩ := Kd.R_slice HO516.out; subst eo6) | ((with_reducible refine gate_callee (f := 75) rfl ?_); refine gL 13 Tryz.func75 #[.slice Ao6 t514.length co6] ?_; (with_reducible refine (slices_Sort_int_int.calls (fun k_ => some k_ = (.slice Ao6 t514.length co6 : Value).ownBlock) (.slice Ao6 t514.length co6) t514 t517 w _ ?side1 ?side2 A3.out).mono ?_); (case side1 => repeat ((with_reducible exact HB.out))); (case side2 => exact Kd.R_tight rfl HO516.out); rintro e w7 ⟨rfl, hy0, hb, hkp⟩; refine ⟨_, rfl, ?_⟩; replace HO516 := Aside0.mk (Kd.R_reok rfl hy0 (fun k_ e_ => HO516.out.1 k_ e_)); replace HB := Aside0.mk (hb); clear hb hkp hy0) | ((with_reducible refine gate_callee (f := 76) rfl ?_); refine gL 15 Tryz.func76 #[.slice Ao6 t514.length co6] ?_; (with_reducible refine (slices_Compact_int_int.calls (fun k_ => some k_ = (.slice Ao6 t514.length co6 : Value).ownBlock) (.slice Ao6 t514.length co6) t517 t518 w _ ?side1 ?side2 A4.out).mono ?_); (case side1 => repeat ((with_reducible exact HB.out))); (case side2 => exact Kd.R_tight rfl HO516.out); rintro e w8 ⟨v519, rfl, ho0, hb, hkp⟩; refine ⟨_, rfl, ?_⟩; have n0_ := Aside0.mk (Kd.R_mono (ok' := fun k_ => True) ho0 (fun k_ hk_ => trivial)); have n1_ := Aside0.mk (hb); clear HB HO516; have HO520 := n0_; have HB := n1_; clear n0_ n1_ hb hkp ho0))
 go_loopg [5, 18] k (fun kq v5 v18 w' => ∃ (x5_1 : List Int) (x18_1 : Int), v18 = .int .i64 x18_1 ∧ Aside0 (dict_Of_int.l0 kq t518 x5_1 l0 (l0.length : Int) x18_1 = some (r1, r2)) ∧ Aside0 (kq ≤ k) ∧ Aside0 (Kd.R (Kd.int .i64) 3 w' w.heap.size (fun k_ => some k_ ≠ (v5 : Value).ownBlock) v519 t518) ∧ Aside0 (Kd.R (Kd.int .i64) 3 w' w.heap.size (fun k_ => some k_ ≠ (v519 : Value).ownBlock) v5 x5_1) ∧ Aside0 (Below w.heap.size w w'))
 case atStart => exact ⟨(([] : List Int)), (0), (by rfl), H', ⟨Nat.le_refl _⟩, ⟨by exact Kd.R_mono HO520.out (fun _ hk => (by simp [Value.ownBlock]))⟩, ⟨nl⟩, ⟨bh HB.out⟩⟩
 case round =>
  clear H'
  obtain ⟨x5_1, x18_1, rfl, HA, HK1, HO_4, HO_5, HB⟩ := hrel
  cases gk with
  | zero => exact absurd HA.out (by simp [dict_Of_int.l0])
  | succ k1 =>
   have H := HA.out
   clear HA
   simp only [dict_Of_int.l0] at H
   replace H := ifd H
   rcases H with ⟨-, c9b0, H⟩ | ⟨-, c9b0, H⟩
   ·replace H := ifn H
    obtain ⟨-, c10b0, H⟩ := H
    replace H := ifn H
    obtain ⟨-, c11b0, H⟩ := H
    replace H := bd H
    obtain ⟨⟨t522, t523⟩, A12, H⟩ := H
    dsimp only at H
    replace H := ifn H
    obtain ⟨c13, -, H⟩ := H
    have LMc13 := Aside0.mk c13
    clear c13
    obtain ⟨y524, hy524⟩ : ∃ y_ : List Int, y_ = (x5_1 ++ [t522]) := ⟨_, rfl⟩
    replace H : (dict_Of_int.l0 k1 t518 y524 l0 (l0.length : Int) (wrap64 (x18_1 + 1))) = some (r1, r2) := by (rw [hy524]; with_reducible exact H)
    have Ny524 := Aside0.mk hy524
    clear hy524
    have H' := Aside0.mk H
    clear H
    have p521 : 0 ≤ (x18_1 : Int) := ad
    have q521 : x18_1 < (l0.length : Int) := ad
    obtain ⟨ad521, e521, hx521_0⟩ := Kd.at_int HR0.out x18_1 p521 q521
    cases e521
    replace hx521_0 := cb HB.out.cell hx521_0
    replace p521 := eq_true p521
    replace q521 := eq_true q521
    obtain ⟨Ao14, co14, eo14⟩ := Kd.R_slice HO_4.out
    subst eo14
    go_wp2_with (first | ((with_reducible refine gate_callee (f := 77) rfl ?_); refine gL 25 Tryz.func77 #[.slice Ao14 t518.length co14, .int .i64 (rd l0 x18_1)] ?_; (with_reducible refine (slices_BinarySearch_int_int.calls k1 _ _ t518 (rd l0 x18_1) t522 t523 _ ?side1 ?side2 A12.out).mono ?_); (case side1 => exact cx (Kd.R_reads' HO_4.out).2.2); (case side2 => exact (Kd.R_reads' HO_4.out).2.1); rintro e w' ⟨rfl, ⟨nd, rfl⟩⟩; refine ⟨_, rfl, ?_⟩) | ((with_reducible refine gate_builtin (b := .append) (xs := #[.tmp 28, .tmp 30]) rfl ?_); at_builtin; refine Kd.R_append (Kd.int .i64) (w0 := w) w.heap.size rfl (.tmp 28) (.tmp 30) 23 3 (.int .i64 0) 8 rfl Tryz.underlying23 info3 rfl (by decide) (by omega) u5 x5_1 t522 [.int .i64 t522] (fun k_ => some k_ ≠ (.slice Ao14 t518.length co14 : Value).ownBlock) (fun _ => False) rfl rfl ?aP (fun _ hk => hk.elim) ?aF ?aO ?aB ?aS ?aL ?_; (case aP => exact rfl); (case aB => exact (bh HB.out)); (case aF => exact (fun k_ hk => Kd.fresh' (Kd.R_lt (rx HO_4.out)) k_ hk)); (case aO => exact (rx HO_5.out)); (case aS => exact (below_size (bh HB.out))); (case aL => have := LMc13.out; omega); intro v525 w15 ho hb hg hat; rw [← Ny524.out] at ho; have n0_ := Aside0.mk (Kd.R_after (ok := (fun _ => True)) (by (with_reducible repeat (apply Kd.R_drewN)); exact Kd.R_mono HO_4.out (fun _ hk => ⟨trivial, hk⟩)) hg hat); have n1_ := Aside0.mk (hb); have n2_ := Aside0.mk (ho); clear HO_4 HB HO_5; have HO_4 := n0_; have HB := n1_; have HO526 := n2_; clear n0_ n1_ n2_ ho hb hg hat))
    go_roundg k1
    case measure => have := HK1.out; omega
    case rel => exact ⟨(y524), (wrap64 (x18_1 + 1)), (by rfl), H', ⟨by have := HK1.out; omega⟩, ⟨by exact Kd.R_mono HO_4.out (fun _ hk => hk.2)⟩, ⟨by exact HO526.out⟩, ⟨bh HB.out⟩⟩
   ·simp only [Option.some.injEq, Prod.mk.injEq] at H
    obtain ⟨rfl, rfl⟩ := H
    go_wp2
    go_ret2
    exact ⟨_, _, er, by exact HO_4.out, by exact HO_5.out, bh HB.out⟩
/-! ### dict_put_int_fn32: function 31 -/
def dict_put_int_fn32.f (k : Nat) (l0 : List Int)  : Option (ByteArray × Int) := if (l0.length : Int) > 65536 then (some ((⟨#[]⟩ : ByteArray), 1)) else (if (l0.length : Int) = 0 then (some ((⟨#[]⟩ : ByteArray), 0)) else ((dict_Of_int.f k l0).bind fun bt527 => ((dict_ints.f k bt527.1).bind fun bt533 => (if bt533.2 = 0 then ((pack_Width.f k bt527.2).bind fun t535 => ((pack_Put.f k bt527.2 t535).bind fun bt536 => ((vint_Put.f (bt527.1.length : Int)).bind fun t538 => (if t538.size + bt533.1.size ≤ 9223372036854775807 then (if (t538 ++ bt533.1).size + bt536.1.size ≤ 9223372036854775807 then (some ((t538 ++ bt533.1) ++ bt536.1, bt536.2)) else (none)) else (none))))) else (some ((⟨#[]⟩ : ByteArray), bt533.2))))))
set_option maxHeartbeats 8000000 in
set_option maxRecDepth 100000 in
theorem dict_put_int_fn32.calls (k : Nat) (A0 : Option Addr) (c0 : Nat) (l0 : List Int)  (r1 : ByteArray) (r2 : Int) (w : World) (hr0 : Kd.C (Kd.int .i64) w A0 l0.length l0) (hc0 : l0.length ≤ c0) (h : dict_put_int_fn32.f k l0 = some (r1, r2)) :
  Calls Tryz.prog 31 #[.slice A0 l0.length c0, .func (.func 32) #[] #[]] w fun e w' => e = .returned (.tuple #[.string r1, .int .i64 r2]) ∧ Below w.heap.size w w' := by
 have HR0 := Aside0.mk hr0
 have HC0 := Aside0.mk hc0
 clear hr0 hc0
 have HB := Aside0.mk (Below.refl w.heap.size w)
 have H := h
 clear h
 unfold dict_put_int_fn32.f at H
 replace H := ifd H
 rcases H with ⟨c3, c3b0, H⟩ | ⟨c3, c3b0, H⟩
 ·have c3b1 : decide (65536 < l0.length) = true := decide_eq_true (by omega)
  clear c3
  simp only [Option.some.injEq, Prod.mk.injEq] at H
  obtain ⟨rfl, rfl⟩ := H
  go_enter Tryz.func31, Tryz.ntmps31
  go_wp2
  go_ret2
  exact ⟨er, bh HB.out⟩
 ·have c3b1 : decide (65536 < l0.length) = false := decide_eq_false (by omega)
  clear c3
  replace H := ife H
  rcases H with ⟨-, c4b0, c4b1, H⟩ | ⟨c4, c4b0, c4b1, H⟩
  ·simp only [Option.some.injEq, Prod.mk.injEq] at H
   obtain ⟨rfl, rfl⟩ := H
   go_enter Tryz.func31, Tryz.ntmps31
   go_wp2
   go_ret2
   exact ⟨er, bh HB.out⟩
  ·have c4b2 : ¬ (l0 = []) := fun h_ => c4 (by rw [h_]; rfl)
   replace H := bd H
   obtain ⟨⟨t527, t528⟩, A5, H⟩ := H
   dsimp only at H
   replace H := bd H
   obtain ⟨⟨t533, t534⟩, A6, H⟩ := H
   dsimp only at H
   replace H := ife H
   rcases H with ⟨-, c7b0, c7b1, H⟩ | ⟨c7, c7b0, c7b1, H⟩
   ·replace H := bd H
    obtain ⟨t535, A8, H⟩ := H
    replace H := bd H
    obtain ⟨⟨t536, t537⟩, A9, H⟩ := H
    dsimp only at H
    replace H := bd H
    obtain ⟨t538, A10, H⟩ := H
    replace H := ifn H
    obtain ⟨c11, -, H⟩ := H
    have c11b0 := eq_true c11
    have c11b1 : decide (t538.size + t533.size ≤ 9223372036854775807) = true := decide_eq_true c11
    have c11b2 : (9223372036854775807 < t538.size + t533.size) = False := eq_false (Nat.not_lt.2 c11)
    replace H := ifn H
    obtain ⟨c12, -, H⟩ := H
    have c12b0 := eq_true c12
    have c12b1 : decide ((t538 ++ t533).size + t536.size ≤ 9223372036854775807) = true := decide_eq_true c12
    ((have c12b1s := c12b1; simp only [ByteArray.size_append] at c12b1s))
    have c12b2 : (9223372036854775807 < (t538 ++ t533).size + t536.size) = False := eq_false (Nat.not_lt.2 c12)
    ((have c12b2s := c12b2; simp only [ByteArray.size_append] at c12b2s))
    simp only [Option.some.injEq, Prod.mk.injEq] at H
    obtain ⟨rfl, rfl⟩ := H
    go_enter Tryz.func31, Tryz.ntmps31
    go_wp2_with (first | ((with_reducible refine gate_callee (f := 54) rfl ?_); refine gL 21 Tryz.func54 #[.slice A0 l0.length c0] ?_; (with_reducible refine (dict_Of_int.calls k _ _ l0 t527 t528 _ ?side1 ?side2 A5.out).mono ?_); (case side1 => exact cx HR0.out); (case side2 => exact HC0.out); rintro e w13 ⟨v529, v531, rfl, ho0, ho1, hb⟩; refine ⟨_, rfl, ?_⟩; have HO530 := Aside0.mk (Kd.R_lower ho0 (below_size (bh HB.out))); have HO532 := Aside0.mk (Kd.R_lower ho1 (below_size (bh HB.out))); replace HB := bsa HB hb; clear hb ho0 ho1; obtain ⟨Ao14, co14, eo14⟩ := Kd.R_slice HO530.out; subst eo14) | ((with_reducible refine gate_list ?_); refine gate_value rfl ?_; refine goesV_ (some 27) rfl rfl Tryz.func32 (by kernel_rfl) rfl #[.slice Ao14 t527.length co14] rfl (by rfl) (by (simp only [List.map_toArray, List.map_cons, List.map_nil]); rfl) ?_; (with_reducible refine (dict_ints.calls k _ _ t527 t533 t534 _ ?side1 ?side2 A6.out).mono ?_); (case side1 => exact cx (Kd.R_reads' HO530.out).2.2); (case side2 => exact (Kd.R_reads' HO530.out).2.1); rintro e w15 ⟨rfl, hb⟩; refine ⟨_, rfl, ?_⟩; replace HO530 := rba HO530 hb; replace HO532 := rba HO532 hb; replace HB := bsa HB hb; clear hb; obtain ⟨Ao16, co16, eo16⟩ := Kd.R_slice HO532.out; subst eo16) | ((with_reducible refine gate_callee (f := 40) rfl ?_); refine gL 36 Tryz.func40 #[.slice Ao16 t528.length co16] ?_; (with_reducible refine (pack_Width.calls k _ _ t528 t535 _ ?side1 ?side2 A8.out).mono ?_); (case side1 => exact cx (Kd.R_reads' HO532.out).2.2); (case side2 => exact (Kd.R_reads' HO532.out).2.1); rintro e w' ⟨rfl, ⟨nd, rfl⟩⟩; refine ⟨_, rfl, ?_⟩) | ((with_reducible refine gate_callee (f := 55) rfl ?_); refine gL 37 Tryz.func55 #[.slice Ao16 t528.length co16, .int .i64 t535] ?_; (with_reducible refine (pack_Put.calls k _ _ t528 t535 t536 t537 _ ?side1 ?side2 A9.out).mono ?_); (case side1 => exact cx (Kd.R_reads' HO532.out).2.2); (case side2 => exact (Kd.R_reads' HO532.out).2.1); rintro e w17 ⟨rfl, hb⟩; refine ⟨_, rfl, ?_⟩; replace HO530 := rba HO530 hb; replace HO532 := rba HO532 hb; replace HB := bsa HB hb; clear hb) | ((with_reducible refine gate_callee (f := 56) rfl ?_); refine gL 42 Tryz.func56 #[.int .i64 (t527.length : Int)] ?_; (with_reducible refine (vint_Put.calls (t527.length : Int) t538 _ A10.out).mono ?_); rintro e w18 ⟨rfl, hb⟩; refine ⟨_, rfl, ?_⟩; replace HO530 := rba HO530 hb; replace HO532 := rba HO532 hb; replace HB := bsa HB hb; clear hb))
    go_ret2
    exact ⟨er, bh HB.out⟩
   ·simp only [Option.some.injEq, Prod.mk.injEq] at H
    obtain ⟨rfl, rfl⟩ := H
    go_enter Tryz.func31, Tryz.ntmps31
    go_wp2_with (first | ((with_reducible refine gate_callee (f := 54) rfl ?_); refine gL 21 Tryz.func54 #[.slice A0 l0.length c0] ?_; (with_reducible refine (dict_Of_int.calls k _ _ l0 t527 t528 _ ?side1 ?side2 A5.out).mono ?_); (case side1 => exact cx HR0.out); (case side2 => exact HC0.out); rintro e w19 ⟨v529, v531, rfl, ho0, ho1, hb⟩; refine ⟨_, rfl, ?_⟩; have HO530 := Aside0.mk (Kd.R_lower ho0 (below_size (bh HB.out))); have HO532 := Aside0.mk (Kd.R_lower ho1 (below_size (bh HB.out))); replace HB := bsa HB hb; clear hb ho0 ho1; obtain ⟨Ao20, co20, eo20⟩ := Kd.R_slice HO530.out; subst eo20) | ((with_reducible refine gate_list ?_); refine gate_value rfl ?_; refine goesV_ (some 27) rfl rfl Tryz.func32 (by kernel_rfl) rfl #[.slice Ao20 t527.length co20] rfl (by rfl) (by (simp only [List.map_toArray, List.map_cons, List.map_nil]); rfl) ?_; (with_reducible refine (dict_ints.calls k _ _ t527 t533 t534 _ ?side1 ?side2 A6.out).mono ?_); (case side1 => exact cx (Kd.R_reads' HO530.out).2.2); (case side2 => exact (Kd.R_reads' HO530.out).2.1); rintro e w21 ⟨rfl, hb⟩; refine ⟨_, rfl, ?_⟩; replace HO530 := rba HO530 hb; replace HO532 := rba HO532 hb; replace HB := bsa HB hb; clear hb))
    go_ret2
    exact ⟨er, bh HB.out⟩
/-! ### dict_PutInts: function 11 -/
def dict_PutInts.f (k : Nat) (l0 : List Int) : Option (ByteArray × Int) := (dict_put_int_fn32.f k l0).bind fun bt539 => (some (bt539.1, bt539.2))
set_option maxHeartbeats 8000000 in
set_option maxRecDepth 100000 in
theorem dict_PutInts.calls (k : Nat) (A0 : Option Addr) (c0 : Nat) (l0 : List Int) (r1 : ByteArray) (r2 : Int) (w : World) (hr0 : Kd.C (Kd.int .i64) w A0 l0.length l0) (hc0 : l0.length ≤ c0) (h : dict_PutInts.f k l0 = some (r1, r2)) :
  Calls Tryz.prog 11 #[.slice A0 l0.length c0] w fun e w' => e = .returned (.tuple #[.string r1, .int .i64 r2]) ∧ Below w.heap.size w w' := by
 have HR0 := Aside0.mk hr0
 have HC0 := Aside0.mk hc0
 clear hr0 hc0
 have HB := Aside0.mk (Below.refl w.heap.size w)
 have H := h
 clear h
 unfold dict_PutInts.f at H
 replace H := bd H
 obtain ⟨⟨t539, t540⟩, A2, H⟩ := H
 dsimp only at H
 simp only [Option.some.injEq, Prod.mk.injEq] at H
 obtain ⟨rfl, rfl⟩ := H
 go_enter Tryz.func11, Tryz.ntmps11
 go_wp2_with (((with_reducible refine gate_callee (f := 31) rfl ?_); refine gL 5 Tryz.func31 #[.slice A0 l0.length c0, .func (.func 32) #[] #[]] ?_; (with_reducible refine (dict_put_int_fn32.calls k _ _ l0  t539 t540 _ ?side1 ?side2 A2.out).mono ?_); (case side1 => exact cx HR0.out); (case side2 => exact HC0.out); rintro e w3 ⟨rfl, hb⟩; refine ⟨_, rfl, ?_⟩; replace HB := bsa HB hb; clear hb))
 go_ret2
 exact ⟨er, bh HB.out⟩
/-! ### peristylelaw11_DictTakes: function 3 -/
def peristylelaw11_DictTakes.f (k : Nat) (a0 : ByteArray) (a1 : Int) : Option (Bool) := if (a0.size : Int) > 512 then ((peristylelaw11_awake.f k).bind fun t541 => (some t541)) else ((dict_TakeInts.f k a0 a1).bind fun bt542 => ((peristyleref11_TakeInts.f k a0 a1).bind fun bt546 => ((dict_TakeTexts.f k a0 a1).bind fun bt550 => ((peristyleref11_TakeTexts.f k a0 a1).bind fun bt554 => ((dict_Places.f k a0 a1).bind fun bt558 => ((peristyleref11_Places.f k a0 a1).bind fun bt565 => ((dict_PutInts.f k bt542.1).bind fun bt572 => ((dict_PutTexts.f k bt550.1).bind fun bt574 => ((peristyleref01_Same.f k bt542.1 bt546.1).bind fun t576 => (if t576 = true then (if bt542.2 = bt546.2 then ((peristyleref07_Same.f k bt550.1 bt554.1).bind fun t577 => (if t577 = true then (if bt550.2 = bt554.2 then ((peristyleref07_Same.f k bt558.1 bt565.1).bind fun t578 => (if t578 = true then ((peristyleref01_Same.f k bt558.2.1 bt565.2.1).bind fun t579 => (if t579 = true then (if bt558.2.2 = bt565.2.2 then (if bt542.2 = 0 then (if bt572.1.toList = a0.toList then (if bt572.2 = 0 then (if bt550.2 = 0 then (if bt574.1.toList = a0.toList then (if bt574.2 = 0 then ((peristylelaw11_awake.f k).bind fun t580 => (some t580)) else (none)) else (none)) else ((peristylelaw11_awake.f k).bind fun t581 => (some t581))) else (none)) else (none)) else (if bt550.2 = 0 then (if bt574.1.toList = a0.toList then (if bt574.2 = 0 then ((peristylelaw11_awake.f k).bind fun t582 => (some t582)) else (none)) else (none)) else ((peristylelaw11_awake.f k).bind fun t583 => (some t583)))) else (some false)) else (some false))) else (some false))) else (some false)) else (some false))) else (some false)) else (some false)))))))))))
set_option maxHeartbeats 8000000 in
set_option maxRecDepth 100000 in
theorem peristylelaw11_DictTakes.calls (k : Nat) (a0 : ByteArray) (a1 : Int) (r : Bool) (w : World) (h : peristylelaw11_DictTakes.f k a0 a1 = some r) :
  Calls Tryz.prog 3 #[.string a0, .int .i64 a1] w fun e w' => e = .returned (.bool r) ∧ Below w.heap.size w w' := by
 have HB := Aside0.mk (Below.refl w.heap.size w)
 have H := h
 clear h
 unfold peristylelaw11_DictTakes.f at H
 replace H := ifd H
 rcases H with ⟨c3, c3b0, H⟩ | ⟨c3, c3b0, H⟩
 ·have c3b1 : decide (512 < a0.size) = true := decide_eq_true (by omega)
  clear c3
  replace H := bd H
  obtain ⟨t541, A4, H⟩ := H
  obtain rfl := Option.some.inj H
  go_enter Tryz.func3, Tryz.ntmps3
  go_wp2_with (((with_reducible refine gate_callee (f := 4) rfl ?_); refine gL 26 Tryz.func4 #[] ?_; (with_reducible refine (peristylelaw11_awake.calls k  t541 _ A4.out).mono ?_); rintro e w5 ⟨rfl, hb⟩; refine ⟨_, rfl, ?_⟩; replace HB := bsa HB hb; clear hb))
  go_ret
  exact ⟨er, bh HB.out⟩
 ·have c3b1 : decide (512 < a0.size) = false := decide_eq_false (by omega)
  clear c3
  replace H := bd H
  obtain ⟨⟨t542, t543⟩, A6, H⟩ := H
  dsimp only at H
  replace H := bd H
  obtain ⟨⟨t546, t547⟩, A7, H⟩ := H
  dsimp only at H
  replace H := bd H
  obtain ⟨⟨t550, t551⟩, A8, H⟩ := H
  dsimp only at H
  replace H := bd H
  obtain ⟨⟨t554, t555⟩, A9, H⟩ := H
  dsimp only at H
  replace H := bd H
  obtain ⟨⟨t558, t559, t560⟩, A10, H⟩ := H
  dsimp only at H
  replace H := bd H
  obtain ⟨⟨t565, t566, t567⟩, A11, H⟩ := H
  dsimp only at H
  replace H := bd H
  obtain ⟨⟨t572, t573⟩, A12, H⟩ := H
  dsimp only at H
  replace H := bd H
  obtain ⟨⟨t574, t575⟩, A13, H⟩ := H
  dsimp only at H
  replace H := bd H
  obtain ⟨t576, A14, H⟩ := H
  replace H := ifb H
  rcases H with ⟨rfl, H⟩ | ⟨rfl, H⟩
  ·replace H := ife H
   rcases H with ⟨-, c16b0, c16b1, H⟩ | ⟨c16, c16b0, c16b1, H⟩
   ·replace H := bd H
    obtain ⟨t577, A17, H⟩ := H
    replace H := ifb H
    rcases H with ⟨rfl, H⟩ | ⟨rfl, H⟩
    ·replace H := ife H
     rcases H with ⟨-, c19b0, c19b1, H⟩ | ⟨c19, c19b0, c19b1, H⟩
     ·replace H := bd H
      obtain ⟨t578, A20, H⟩ := H
      replace H := ifb H
      rcases H with ⟨rfl, H⟩ | ⟨rfl, H⟩
      ·replace H := bd H
       obtain ⟨t579, A22, H⟩ := H
       replace H := ifb H
       rcases H with ⟨rfl, H⟩ | ⟨rfl, H⟩
       ·replace H := ife H
        rcases H with ⟨-, c24b0, c24b1, H⟩ | ⟨c24, c24b0, c24b1, H⟩
        ·replace H := ife H
         rcases H with ⟨-, c25b0, c25b1, H⟩ | ⟨c25, c25b0, c25b1, H⟩
         ·replace H := ife H
          rcases H with ⟨-, c26b0, c26b1, H⟩ | ⟨-, -, -, ⟨⟩⟩
          replace H := ife H
          rcases H with ⟨-, c27b0, c27b1, H⟩ | ⟨-, -, -, ⟨⟩⟩
          replace H := ife H
          rcases H with ⟨-, c28b0, c28b1, H⟩ | ⟨c28, c28b0, c28b1, H⟩
          ·replace H := ife H
           rcases H with ⟨-, c29b0, c29b1, H⟩ | ⟨-, -, -, ⟨⟩⟩
           replace H := ife H
           rcases H with ⟨-, c30b0, c30b1, H⟩ | ⟨-, -, -, ⟨⟩⟩
           replace H := bd H
           obtain ⟨t580, A31, H⟩ := H
           obtain rfl := Option.some.inj H
           go_enter Tryz.func3, Tryz.ntmps3
           go_wp2_with (first | ((with_reducible refine gate_callee (f := 5) rfl ?_); refine gL 30 Tryz.func5 #[.string a0, .int .i64 a1] ?_; (with_reducible refine (dict_TakeInts.calls k a0 a1 t542 t543 _ A6.out).mono ?_); rintro e w32 ⟨v544, rfl, ho0, hb⟩; refine ⟨_, rfl, ?_⟩; have HO545 := Aside0.mk (Kd.R_lower ho0 (below_size (bh HB.out))); replace HB := bsa HB hb; clear hb ho0) | ((with_reducible refine gate_callee (f := 6) rfl ?_); refine gL 36 Tryz.func6 #[.string a0, .int .i64 a1] ?_; (with_reducible refine (peristyleref11_TakeInts.calls k a0 a1 t546 t547 _ A7.out).mono ?_); rintro e w33 ⟨v548, rfl, ho0, hb⟩; refine ⟨_, rfl, ?_⟩; have HO549 := Aside0.mk (Kd.R_lower (Kd.R_new' ho0 (Kd.R_lt (rx HO545.out))) (below_size (bh HB.out))); replace HO545 := Aside0.mk (Kd.R_elder' (rx HO545.out) (Kd.R_base ho0) hb); replace HB := bsa HB hb; clear hb ho0) | ((with_reducible refine gate_callee (f := 7) rfl ?_); refine gL 42 Tryz.func7 #[.string a0, .int .i64 a1] ?_; (with_reducible refine (dict_TakeTexts.calls k a0 a1 t550 t551 _ A8.out).mono ?_); rintro e w34 ⟨v552, rfl, ho0, hb⟩; refine ⟨_, rfl, ?_⟩; replace HO545 := rba HO545 hb; replace HO549 := rba HO549 hb; have HO553 := Aside0.mk (Kd.R_lower ho0 (below_size (bh HB.out))); replace HB := bsa HB hb; clear hb ho0) | ((with_reducible refine gate_callee (f := 8) rfl ?_); refine gL 48 Tryz.func8 #[.string a0, .int .i64 a1] ?_; (with_reducible refine (peristyleref11_TakeTexts.calls k a0 a1 t554 t555 _ A9.out).mono ?_); rintro e w35 ⟨v556, rfl, ho0, hb⟩; refine ⟨_, rfl, ?_⟩; replace HO545 := rba HO545 hb; replace HO549 := rba HO549 hb; have HO557 := Aside0.mk (Kd.R_lower (Kd.R_new' ho0 (Kd.R_lt (rx HO553.out))) (below_size (bh HB.out))); replace HO553 := Aside0.mk (Kd.R_elder' (rx HO553.out) (Kd.R_base ho0) hb); replace HB := bsa HB hb; clear hb ho0) | ((with_reducible refine gate_callee (f := 9) rfl ?_); refine gL 54 Tryz.func9 #[.string a0, .int .i64 a1] ?_; (with_reducible refine (dict_Places.calls k a0 a1 t558 t559 t560 _ A10.out).mono ?_); rintro e w36 ⟨v561, v563, rfl, ho0, ho1, hb⟩; refine ⟨_, rfl, ?_⟩; have HO562 := Aside0.mk (Kd.R_lower (Kd.R_new' (Kd.R_new' ho0 (Kd.R_lt (rx HO553.out))) (Kd.R_lt (rx HO557.out))) (below_size (bh HB.out))); replace HO553 := Aside0.mk (Kd.R_elder' (rx HO553.out) (Kd.R_base ho0) hb); replace HO557 := Aside0.mk (Kd.R_elder' (rx HO557.out) (Kd.R_base ho0) hb); have HO564 := Aside0.mk (Kd.R_lower (Kd.R_new' (Kd.R_new' ho1 (Kd.R_lt (rx HO545.out))) (Kd.R_lt (rx HO549.out))) (below_size (bh HB.out))); replace HO545 := Aside0.mk (Kd.R_elder' (rx HO545.out) (Kd.R_base ho1) hb); replace HO549 := Aside0.mk (Kd.R_elder' (rx HO549.out) (Kd.R_base ho1) hb); replace HB := bsa HB hb; clear hb ho0 ho1) | ((with_reducible refine gate_callee (f := 10) rfl ?_); refine gL 61 Tryz.func10 #[.string a0, .int .i64 a1] ?_; (with_reducible refine (peristyleref11_Places.calls k a0 a1 t565 t566 t567 _ A11.out).mono ?_); rintro e w37 ⟨v568, v570, rfl, ho0, ho1, hb⟩; refine ⟨_, rfl, ?_⟩; have HO569 := Aside0.mk (Kd.R_lower (Kd.R_new' (Kd.R_new' (Kd.R_new' ho0 (Kd.R_lt (rx HO553.out))) (Kd.R_lt (rx HO557.out))) (Kd.R_lt (rx HO562.out))) (below_size (bh HB.out))); replace HO553 := Aside0.mk (Kd.R_elder' (rx HO553.out) (Kd.R_base ho0) hb); replace HO557 := Aside0.mk (Kd.R_elder' (rx HO557.out) (Kd.R_base ho0) hb); replace HO562 := Aside0.mk (Kd.R_elder' (rx HO562.out) (Kd.R_base ho0) hb); have HO571 := Aside0.mk (Kd.R_lower (Kd.R_new' (Kd.R_new' (Kd.R_new' ho1 (Kd.R_lt (rx HO545.out))) (Kd.R_lt (rx HO549.out))) (Kd.R_lt (rx HO564.out))) (below_size (bh HB.out))); replace HO545 := Aside0.mk (Kd.R_elder' (rx HO545.out) (Kd.R_base ho1) hb); replace HO549 := Aside0.mk (Kd.R_elder' (rx HO549.out) (Kd.R_base ho1) hb); replace HO564 := Aside0.mk (Kd.R_elder' (rx HO564.out) (Kd.R_base ho1) hb); replace HB := bsa HB hb; clear hb ho0 ho1; obtain ⟨Ao38, co38, eo38⟩ := Kd.R_slice HO545.out; subst eo38) | ((with_reducible refine gate_callee (f := 11) rfl ?_); refine gL 67 Tryz.func11 #[.slice Ao38 t542.length co38] ?_; (with_reducible refine (dict_PutInts.calls k _ _ t542 t572 t573 _ ?side1 ?side2 A12.out).mono ?_); (case side1 => exact cx (Kd.R_reads' HO545.out).2.2); (case side2 => exact (Kd.R_reads' HO545.out).2.1); rintro e w39 ⟨rfl, hb⟩; refine ⟨_, rfl, ?_⟩; replace HO545 := rba HO545 hb; replace HO549 := rba HO549 hb; replace HO553 := rba HO553 hb; replace HO557 := rba HO557 hb; replace HO562 := rba HO562 hb; replace HO564 := rba HO564 hb; replace HO569 := rba HO569 hb; replace HO571 := rba HO571 hb; replace HB := bsa HB hb; clear hb; obtain ⟨Ao40, co40, eo40⟩ := Kd.R_slice HO553.out; subst eo40) | ((with_reducible refine gate_callee (f := 12) rfl ?_); refine gL 72 Tryz.func12 #[.slice Ao40 t550.length co40] ?_; (with_reducible refine (dict_PutTexts.calls k _ _ t550 t574 t575 _ ?side1 ?side2 A13.out).mono ?_); (case side1 => exact cx (Kd.R_reads' HO553.out).2.2); (case side2 => exact (Kd.R_reads' HO553.out).2.1); rintro e w41 ⟨rfl, hb⟩; refine ⟨_, rfl, ?_⟩; replace HO545 := rba HO545 hb; replace HO549 := rba HO549 hb; replace HO553 := rba HO553 hb; replace HO557 := rba HO557 hb; replace HO562 := rba HO562 hb; replace HO564 := rba HO564 hb; replace HO569 := rba HO569 hb; replace HO571 := rba HO571 hb; replace HB := bsa HB hb; clear hb; obtain ⟨Ao42, co42, eo42⟩ := Kd.R_slice HO549.out; subst eo42) | ((with_reducible refine gate_callee (f := 13) rfl ?_); refine gL 77 Tryz.func13 #[.slice Ao38 t542.length co38, .slice Ao42 t546.length co42] ?_; (with_reducible refine (peristyleref01_Same.calls k _ _ t542 _ _ t546 true _ ?side1 ?side2 ?side3 ?side4 A14.out).mono ?_); (case side1 => exact cx (Kd.R_reads' HO545.out).2.2); (case side2 => exact (Kd.R_reads' HO545.out).2.1); (case side3 => exact cx (Kd.R_reads' HO549.out).2.2); (case side4 => exact (Kd.R_reads' HO549.out).2.1); rintro e w' ⟨rfl, ⟨nd, rfl⟩⟩; refine ⟨_, rfl, ?_⟩; obtain ⟨Ao43, co43, eo43⟩ := Kd.R_slice HO557.out; subst eo43) | (go_at_call 14; (with_reducible refine (peristyleref07_Same.calls k _ _ t550 _ _ t554 true _ ?side1 ?side2 ?side3 ?side4 A17.out).mono ?_); (case side1 => exact cx (Kd.R_reads' HO553.out).2.2); (case side2 => exact (Kd.R_reads' HO553.out).2.1); (case side3 => exact cx (Kd.R_reads' HO557.out).2.2); (case side4 => exact (Kd.R_reads' HO557.out).2.1); rintro e w' ⟨rfl, ⟨nd, rfl⟩⟩; clear A17; obtain ⟨Ao44, co44, eo44⟩ := Kd.R_slice HO562.out; subst eo44; obtain ⟨Ao45, co45, eo45⟩ := Kd.R_slice HO569.out; subst eo45) | (go_at_call 14; (with_reducible refine (peristyleref07_Same.calls k _ _ t558 _ _ t565 true _ ?side1 ?side2 ?side3 ?side4 A20.out).mono ?_); (case side1 => exact cx (Kd.R_reads' HO562.out).2.2); (case side2 => exact (Kd.R_reads' HO562.out).2.1); (case side3 => exact cx (Kd.R_reads' HO569.out).2.2); (case side4 => exact (Kd.R_reads' HO569.out).2.1); rintro e w' ⟨rfl, ⟨nd, rfl⟩⟩; clear A20; obtain ⟨Ao46, co46, eo46⟩ := Kd.R_slice HO564.out; subst eo46; obtain ⟨Ao47, co47, eo47⟩ := Kd.R_slice HO571.out; subst eo47) | (go_at_call 13; (with_reducible refine (peristyleref01_Same.calls k _ _ t559 _ _ t566 true _ ?side1 ?side2 ?side3 ?side4 A22.out).mono ?_); (case side1 => exact cx (Kd.R_reads' HO564.out).2.2); (case side2 => exact (Kd.R_reads' HO564.out).2.1); (case side3 => exact cx (Kd.R_reads' HO571.out).2.2); (case side4 => exact (Kd.R_reads' HO571.out).2.1); rintro e w' ⟨rfl, ⟨nd, rfl⟩⟩; clear A22) | (go_at_call 4; (with_reducible refine (peristylelaw11_awake.calls k  t580 _ A31.out).mono ?_); rintro e w48 ⟨rfl, hb⟩; replace HO545 := rba HO545 hb; replace HO549 := rba HO549 hb; replace HO553 := rba HO553 hb; replace HO557 := rba HO557 hb; replace HO562 := rba HO562 hb; replace HO564 := rba HO564 hb; replace HO569 := rba HO569 hb; replace HO571 := rba HO571 hb; replace HB := bsa HB hb; clear hb A31))
           go_ret
           exact ⟨er, bh HB.out⟩
          ·replace H := bd H
           obtain ⟨t581, A49, H⟩ := H
           obtain rfl := Option.some.inj H
           go_enter Tryz.func3, Tryz.ntmps3
           go_wp2_with (first | ((with_reducible refine gate_callee (f := 5) rfl ?_); refine gL 30 Tryz.func5 #[.string a0, .int .i64 a1] ?_; (with_reducible refine (dict_TakeInts.calls k a0 a1 t542 t543 _ A6.out).mono ?_); rintro e w50 ⟨v544, rfl, ho0, hb⟩; refine ⟨_, rfl, ?_⟩; have HO545 := Aside0.mk (Kd.R_lower ho0 (below_size (bh HB.out))); replace HB := bsa HB hb; clear hb ho0) | ((with_reducible refine gate_callee (f := 6) rfl ?_); refine gL 36 Tryz.func6 #[.string a0, .int .i64 a1] ?_; (with_reducible refine (peristyleref11_TakeInts.calls k a0 a1 t546 t547 _ A7.out).mono ?_); rintro e w51 ⟨v548, rfl, ho0, hb⟩; refine ⟨_, rfl, ?_⟩; have HO549 := Aside0.mk (Kd.R_lower (Kd.R_new' ho0 (Kd.R_lt (rx HO545.out))) (below_size (bh HB.out))); replace HO545 := Aside0.mk (Kd.R_elder' (rx HO545.out) (Kd.R_base ho0) hb); replace HB := bsa HB hb; clear hb ho0) | ((with_reducible refine gate_callee (f := 7) rfl ?_); refine gL 42 Tryz.func7 #[.string a0, .int .i64 a1] ?_; (with_reducible refine (dict_TakeTexts.calls k a0 a1 t550 t551 _ A8.out).mono ?_); rintro e w52 ⟨v552, rfl, ho0, hb⟩; refine ⟨_, rfl, ?_⟩; replace HO545 := rba HO545 hb; replace HO549 := rba HO549 hb; have HO553 := Aside0.mk (Kd.R_lower ho0 (below_size (bh HB.out))); replace HB := bsa HB hb; clear hb ho0) | ((with_reducible refine gate_callee (f := 8) rfl ?_); refine gL 48 Tryz.func8 #[.string a0, .int .i64 a1] ?_; (with_reducible refine (peristyleref11_TakeTexts.calls k a0 a1 t554 t555 _ A9.out).mono ?_); rintro e w53 ⟨v556, rfl, ho0, hb⟩; refine ⟨_, rfl, ?_⟩; replace HO545 := rba HO545 hb; replace HO549 := rba HO549 hb; have HO557 := Aside0.mk (Kd.R_lower (Kd.R_new' ho0 (Kd.R_lt (rx HO553.out))) (below_size (bh HB.out))); replace HO553 := Aside0.mk (Kd.R_elder' (rx HO553.out) (Kd.R_base ho0) hb); replace HB := bsa HB hb; clear hb ho0) | ((with_reducible refine gate_callee (f := 9) rfl ?_); refine gL 54 Tryz.func9 #[.string a0, .int .i64 a1] ?_; (with_reducible refine (dict_Places.calls k a0 a1 t558 t559 t560 _ A10.out).mono ?_); rintro e w54 ⟨v561, v563, rfl, ho0, ho1, hb⟩; refine ⟨_, rfl, ?_⟩; have HO562 := Aside0.mk (Kd.R_lower (Kd.R_new' (Kd.R_new' ho0 (Kd.R_lt (rx HO553.out))) (Kd.R_lt (rx HO557.out))) (below_size (bh HB.out))); replace HO553 := Aside0.mk (Kd.R_elder' (rx HO553.out) (Kd.R_base ho0) hb); replace HO557 := Aside0.mk (Kd.R_elder' (rx HO557.out) (Kd.R_base ho0) hb); have HO564 := Aside0.mk (Kd.R_lower (Kd.R_new' (Kd.R_new' ho1 (Kd.R_lt (rx HO545.out))) (Kd.R_lt (rx HO549.out))) (below_size (bh HB.out))); replace HO545 := Aside0.mk (Kd.R_elder' (rx HO545.out) (Kd.R_base ho1) hb); replace HO549 := Aside0.mk (Kd.R_elder' (rx HO549.out) (Kd.R_base ho1) hb); replace HB := bsa HB hb; clear hb ho0 ho1) | ((with_reducible refine gate_callee (f := 10) rfl ?_); refine gL 61 Tryz.func10 #[.string a0, .int .i64 a1] ?_; (with_reducible refine (peristyleref11_Places.calls k a0 a1 t565 t566 t567 _ A11.out).mono ?_); rintro e w55 ⟨v568, v570, rfl, ho0, ho1, hb⟩; refine ⟨_, rfl, ?_⟩; have HO569 := Aside0.mk (Kd.R_lower (Kd.R_new' (Kd.R_new' (Kd.R_new' ho0 (Kd.R_lt (rx HO553.out))) (Kd.R_lt (rx HO557.out))) (Kd.R_lt (rx HO562.out))) (below_size (bh HB.out))); replace HO553 := Aside0.mk (Kd.R_elder' (rx HO553.out) (Kd.R_base ho0) hb); replace HO557 := Aside0.mk (Kd.R_elder' (rx HO557.out) (Kd.R_base ho0) hb); replace HO562 := Aside0.mk (Kd.R_elder' (rx HO562.out) (Kd.R_base ho0) hb); have HO571 := Aside0.mk (Kd.R_lower (Kd.R_new' (Kd.R_new' (Kd.R_new' ho1 (Kd.R_lt (rx HO545.out))) (Kd.R_lt (rx HO549.out))) (Kd.R_lt (rx HO564.out))) (below_size (bh HB.out))); replace HO545 := Aside0.mk (Kd.R_elder' (rx HO545.out) (Kd.R_base ho1) hb); replace HO549 := Aside0.mk (Kd.R_elder' (rx HO549.out) (Kd.R_base ho1) hb); replace HO564 := Aside0.mk (Kd.R_elder' (rx HO564.out) (Kd.R_base ho1) hb); replace HB := bsa HB hb; clear hb ho0 ho1; obtain ⟨Ao56, co56, eo56⟩ := Kd.R_slice HO545.out; subst eo56) | ((with_reducible refine gate_callee (f := 11) rfl ?_); refine gL 67 Tryz.func11 #[.slice Ao56 t542.length co56] ?_; (with_reducible refine (dict_PutInts.calls k _ _ t542 t572 t573 _ ?side1 ?side2 A12.out).mono ?_); (case side1 => exact cx (Kd.R_reads' HO545.out).2.2); (case side2 => exact (Kd.R_reads' HO545.out).2.1); rintro e w57 ⟨rfl, hb⟩; refine ⟨_, rfl, ?_⟩; replace HO545 := rba HO545 hb; replace HO549 := rba HO549 hb; replace HO553 := rba HO553 hb; replace HO557 := rba HO557 hb; replace HO562 := rba HO562 hb; replace HO564 := rba HO564 hb; replace HO569 := rba HO569 hb; replace HO571 := rba HO571 hb; replace HB := bsa HB hb; clear hb; obtain ⟨Ao58, co58, eo58⟩ := Kd.R_slice HO553.out; subst eo58) | ((with_reducible refine gate_callee (f := 12) rfl ?_); refine gL 72 Tryz.func12 #[.slice Ao58 t550.length co58] ?_; (with_reducible refine (dict_PutTexts.calls k _ _ t550 t574 t575 _ ?side1 ?side2 A13.out).mono ?_); (case side1 => exact cx (Kd.R_reads' HO553.out).2.2); (case side2 => exact (Kd.R_reads' HO553.out).2.1); rintro e w59 ⟨rfl, hb⟩; refine ⟨_, rfl, ?_⟩; replace HO545 := rba HO545 hb; replace HO549 := rba HO549 hb; replace HO553 := rba HO553 hb; replace HO557 := rba HO557 hb; replace HO562 := rba HO562 hb; replace HO564 := rba HO564 hb; replace HO569 := rba HO569 hb; replace HO571 := rba HO571 hb; replace HB := bsa HB hb; clear hb; obtain ⟨Ao60, co60, eo60⟩ := Kd.R_slice HO549.out; subst eo60) | ((with_reducible refine gate_callee (f := 13) rfl ?_); refine gL 77 Tryz.func13 #[.slice Ao56 t542.length co56, .slice Ao60 t546.length co60] ?_; (with_reducible refine (peristyleref01_Same.calls k _ _ t542 _ _ t546 true _ ?side1 ?side2 ?side3 ?side4 A14.out).mono ?_); (case side1 => exact cx (Kd.R_reads' HO545.out).2.2); (case side2 => exact (Kd.R_reads' HO545.out).2.1); (case side3 => exact cx (Kd.R_reads' HO549.out).2.2); (case side4 => exact (Kd.R_reads' HO549.out).2.1); rintro e w' ⟨rfl, ⟨nd, rfl⟩⟩; refine ⟨_, rfl, ?_⟩; obtain ⟨Ao61, co61, eo61⟩ := Kd.R_slice HO557.out; subst eo61) | (go_at_call 14; (with_reducible refine (peristyleref07_Same.calls k _ _ t550 _ _ t554 true _ ?side1 ?side2 ?side3 ?side4 A17.out).mono ?_); (case side1 => exact cx (Kd.R_reads' HO553.out).2.2); (case side2 => exact (Kd.R_reads' HO553.out).2.1); (case side3 => exact cx (Kd.R_reads' HO557.out).2.2); (case side4 => exact (Kd.R_reads' HO557.out).2.1); rintro e w' ⟨rfl, ⟨nd, rfl⟩⟩; clear A17; obtain ⟨Ao62, co62, eo62⟩ := Kd.R_slice HO562.out; subst eo62; obtain ⟨Ao63, co63, eo63⟩ := Kd.R_slice HO569.out; subst eo63) | (go_at_call 14; (with_reducible refine (peristyleref07_Same.calls k _ _ t558 _ _ t565 true _ ?side1 ?side2 ?side3 ?side4 A20.out).mono ?_); (case side1 => exact cx (Kd.R_reads' HO562.out).2.2); (case side2 => exact (Kd.R_reads' HO562.out).2.1); (case side3 => exact cx (Kd.R_reads' HO569.out).2.2); (case side4 => exact (Kd.R_reads' HO569.out).2.1); rintro e w' ⟨rfl, ⟨nd, rfl⟩⟩; clear A20; obtain ⟨Ao64, co64, eo64⟩ := Kd.R_slice HO564.out; subst eo64; obtain ⟨Ao65, co65, eo65⟩ := Kd.R_slice HO571.out; subst eo65) | (go_at_call 13; (with_reducible refine (peristyleref01_Same.calls k _ _ t559 _ _ t566 true _ ?side1 ?side2 ?side3 ?side4 A22.out).mono ?_); (case side1 => exact cx (Kd.R_reads' HO564.out).2.2); (case side2 => exact (Kd.R_reads' HO564.out).2.1); (case side3 => exact cx (Kd.R_reads' HO571.out).2.2); (case side4 => exact (Kd.R_reads' HO571.out).2.1); rintro e w' ⟨rfl, ⟨nd, rfl⟩⟩; clear A22) | (go_at_call 4; (with_reducible refine (peristylelaw11_awake.calls k  t581 _ A49.out).mono ?_); rintro e w66 ⟨rfl, hb⟩; replace HO545 := rba HO545 hb; replace HO549 := rba HO549 hb; replace HO553 := rba HO553 hb; replace HO557 := rba HO557 hb; replace HO562 := rba HO562 hb; replace HO564 := rba HO564 hb; replace HO569 := rba HO569 hb; replace HO571 := rba HO571 hb; replace HB := bsa HB hb; clear hb A49))
           go_ret
           exact ⟨er, bh HB.out⟩
         ·replace H := ife H
          rcases H with ⟨-, c67b0, c67b1, H⟩ | ⟨c67, c67b0, c67b1, H⟩
          ·replace H := ife H
           rcases H with ⟨-, c68b0, c68b1, H⟩ | ⟨-, -, -, ⟨⟩⟩
           replace H := ife H
           rcases H with ⟨-, c69b0, c69b1, H⟩ | ⟨-, -, -, ⟨⟩⟩
           replace H := bd H
           obtain ⟨t582, A70, H⟩ := H
           obtain rfl := Option.some.inj H
           go_enter Tryz.func3, Tryz.ntmps3
           go_wp2_with (first | ((with_reducible refine gate_callee (f := 5) rfl ?_); refine gL 30 Tryz.func5 #[.string a0, .int .i64 a1] ?_; (with_reducible refine (dict_TakeInts.calls k a0 a1 t542 t543 _ A6.out).mono ?_); rintro e w71 ⟨v544, rfl, ho0, hb⟩; refine ⟨_, rfl, ?_⟩; have HO545 := Aside0.mk (Kd.R_lower ho0 (below_size (bh HB.out))); replace HB := bsa HB hb; clear hb ho0) | ((with_reducible refine gate_callee (f := 6) rfl ?_); refine gL 36 Tryz.func6 #[.string a0, .int .i64 a1] ?_; (with_reducible refine (peristyleref11_TakeInts.calls k a0 a1 t546 t547 _ A7.out).mono ?_); rintro e w72 ⟨v548, rfl, ho0, hb⟩; refine ⟨_, rfl, ?_⟩; have HO549 := Aside0.mk (Kd.R_lower (Kd.R_new' ho0 (Kd.R_lt (rx HO545.out))) (below_size (bh HB.out))); replace HO545 := Aside0.mk (Kd.R_elder' (rx HO545.out) (Kd.R_base ho0) hb); replace HB := bsa HB hb; clear hb ho0) | ((with_reducible refine gate_callee (f := 7) rfl ?_); refine gL 42 Tryz.func7 #[.string a0, .int .i64 a1] ?_; (with_reducible refine (dict_TakeTexts.calls k a0 a1 t550 t551 _ A8.out).mono ?_); rintro e w73 ⟨v552, rfl, ho0, hb⟩; refine ⟨_, rfl, ?_⟩; replace HO545 := rba HO545 hb; replace HO549 := rba HO549 hb; have HO553 := Aside0.mk (Kd.R_lower ho0 (below_size (bh HB.out))); replace HB := bsa HB hb; clear hb ho0) | ((with_reducible refine gate_callee (f := 8) rfl ?_); refine gL 48 Tryz.func8 #[.string a0, .int .i64 a1] ?_; (with_reducible refine (peristyleref11_TakeTexts.calls k a0 a1 t554 t555 _ A9.out).mono ?_); rintro e w74 ⟨v556, rfl, ho0, hb⟩; refine ⟨_, rfl, ?_⟩; replace HO545 := rba HO545 hb; replace HO549 := rba HO549 hb; have HO557 := Aside0.mk (Kd.R_lower (Kd.R_new' ho0 (Kd.R_lt (rx HO553.out))) (below_size (bh HB.out))); replace HO553 := Aside0.mk (Kd.R_elder' (rx HO553.out) (Kd.R_base ho0) hb); replace HB := bsa HB hb; clear hb ho0) | ((with_reducible refine gate_callee (f := 9) rfl ?_); refine gL 54 Tryz.func9 #[.string a0, .int .i64 a1] ?_; (with_reducible refine (dict_Places.calls k a0 a1 t558 t559 t560 _ A10.out).mono ?_); rintro e w75 ⟨v561, v563, rfl, ho0, ho1, hb⟩; refine ⟨_, rfl, ?_⟩; have HO562 := Aside0.mk (Kd.R_lower (Kd.R_new' (Kd.R_new' ho0 (Kd.R_lt (rx HO553.out))) (Kd.R_lt (rx HO557.out))) (below_size (bh HB.out))); replace HO553 := Aside0.mk (Kd.R_elder' (rx HO553.out) (Kd.R_base ho0) hb); replace HO557 := Aside0.mk (Kd.R_elder' (rx HO557.out) (Kd.R_base ho0) hb); have HO564 := Aside0.mk (Kd.R_lower (Kd.R_new' (Kd.R_new' ho1 (Kd.R_lt (rx HO545.out))) (Kd.R_lt (rx HO549.out))) (below_size (bh HB.out))); replace HO545 := Aside0.mk (Kd.R_elder' (rx HO545.out) (Kd.R_base ho1) hb); replace HO549 := Aside0.mk (Kd.R_elder' (rx HO549.out) (Kd.R_base ho1) hb); replace HB := bsa HB hb; clear hb ho0 ho1) | ((with_reducible refine gate_callee (f := 10) rfl ?_); refine gL 61 Tryz.func10 #[.string a0, .int .i64 a1] ?_; (with_reducible refine (peristyleref11_Places.calls k a0 a1 t565 t566 t567 _ A11.out).mono ?_); rintro e w76 ⟨v568, v570, rfl, ho0, ho1, hb⟩; refine ⟨_, rfl, ?_⟩; have HO569 := Aside0.mk (Kd.R_lower (Kd.R_new' (Kd.R_new' (Kd.R_new' ho0 (Kd.R_lt (rx HO553.out))) (Kd.R_lt (rx HO557.out))) (Kd.R_lt (rx HO562.out))) (below_size (bh HB.out))); replace HO553 := Aside0.mk (Kd.R_elder' (rx HO553.out) (Kd.R_base ho0) hb); replace HO557 := Aside0.mk (Kd.R_elder' (rx HO557.out) (Kd.R_base ho0) hb); replace HO562 := Aside0.mk (Kd.R_elder' (rx HO562.out) (Kd.R_base ho0) hb); have HO571 := Aside0.mk (Kd.R_lower (Kd.R_new' (Kd.R_new' (Kd.R_new' ho1 (Kd.R_lt (rx HO545.out))) (Kd.R_lt (rx HO549.out))) (Kd.R_lt (rx HO564.out))) (below_size (bh HB.out))); replace HO545 := Aside0.mk (Kd.R_elder' (rx HO545.out) (Kd.R_base ho1) hb); replace HO549 := Aside0.mk (Kd.R_elder' (rx HO549.out) (Kd.R_base ho1) hb); replace HO564 := Aside0.mk (Kd.R_elder' (rx HO564.out) (Kd.R_base ho1) hb); replace HB := bsa HB hb; clear hb ho0 ho1; obtain ⟨Ao77, co77, eo77⟩ := Kd.R_slice HO545.out; subst eo77) | ((with_reducible refine gate_callee (f := 11) rfl ?_); refine gL 67 Tryz.func11 #[.slice Ao77 t542.length co77] ?_; (with_reducible refine (dict_PutInts.calls k _ _ t542 t572 t573 _ ?side1 ?side2 A12.out).mono ?_); (case side1 => exact cx (Kd.R_reads' HO545.out).2.2); (case side2 => exact (Kd.R_reads' HO545.out).2.1); rintro e w78 ⟨rfl, hb⟩; refine ⟨_, rfl, ?_⟩; replace HO545 := rba HO545 hb; replace HO549 := rba HO549 hb; replace HO553 := rba HO553 hb; replace HO557 := rba HO557 hb; replace HO562 := rba HO562 hb; replace HO564 := rba HO564 hb; replace HO569 := rba HO569 hb; replace HO571 := rba HO571 hb; replace HB := bsa HB hb; clear hb; obtain ⟨Ao79, co79, eo79⟩ := Kd.R_slice HO553.out; subst eo79) | ((with_reducible refine gate_callee (f := 12) rfl ?_); refine gL 72 Tryz.func12 #[.slice Ao79 t550.length co79] ?_; (with_reducible refine (dict_PutTexts.calls k _ _ t550 t574 t575 _ ?side1 ?side2 A13.out).mono ?_); (case side1 => exact cx (Kd.R_reads' HO553.out).2.2); (case side2 => exact (Kd.R_reads' HO553.out).2.1); rintro e w80 ⟨rfl, hb⟩; refine ⟨_, rfl, ?_⟩; replace HO545 := rba HO545 hb; replace HO549 := rba HO549 hb; replace HO553 := rba HO553 hb; replace HO557 := rba HO557 hb; replace HO562 := rba HO562 hb; replace HO564 := rba HO564 hb; replace HO569 := rba HO569 hb; replace HO571 := rba HO571 hb; replace HB := bsa HB hb; clear hb; obtain ⟨Ao81, co81, eo81⟩ := Kd.R_slice HO549.out; subst eo81) | ((with_reducible refine gate_callee (f := 13) rfl ?_); refine gL 77 Tryz.func13 #[.slice Ao77 t542.length co77, .slice Ao81 t546.length co81] ?_; (with_reducible refine (peristyleref01_Same.calls k _ _ t542 _ _ t546 true _ ?side1 ?side2 ?side3 ?side4 A14.out).mono ?_); (case side1 => exact cx (Kd.R_reads' HO545.out).2.2); (case side2 => exact (Kd.R_reads' HO545.out).2.1); (case side3 => exact cx (Kd.R_reads' HO549.out).2.2); (case side4 => exact (Kd.R_reads' HO549.out).2.1); rintro e w' ⟨rfl, ⟨nd, rfl⟩⟩; refine ⟨_, rfl, ?_⟩; obtain ⟨Ao82, co82, eo82⟩ := Kd.R_slice HO557.out; subst eo82) | (go_at_call 14; (with_reducible refine (peristyleref07_Same.calls k _ _ t550 _ _ t554 true _ ?side1 ?side2 ?side3 ?side4 A17.out).mono ?_); (case side1 => exact cx (Kd.R_reads' HO553.out).2.2); (case side2 => exact (Kd.R_reads' HO553.out).2.1); (case side3 => exact cx (Kd.R_reads' HO557.out).2.2); (case side4 => exact (Kd.R_reads' HO557.out).2.1); rintro e w' ⟨rfl, ⟨nd, rfl⟩⟩; clear A17; obtain ⟨Ao83, co83, eo83⟩ := Kd.R_slice HO562.out; subst eo83; obtain ⟨Ao84, co84, eo84⟩ := Kd.R_slice HO569.out; subst eo84) | (go_at_call 14; (with_reducible refine (peristyleref07_Same.calls k _ _ t558 _ _ t565 true _ ?side1 ?side2 ?side3 ?side4 A20.out).mono ?_); (case side1 => exact cx (Kd.R_reads' HO562.out).2.2); (case side2 => exact (Kd.R_reads' HO562.out).2.1); (case side3 => exact cx (Kd.R_reads' HO569.out).2.2); (case side4 => exact (Kd.R_reads' HO569.out).2.1); rintro e w' ⟨rfl, ⟨nd, rfl⟩⟩; clear A20; obtain ⟨Ao85, co85, eo85⟩ := Kd.R_slice HO564.out; subst eo85; obtain ⟨Ao86, co86, eo86⟩ := Kd.R_slice HO571.out; subst eo86) | (go_at_call 13; (with_reducible refine (peristyleref01_Same.calls k _ _ t559 _ _ t566 true _ ?side1 ?side2 ?side3 ?side4 A22.out).mono ?_); (case side1 => exact cx (Kd.R_reads' HO564.out).2.2); (case side2 => exact (Kd.R_reads' HO564.out).2.1); (case side3 => exact cx (Kd.R_reads' HO571.out).2.2); (case side4 => exact (Kd.R_reads' HO571.out).2.1); rintro e w' ⟨rfl, ⟨nd, rfl⟩⟩; clear A22) | (go_at_call 4; (with_reducible refine (peristylelaw11_awake.calls k  t582 _ A70.out).mono ?_); rintro e w87 ⟨rfl, hb⟩; replace HO545 := rba HO545 hb; replace HO549 := rba HO549 hb; replace HO553 := rba HO553 hb; replace HO557 := rba HO557 hb; replace HO562 := rba HO562 hb; replace HO564 := rba HO564 hb; replace HO569 := rba HO569 hb; replace HO571 := rba HO571 hb; replace HB := bsa HB hb; clear hb A70))
           go_ret
           exact ⟨er, bh HB.out⟩
          ·replace H := bd H
           obtain ⟨t583, A88, H⟩ := H
           obtain rfl := Option.some.inj H
           go_enter Tryz.func3, Tryz.ntmps3
           go_wp2_with (first | ((with_reducible refine gate_callee (f := 5) rfl ?_); refine gL 30 Tryz.func5 #[.string a0, .int .i64 a1] ?_; (with_reducible refine (dict_TakeInts.calls k a0 a1 t542 t543 _ A6.out).mono ?_); rintro e w89 ⟨v544, rfl, ho0, hb⟩; refine ⟨_, rfl, ?_⟩; have HO545 := Aside0.mk (Kd.R_lower ho0 (below_size (bh HB.out))); replace HB := bsa HB hb; clear hb ho0) | ((with_reducible refine gate_callee (f := 6) rfl ?_); refine gL 36 Tryz.func6 #[.string a0, .int .i64 a1] ?_; (with_reducible refine (peristyleref11_TakeInts.calls k a0 a1 t546 t547 _ A7.out).mono ?_); rintro e w90 ⟨v548, rfl, ho0, hb⟩; refine ⟨_, rfl, ?_⟩; have HO549 := Aside0.mk (Kd.R_lower (Kd.R_new' ho0 (Kd.R_lt (rx HO545.out))) (below_size (bh HB.out))); replace HO545 := Aside0.mk (Kd.R_elder' (rx HO545.out) (Kd.R_base ho0) hb); replace HB := bsa HB hb; clear hb ho0) | ((with_reducible refine gate_callee (f := 7) rfl ?_); refine gL 42 Tryz.func7 #[.string a0, .int .i64 a1] ?_; (with_reducible refine (dict_TakeTexts.calls k a0 a1 t550 t551 _ A8.out).mono ?_); rintro e w91 ⟨v552, rfl, ho0, hb⟩; refine ⟨_, rfl, ?_⟩; replace HO545 := rba HO545 hb; replace HO549 := rba HO549 hb; have HO553 := Aside0.mk (Kd.R_lower ho0 (below_size (bh HB.out))); replace HB := bsa HB hb; clear hb ho0) | ((with_reducible refine gate_callee (f := 8) rfl ?_); refine gL 48 Tryz.func8 #[.string a0, .int .i64 a1] ?_; (with_reducible refine (peristyleref11_TakeTexts.calls k a0 a1 t554 t555 _ A9.out).mono ?_); rintro e w92 ⟨v556, rfl, ho0, hb⟩; refine ⟨_, rfl, ?_⟩; replace HO545 := rba HO545 hb; replace HO549 := rba HO549 hb; have HO557 := Aside0.mk (Kd.R_lower (Kd.R_new' ho0 (Kd.R_lt (rx HO553.out))) (below_size (bh HB.out))); replace HO553 := Aside0.mk (Kd.R_elder' (rx HO553.out) (Kd.R_base ho0) hb); replace HB := bsa HB hb; clear hb ho0) | ((with_reducible refine gate_callee (f := 9) rfl ?_); refine gL 54 Tryz.func9 #[.string a0, .int .i64 a1] ?_; (with_reducible refine (dict_Places.calls k a0 a1 t558 t559 t560 _ A10.out).mono ?_); rintro e w93 ⟨v561, v563, rfl, ho0, ho1, hb⟩; refine ⟨_, rfl, ?_⟩; have HO562 := Aside0.mk (Kd.R_lower (Kd.R_new' (Kd.R_new' ho0 (Kd.R_lt (rx HO553.out))) (Kd.R_lt (rx HO557.out))) (below_size (bh HB.out))); replace HO553 := Aside0.mk (Kd.R_elder' (rx HO553.out) (Kd.R_base ho0) hb); replace HO557 := Aside0.mk (Kd.R_elder' (rx HO557.out) (Kd.R_base ho0) hb); have HO564 := Aside0.mk (Kd.R_lower (Kd.R_new' (Kd.R_new' ho1 (Kd.R_lt (rx HO545.out))) (Kd.R_lt (rx HO549.out))) (below_size (bh HB.out))); replace HO545 := Aside0.mk (Kd.R_elder' (rx HO545.out) (Kd.R_base ho1) hb); replace HO549 := Aside0.mk (Kd.R_elder' (rx HO549.out) (Kd.R_base ho1) hb); replace HB := bsa HB hb; clear hb ho0 ho1) | ((with_reducible refine gate_callee (f := 10) rfl ?_); refine gL 61 Tryz.func10 #[.string a0, .int .i64 a1] ?_; (with_reducible refine (peristyleref11_Places.calls k a0 a1 t565 t566 t567 _ A11.out).mono ?_); rintro e w94 ⟨v568, v570, rfl, ho0, ho1, hb⟩; refine ⟨_, rfl, ?_⟩; have HO569 := Aside0.mk (Kd.R_lower (Kd.R_new' (Kd.R_new' (Kd.R_new' ho0 (Kd.R_lt (rx HO553.out))) (Kd.R_lt (rx HO557.out))) (Kd.R_lt (rx HO562.out))) (below_size (bh HB.out))); replace HO553 := Aside0.mk (Kd.R_elder' (rx HO553.out) (Kd.R_base ho0) hb); replace HO557 := Aside0.mk (Kd.R_elder' (rx HO557.out) (Kd.R_base ho0) hb); replace HO562 := Aside0.mk (Kd.R_elder' (rx HO562.out) (Kd.R_base ho0) hb); have HO571 := Aside0.mk (Kd.R_lower (Kd.R_new' (Kd.R_new' (Kd.R_new' ho1 (Kd.R_lt (rx HO545.out))) (Kd.R_lt (rx HO549.out))) (Kd.R_lt (rx HO564.out))) (below_size (bh HB.out))); replace HO545 := Aside0.mk (Kd.R_elder' (rx HO545.out) (Kd.R_base ho1) hb); replace HO549 := Aside0.mk (Kd.R_elder' (rx HO549.out) (Kd.R_base ho1) hb); replace HO564 := Aside0.mk (Kd.R_elder' (rx HO564.out) (Kd.R_base ho1) hb); replace HB := bsa HB hb; clear hb ho0 ho1; obtain ⟨Ao95, co95, eo95⟩ := Kd.R_slice HO545.out; subst eo95) | ((with_reducible refine gate_callee (f := 11) rfl ?_); refine gL 67 Tryz.func11 #[.slice Ao95 t542.length co95] ?_; (with_reducible refine (dict_PutInts.calls k _ _ t542 t572 t573 _ ?side1 ?side2 A12.out).mono ?_); (case side1 => exact cx (Kd.R_reads' HO545.out).2.2); (case side2 => exact (Kd.R_reads' HO545.out).2.1); rintro e w96 ⟨rfl, hb⟩; refine ⟨_, rfl, ?_⟩; replace HO545 := rba HO545 hb; replace HO549 := rba HO549 hb; replace HO553 := rba HO553 hb; replace HO557 := rba HO557 hb; replace HO562 := rba HO562 hb; replace HO564 := rba HO564 hb; replace HO569 := rba HO569 hb; replace HO571 := rba HO571 hb; replace HB := bsa HB hb; clear hb; obtain ⟨Ao97, co97, eo97⟩ := Kd.R_slice HO553.out; subst eo97) | ((with_reducible refine gate_callee (f := 12) rfl ?_); refine gL 72 Tryz.func12 #[.slice Ao97 t550.length co97] ?_; (with_reducible refine (dict_PutTexts.calls k _ _ t550 t574 t575 _ ?side1 ?side2 A13.out).mono ?_); (case side1 => exact cx (Kd.R_reads' HO553.out).2.2); (case side2 => exact (Kd.R_reads' HO553.out).2.1); rintro e w98 ⟨rfl, hb⟩; refine ⟨_, rfl, ?_⟩; replace HO545 := rba HO545 hb; replace HO549 := rba HO549 hb; replace HO553 := rba HO553 hb; replace HO557 := rba HO557 hb; replace HO562 := rba HO562 hb; replace HO564 := rba HO564 hb; replace HO569 := rba HO569 hb; replace HO571 := rba HO571 hb; replace HB := bsa HB hb; clear hb; obtain ⟨Ao99, co99, eo99⟩ := Kd.R_slice HO549.out; subst eo99) | ((with_reducible refine gate_callee (f := 13) rfl ?_); refine gL 77 Tryz.func13 #[.slice Ao95 t542.length co95, .slice Ao99 t546.length co99] ?_; (with_reducible refine (peristyleref01_Same.calls k _ _ t542 _ _ t546 true _ ?side1 ?side2 ?side3 ?side4 A14.out).mono ?_); (case side1 => exact cx (Kd.R_reads' HO545.out).2.2); (case side2 => exact (Kd.R_reads' HO545.out).2.1); (case side3 => exact cx (Kd.R_reads' HO549.out).2.2); (case side4 => exact (Kd.R_reads' HO549.out).2.1); rintro e w' ⟨rfl, ⟨nd, rfl⟩⟩; refine ⟨_, rfl, ?_⟩; obtain ⟨Ao100, co100, eo100⟩ := Kd.R_slice HO557.out; subst eo100) | (go_at_call 14; (with_reducible refine (peristyleref07_Same.calls k _ _ t550 _ _ t554 true _ ?side1 ?side2 ?side3 ?side4 A17.out).mono ?_); (case side1 => exact cx (Kd.R_reads' HO553.out).2.2); (case side2 => exact (Kd.R_reads' HO553.out).2.1); (case side3 => exact cx (Kd.R_reads' HO557.out).2.2); (case side4 => exact (Kd.R_reads' HO557.out).2.1); rintro e w' ⟨rfl, ⟨nd, rfl⟩⟩; clear A17; obtain ⟨Ao101, co101, eo101⟩ := Kd.R_slice HO562.out; subst eo101; obtain ⟨Ao102, co102, eo102⟩ := Kd.R_slice HO569.out; subst eo102) | (go_at_call 14; (with_reducible refine (peristyleref07_Same.calls k _ _ t558 _ _ t565 true _ ?side1 ?side2 ?side3 ?side4 A20.out).mono ?_); (case side1 => exact cx (Kd.R_reads' HO562.out).2.2); (case side2 => exact (Kd.R_reads' HO562.out).2.1); (case side3 => exact cx (Kd.R_reads' HO569.out).2.2); (case side4 => exact (Kd.R_reads' HO569.out).2.1); rintro e w' ⟨rfl, ⟨nd, rfl⟩⟩; clear A20; obtain ⟨Ao103, co103, eo103⟩ := Kd.R_slice HO564.out; subst eo103; obtain ⟨Ao104, co104, eo104⟩ := Kd.R_slice HO571.out; subst eo104) | (go_at_call 13; (with_reducible refine (peristyleref01_Same.calls k _ _ t559 _ _ t566 true _ ?side1 ?side2 ?side3 ?side4 A22.out).mono ?_); (case side1 => exact cx (Kd.R_reads' HO564.out).2.2); (case side2 => exact (Kd.R_reads' HO564.out).2.1); (case side3 => exact cx (Kd.R_reads' HO571.out).2.2); (case side4 => exact (Kd.R_reads' HO571.out).2.1); rintro e w' ⟨rfl, ⟨nd, rfl⟩⟩; clear A22) | (go_at_call 4; (with_reducible refine (peristylelaw11_awake.calls k  t583 _ A88.out).mono ?_); rintro e w105 ⟨rfl, hb⟩; replace HO545 := rba HO545 hb; replace HO549 := rba HO549 hb; replace HO553 := rba HO553 hb; replace HO557 := rba HO557 hb; replace HO562 := rba HO562 hb; replace HO564 := rba HO564 hb; replace HO569 := rba HO569 hb; replace HO571 := rba HO571 hb; replace HB := bsa HB hb; clear hb A88))
           go_ret
           exact ⟨er, bh HB.out⟩
        ·obtain rfl := Option.some.inj H
         go_enter Tryz.func3, Tryz.ntmps3
         go_wp2_with (first | ((with_reducible refine gate_callee (f := 5) rfl ?_); refine gL 30 Tryz.func5 #[.string a0, .int .i64 a1] ?_; (with_reducible refine (dict_TakeInts.calls k a0 a1 t542 t543 _ A6.out).mono ?_); rintro e w106 ⟨v544, rfl, ho0, hb⟩; refine ⟨_, rfl, ?_⟩; have HO545 := Aside0.mk (Kd.R_lower ho0 (below_size (bh HB.out))); replace HB := bsa HB hb; clear hb ho0) | ((with_reducible refine gate_callee (f := 6) rfl ?_); refine gL 36 Tryz.func6 #[.string a0, .int .i64 a1] ?_; (with_reducible refine (peristyleref11_TakeInts.calls k a0 a1 t546 t547 _ A7.out).mono ?_); rintro e w107 ⟨v548, rfl, ho0, hb⟩; refine ⟨_, rfl, ?_⟩; have HO549 := Aside0.mk (Kd.R_lower (Kd.R_new' ho0 (Kd.R_lt (rx HO545.out))) (below_size (bh HB.out))); replace HO545 := Aside0.mk (Kd.R_elder' (rx HO545.out) (Kd.R_base ho0) hb); replace HB := bsa HB hb; clear hb ho0) | ((with_reducible refine gate_callee (f := 7) rfl ?_); refine gL 42 Tryz.func7 #[.string a0, .int .i64 a1] ?_; (with_reducible refine (dict_TakeTexts.calls k a0 a1 t550 t551 _ A8.out).mono ?_); rintro e w108 ⟨v552, rfl, ho0, hb⟩; refine ⟨_, rfl, ?_⟩; replace HO545 := rba HO545 hb; replace HO549 := rba HO549 hb; have HO553 := Aside0.mk (Kd.R_lower ho0 (below_size (bh HB.out))); replace HB := bsa HB hb; clear hb ho0) | ((with_reducible refine gate_callee (f := 8) rfl ?_); refine gL 48 Tryz.func8 #[.string a0, .int .i64 a1] ?_; (with_reducible refine (peristyleref11_TakeTexts.calls k a0 a1 t554 t555 _ A9.out).mono ?_); rintro e w109 ⟨v556, rfl, ho0, hb⟩; refine ⟨_, rfl, ?_⟩; replace HO545 := rba HO545 hb; replace HO549 := rba HO549 hb; have HO557 := Aside0.mk (Kd.R_lower (Kd.R_new' ho0 (Kd.R_lt (rx HO553.out))) (below_size (bh HB.out))); replace HO553 := Aside0.mk (Kd.R_elder' (rx HO553.out) (Kd.R_base ho0) hb); replace HB := bsa HB hb; clear hb ho0) | ((with_reducible refine gate_callee (f := 9) rfl ?_); refine gL 54 Tryz.func9 #[.string a0, .int .i64 a1] ?_; (with_reducible refine (dict_Places.calls k a0 a1 t558 t559 t560 _ A10.out).mono ?_); rintro e w110 ⟨v561, v563, rfl, ho0, ho1, hb⟩; refine ⟨_, rfl, ?_⟩; have HO562 := Aside0.mk (Kd.R_lower (Kd.R_new' (Kd.R_new' ho0 (Kd.R_lt (rx HO553.out))) (Kd.R_lt (rx HO557.out))) (below_size (bh HB.out))); replace HO553 := Aside0.mk (Kd.R_elder' (rx HO553.out) (Kd.R_base ho0) hb); replace HO557 := Aside0.mk (Kd.R_elder' (rx HO557.out) (Kd.R_base ho0) hb); have HO564 := Aside0.mk (Kd.R_lower (Kd.R_new' (Kd.R_new' ho1 (Kd.R_lt (rx HO545.out))) (Kd.R_lt (rx HO549.out))) (below_size (bh HB.out))); replace HO545 := Aside0.mk (Kd.R_elder' (rx HO545.out) (Kd.R_base ho1) hb); replace HO549 := Aside0.mk (Kd.R_elder' (rx HO549.out) (Kd.R_base ho1) hb); replace HB := bsa HB hb; clear hb ho0 ho1) | ((with_reducible refine gate_callee (f := 10) rfl ?_); refine gL 61 Tryz.func10 #[.string a0, .int .i64 a1] ?_; (with_reducible refine (peristyleref11_Places.calls k a0 a1 t565 t566 t567 _ A11.out).mono ?_); rintro e w111 ⟨v568, v570, rfl, ho0, ho1, hb⟩; refine ⟨_, rfl, ?_⟩; have HO569 := Aside0.mk (Kd.R_lower (Kd.R_new' (Kd.R_new' (Kd.R_new' ho0 (Kd.R_lt (rx HO553.out))) (Kd.R_lt (rx HO557.out))) (Kd.R_lt (rx HO562.out))) (below_size (bh HB.out))); replace HO553 := Aside0.mk (Kd.R_elder' (rx HO553.out) (Kd.R_base ho0) hb); replace HO557 := Aside0.mk (Kd.R_elder' (rx HO557.out) (Kd.R_base ho0) hb); replace HO562 := Aside0.mk (Kd.R_elder' (rx HO562.out) (Kd.R_base ho0) hb); have HO571 := Aside0.mk (Kd.R_lower (Kd.R_new' (Kd.R_new' (Kd.R_new' ho1 (Kd.R_lt (rx HO545.out))) (Kd.R_lt (rx HO549.out))) (Kd.R_lt (rx HO564.out))) (below_size (bh HB.out))); replace HO545 := Aside0.mk (Kd.R_elder' (rx HO545.out) (Kd.R_base ho1) hb); replace HO549 := Aside0.mk (Kd.R_elder' (rx HO549.out) (Kd.R_base ho1) hb); replace HO564 := Aside0.mk (Kd.R_elder' (rx HO564.out) (Kd.R_base ho1) hb); replace HB := bsa HB hb; clear hb ho0 ho1; obtain ⟨Ao112, co112, eo112⟩ := Kd.R_slice HO545.out; subst eo112) | ((with_reducible refine gate_callee (f := 11) rfl ?_); refine gL 67 Tryz.func11 #[.slice Ao112 t542.length co112] ?_; (with_reducible refine (dict_PutInts.calls k _ _ t542 t572 t573 _ ?side1 ?side2 A12.out).mono ?_); (case side1 => exact cx (Kd.R_reads' HO545.out).2.2); (case side2 => exact (Kd.R_reads' HO545.out).2.1); rintro e w113 ⟨rfl, hb⟩; refine ⟨_, rfl, ?_⟩; replace HO545 := rba HO545 hb; replace HO549 := rba HO549 hb; replace HO553 := rba HO553 hb; replace HO557 := rba HO557 hb; replace HO562 := rba HO562 hb; replace HO564 := rba HO564 hb; replace HO569 := rba HO569 hb; replace HO571 := rba HO571 hb; replace HB := bsa HB hb; clear hb; obtain ⟨Ao114, co114, eo114⟩ := Kd.R_slice HO553.out; subst eo114) | ((with_reducible refine gate_callee (f := 12) rfl ?_); refine gL 72 Tryz.func12 #[.slice Ao114 t550.length co114] ?_; (with_reducible refine (dict_PutTexts.calls k _ _ t550 t574 t575 _ ?side1 ?side2 A13.out).mono ?_); (case side1 => exact cx (Kd.R_reads' HO553.out).2.2); (case side2 => exact (Kd.R_reads' HO553.out).2.1); rintro e w115 ⟨rfl, hb⟩; refine ⟨_, rfl, ?_⟩; replace HO545 := rba HO545 hb; replace HO549 := rba HO549 hb; replace HO553 := rba HO553 hb; replace HO557 := rba HO557 hb; replace HO562 := rba HO562 hb; replace HO564 := rba HO564 hb; replace HO569 := rba HO569 hb; replace HO571 := rba HO571 hb; replace HB := bsa HB hb; clear hb; obtain ⟨Ao116, co116, eo116⟩ := Kd.R_slice HO549.out; subst eo116) | ((with_reducible refine gate_callee (f := 13) rfl ?_); refine gL 77 Tryz.func13 #[.slice Ao112 t542.length co112, .slice Ao116 t546.length co116] ?_; (with_reducible refine (peristyleref01_Same.calls k _ _ t542 _ _ t546 true _ ?side1 ?side2 ?side3 ?side4 A14.out).mono ?_); (case side1 => exact cx (Kd.R_reads' HO545.out).2.2); (case side2 => exact (Kd.R_reads' HO545.out).2.1); (case side3 => exact cx (Kd.R_reads' HO549.out).2.2); (case side4 => exact (Kd.R_reads' HO549.out).2.1); rintro e w' ⟨rfl, ⟨nd, rfl⟩⟩; refine ⟨_, rfl, ?_⟩; obtain ⟨Ao117, co117, eo117⟩ := Kd.R_slice HO557.out; subst eo117) | (go_at_call 14; (with_reducible refine (peristyleref07_Same.calls k _ _ t550 _ _ t554 true _ ?side1 ?side2 ?side3 ?side4 A17.out).mono ?_); (case side1 => exact cx (Kd.R_reads' HO553.out).2.2); (case side2 => exact (Kd.R_reads' HO553.out).2.1); (case side3 => exact cx (Kd.R_reads' HO557.out).2.2); (case side4 => exact (Kd.R_reads' HO557.out).2.1); rintro e w' ⟨rfl, ⟨nd, rfl⟩⟩; clear A17; obtain ⟨Ao118, co118, eo118⟩ := Kd.R_slice HO562.out; subst eo118; obtain ⟨Ao119, co119, eo119⟩ := Kd.R_slice HO569.out; subst eo119) | (go_at_call 14; (with_reducible refine (peristyleref07_Same.calls k _ _ t558 _ _ t565 true _ ?side1 ?side2 ?side3 ?side4 A20.out).mono ?_); (case side1 => exact cx (Kd.R_reads' HO562.out).2.2); (case side2 => exact (Kd.R_reads' HO562.out).2.1); (case side3 => exact cx (Kd.R_reads' HO569.out).2.2); (case side4 => exact (Kd.R_reads' HO569.out).2.1); rintro e w' ⟨rfl, ⟨nd, rfl⟩⟩; clear A20; obtain ⟨Ao120, co120, eo120⟩ := Kd.R_slice HO564.out; subst eo120; obtain ⟨Ao121, co121, eo121⟩ := Kd.R_slice HO571.out; subst eo121) | (go_at_call 13; (with_reducible refine (peristyleref01_Same.calls k _ _ t559 _ _ t566 true _ ?side1 ?side2 ?side3 ?side4 A22.out).mono ?_); (case side1 => exact cx (Kd.R_reads' HO564.out).2.2); (case side2 => exact (Kd.R_reads' HO564.out).2.1); (case side3 => exact cx (Kd.R_reads' HO571.out).2.2); (case side4 => exact (Kd.R_reads' HO571.out).2.1); rintro e w' ⟨rfl, ⟨nd, rfl⟩⟩; clear A22))
         go_ret
         exact ⟨er, bh HB.out⟩
       ·obtain rfl := Option.some.inj H
        go_enter Tryz.func3, Tryz.ntmps3
        go_wp2_with (first | ((with_reducible refine gate_callee (f := 5) rfl ?_); refine gL 30 Tryz.func5 #[.string a0, .int .i64 a1] ?_; (with_reducible refine (dict_TakeInts.calls k a0 a1 t542 t543 _ A6.out).mono ?_); rintro e w122 ⟨v544, rfl, ho0, hb⟩; refine ⟨_, rfl, ?_⟩; have HO545 := Aside0.mk (Kd.R_lower ho0 (below_size (bh HB.out))); replace HB := bsa HB hb; clear hb ho0) | ((with_reducible refine gate_callee (f := 6) rfl ?_); refine gL 36 Tryz.func6 #[.string a0, .int .i64 a1] ?_; (with_reducible refine (peristyleref11_TakeInts.calls k a0 a1 t546 t547 _ A7.out).mono ?_); rintro e w123 ⟨v548, rfl, ho0, hb⟩; refine ⟨_, rfl, ?_⟩; have HO549 := Aside0.mk (Kd.R_lower (Kd.R_new' ho0 (Kd.R_lt (rx HO545.out))) (below_size (bh HB.out))); replace HO545 := Aside0.mk (Kd.R_elder' (rx HO545.out) (Kd.R_base ho0) hb); replace HB := bsa HB hb; clear hb ho0) | ((with_reducible refine gate_callee (f := 7) rfl ?_); refine gL 42 Tryz.func7 #[.string a0, .int .i64 a1] ?_; (with_reducible refine (dict_TakeTexts.calls k a0 a1 t550 t551 _ A8.out).mono ?_); rintro e w124 ⟨v552, rfl, ho0, hb⟩; refine ⟨_, rfl, ?_⟩; replace HO545 := rba HO545 hb; replace HO549 := rba HO549 hb; have HO553 := Aside0.mk (Kd.R_lower ho0 (below_size (bh HB.out))); replace HB := bsa HB hb; clear hb ho0) | ((with_reducible refine gate_callee (f := 8) rfl ?_); refine gL 48 Tryz.func8 #[.string a0, .int .i64 a1] ?_; (with_reducible refine (peristyleref11_TakeTexts.calls k a0 a1 t554 t555 _ A9.out).mono ?_); rintro e w125 ⟨v556, rfl, ho0, hb⟩; refine ⟨_, rfl, ?_⟩; replace HO545 := rba HO545 hb; replace HO549 := rba HO549 hb; have HO557 := Aside0.mk (Kd.R_lower (Kd.R_new' ho0 (Kd.R_lt (rx HO553.out))) (below_size (bh HB.out))); replace HO553 := Aside0.mk (Kd.R_elder' (rx HO553.out) (Kd.R_base ho0) hb); replace HB := bsa HB hb; clear hb ho0) | ((with_reducible refine gate_callee (f := 9) rfl ?_); refine gL 54 Tryz.func9 #[.string a0, .int .i64 a1] ?_; (with_reducible refine (dict_Places.calls k a0 a1 t558 t559 t560 _ A10.out).mono ?_); rintro e w126 ⟨v561, v563, rfl, ho0, ho1, hb⟩; refine ⟨_, rfl, ?_⟩; have HO562 := Aside0.mk (Kd.R_lower (Kd.R_new' (Kd.R_new' ho0 (Kd.R_lt (rx HO553.out))) (Kd.R_lt (rx HO557.out))) (below_size (bh HB.out))); replace HO553 := Aside0.mk (Kd.R_elder' (rx HO553.out) (Kd.R_base ho0) hb); replace HO557 := Aside0.mk (Kd.R_elder' (rx HO557.out) (Kd.R_base ho0) hb); have HO564 := Aside0.mk (Kd.R_lower (Kd.R_new' (Kd.R_new' ho1 (Kd.R_lt (rx HO545.out))) (Kd.R_lt (rx HO549.out))) (below_size (bh HB.out))); replace HO545 := Aside0.mk (Kd.R_elder' (rx HO545.out) (Kd.R_base ho1) hb); replace HO549 := Aside0.mk (Kd.R_elder' (rx HO549.out) (Kd.R_base ho1) hb); replace HB := bsa HB hb; clear hb ho0 ho1) | ((with_reducible refine gate_callee (f := 10) rfl ?_); refine gL 61 Tryz.func10 #[.string a0, .int .i64 a1] ?_; (with_reducible refine (peristyleref11_Places.calls k a0 a1 t565 t566 t567 _ A11.out).mono ?_); rintro e w127 ⟨v568, v570, rfl, ho0, ho1, hb⟩; refine ⟨_, rfl, ?_⟩; have HO569 := Aside0.mk (Kd.R_lower (Kd.R_new' (Kd.R_new' (Kd.R_new' ho0 (Kd.R_lt (rx HO553.out))) (Kd.R_lt (rx HO557.out))) (Kd.R_lt (rx HO562.out))) (below_size (bh HB.out))); replace HO553 := Aside0.mk (Kd.R_elder' (rx HO553.out) (Kd.R_base ho0) hb); replace HO557 := Aside0.mk (Kd.R_elder' (rx HO557.out) (Kd.R_base ho0) hb); replace HO562 := Aside0.mk (Kd.R_elder' (rx HO562.out) (Kd.R_base ho0) hb); have HO571 := Aside0.mk (Kd.R_lower (Kd.R_new' (Kd.R_new' (Kd.R_new' ho1 (Kd.R_lt (rx HO545.out))) (Kd.R_lt (rx HO549.out))) (Kd.R_lt (rx HO564.out))) (below_size (bh HB.out))); replace HO545 := Aside0.mk (Kd.R_elder' (rx HO545.out) (Kd.R_base ho1) hb); replace HO549 := Aside0.mk (Kd.R_elder' (rx HO549.out) (Kd.R_base ho1) hb); replace HO564 := Aside0.mk (Kd.R_elder' (rx HO564.out) (Kd.R_base ho1) hb); replace HB := bsa HB hb; clear hb ho0 ho1; obtain ⟨Ao128, co128, eo128⟩ := Kd.R_slice HO545.out; subst eo128) | ((with_reducible refine gate_callee (f := 11) rfl ?_); refine gL 67 Tryz.func11 #[.slice Ao128 t542.length co128] ?_; (with_reducible refine (dict_PutInts.calls k _ _ t542 t572 t573 _ ?side1 ?side2 A12.out).mono ?_); (case side1 => exact cx (Kd.R_reads' HO545.out).2.2); (case side2 => exact (Kd.R_reads' HO545.out).2.1); rintro e w129 ⟨rfl, hb⟩; refine ⟨_, rfl, ?_⟩; replace HO545 := rba HO545 hb; replace HO549 := rba HO549 hb; replace HO553 := rba HO553 hb; replace HO557 := rba HO557 hb; replace HO562 := rba HO562 hb; replace HO564 := rba HO564 hb; replace HO569 := rba HO569 hb; replace HO571 := rba HO571 hb; replace HB := bsa HB hb; clear hb; obtain ⟨Ao130, co130, eo130⟩ := Kd.R_slice HO553.out; subst eo130) | ((with_reducible refine gate_callee (f := 12) rfl ?_); refine gL 72 Tryz.func12 #[.slice Ao130 t550.length co130] ?_; (with_reducible refine (dict_PutTexts.calls k _ _ t550 t574 t575 _ ?side1 ?side2 A13.out).mono ?_); (case side1 => exact cx (Kd.R_reads' HO553.out).2.2); (case side2 => exact (Kd.R_reads' HO553.out).2.1); rintro e w131 ⟨rfl, hb⟩; refine ⟨_, rfl, ?_⟩; replace HO545 := rba HO545 hb; replace HO549 := rba HO549 hb; replace HO553 := rba HO553 hb; replace HO557 := rba HO557 hb; replace HO562 := rba HO562 hb; replace HO564 := rba HO564 hb; replace HO569 := rba HO569 hb; replace HO571 := rba HO571 hb; replace HB := bsa HB hb; clear hb; obtain ⟨Ao132, co132, eo132⟩ := Kd.R_slice HO549.out; subst eo132) | ((with_reducible refine gate_callee (f := 13) rfl ?_); refine gL 77 Tryz.func13 #[.slice Ao128 t542.length co128, .slice Ao132 t546.length co132] ?_; (with_reducible refine (peristyleref01_Same.calls k _ _ t542 _ _ t546 true _ ?side1 ?side2 ?side3 ?side4 A14.out).mono ?_); (case side1 => exact cx (Kd.R_reads' HO545.out).2.2); (case side2 => exact (Kd.R_reads' HO545.out).2.1); (case side3 => exact cx (Kd.R_reads' HO549.out).2.2); (case side4 => exact (Kd.R_reads' HO549.out).2.1); rintro e w' ⟨rfl, ⟨nd, rfl⟩⟩; refine ⟨_, rfl, ?_⟩; obtain ⟨Ao133, co133, eo133⟩ := Kd.R_slice HO557.out; subst eo133) | (go_at_call 14; (with_reducible refine (peristyleref07_Same.calls k _ _ t550 _ _ t554 true _ ?side1 ?side2 ?side3 ?side4 A17.out).mono ?_); (case side1 => exact cx (Kd.R_reads' HO553.out).2.2); (case side2 => exact (Kd.R_reads' HO553.out).2.1); (case side3 => exact cx (Kd.R_reads' HO557.out).2.2); (case side4 => exact (Kd.R_reads' HO557.out).2.1); rintro e w' ⟨rfl, ⟨nd, rfl⟩⟩; clear A17; obtain ⟨Ao134, co134, eo134⟩ := Kd.R_slice HO562.out; subst eo134; obtain ⟨Ao135, co135, eo135⟩ := Kd.R_slice HO569.out; subst eo135) | (go_at_call 14; (with_reducible refine (peristyleref07_Same.calls k _ _ t558 _ _ t565 true _ ?side1 ?side2 ?side3 ?side4 A20.out).mono ?_); (case side1 => exact cx (Kd.R_reads' HO562.out).2.2); (case side2 => exact (Kd.R_reads' HO562.out).2.1); (case side3 => exact cx (Kd.R_reads' HO569.out).2.2); (case side4 => exact (Kd.R_reads' HO569.out).2.1); rintro e w' ⟨rfl, ⟨nd, rfl⟩⟩; clear A20; obtain ⟨Ao136, co136, eo136⟩ := Kd.R_slice HO564.out; subst eo136; obtain ⟨Ao137, co137, eo137⟩ := Kd.R_slice HO571.out; subst eo137) | (go_at_call 13; (with_reducible refine (peristyleref01_Same.calls k _ _ t559 _ _ t566 false _ ?side1 ?side2 ?side3 ?side4 A22.out).mono ?_); (case side1 => exact cx (Kd.R_reads' HO564.out).2.2); (case side2 => exact (Kd.R_reads' HO564.out).2.1); (case side3 => exact cx (Kd.R_reads' HO571.out).2.2); (case side4 => exact (Kd.R_reads' HO571.out).2.1); rintro e w' ⟨rfl, ⟨nd, rfl⟩⟩; clear A22))
        go_ret
        exact ⟨er, bh HB.out⟩
      ·obtain rfl := Option.some.inj H
       go_enter Tryz.func3, Tryz.ntmps3
       go_wp2_with (first | ((with_reducible refine gate_callee (f := 5) rfl ?_); refine gL 30 Tryz.func5 #[.string a0, .int .i64 a1] ?_; (with_reducible refine (dict_TakeInts.calls k a0 a1 t542 t543 _ A6.out).mono ?_); rintro e w138 ⟨v544, rfl, ho0, hb⟩; refine ⟨_, rfl, ?_⟩; have HO545 := Aside0.mk (Kd.R_lower ho0 (below_size (bh HB.out))); replace HB := bsa HB hb; clear hb ho0) | ((with_reducible refine gate_callee (f := 6) rfl ?_); refine gL 36 Tryz.func6 #[.string a0, .int .i64 a1] ?_; (with_reducible refine (peristyleref11_TakeInts.calls k a0 a1 t546 t547 _ A7.out).mono ?_); rintro e w139 ⟨v548, rfl, ho0, hb⟩; refine ⟨_, rfl, ?_⟩; have HO549 := Aside0.mk (Kd.R_lower (Kd.R_new' ho0 (Kd.R_lt (rx HO545.out))) (below_size (bh HB.out))); replace HO545 := Aside0.mk (Kd.R_elder' (rx HO545.out) (Kd.R_base ho0) hb); replace HB := bsa HB hb; clear hb ho0) | ((with_reducible refine gate_callee (f := 7) rfl ?_); refine gL 42 Tryz.func7 #[.string a0, .int .i64 a1] ?_; (with_reducible refine (dict_TakeTexts.calls k a0 a1 t550 t551 _ A8.out).mono ?_); rintro e w140 ⟨v552, rfl, ho0, hb⟩; refine ⟨_, rfl, ?_⟩; replace HO545 := rba HO545 hb; replace HO549 := rba HO549 hb; have HO553 := Aside0.mk (Kd.R_lower ho0 (below_size (bh HB.out))); replace HB := bsa HB hb; clear hb ho0) | ((with_reducible refine gate_callee (f := 8) rfl ?_); refine gL 48 Tryz.func8 #[.string a0, .int .i64 a1] ?_; (with_reducible refine (peristyleref11_TakeTexts.calls k a0 a1 t554 t555 _ A9.out).mono ?_); rintro e w141 ⟨v556, rfl, ho0, hb⟩; refine ⟨_, rfl, ?_⟩; replace HO545 := rba HO545 hb; replace HO549 := rba HO549 hb; have HO557 := Aside0.mk (Kd.R_lower (Kd.R_new' ho0 (Kd.R_lt (rx HO553.out))) (below_size (bh HB.out))); replace HO553 := Aside0.mk (Kd.R_elder' (rx HO553.out) (Kd.R_base ho0) hb); replace HB := bsa HB hb; clear hb ho0) | ((with_reducible refine gate_callee (f := 9) rfl ?_); refine gL 54 Tryz.func9 #[.string a0, .int .i64 a1] ?_; (with_reducible refine (dict_Places.calls k a0 a1 t558 t559 t560 _ A10.out).mono ?_); rintro e w142 ⟨v561, v563, rfl, ho0, ho1, hb⟩; refine ⟨_, rfl, ?_⟩; have HO562 := Aside0.mk (Kd.R_lower (Kd.R_new' (Kd.R_new' ho0 (Kd.R_lt (rx HO553.out))) (Kd.R_lt (rx HO557.out))) (below_size (bh HB.out))); replace HO553 := Aside0.mk (Kd.R_elder' (rx HO553.out) (Kd.R_base ho0) hb); replace HO557 := Aside0.mk (Kd.R_elder' (rx HO557.out) (Kd.R_base ho0) hb); have HO564 := Aside0.mk (Kd.R_lower (Kd.R_new' (Kd.R_new' ho1 (Kd.R_lt (rx HO545.out))) (Kd.R_lt (rx HO549.out))) (below_size (bh HB.out))); replace HO545 := Aside0.mk (Kd.R_elder' (rx HO545.out) (Kd.R_base ho1) hb); replace HO549 := Aside0.mk (Kd.R_elder' (rx HO549.out) (Kd.R_base ho1) hb); replace HB := bsa HB hb; clear hb ho0 ho1) | ((with_reducible refine gate_callee (f := 10) rfl ?_); refine gL 61 Tryz.func10 #[.string a0, .int .i64 a1] ?_; (with_reducible refine (peristyleref11_Places.calls k a0 a1 t565 t566 t567 _ A11.out).mono ?_); rintro e w143 ⟨v568, v570, rfl, ho0, ho1, hb⟩; refine ⟨_, rfl, ?_⟩; have HO569 := Aside0.mk (Kd.R_lower (Kd.R_new' (Kd.R_new' (Kd.R_new' ho0 (Kd.R_lt (rx HO553.out))) (Kd.R_lt (rx HO557.out))) (Kd.R_lt (rx HO562.out))) (below_size (bh HB.out))); replace HO553 := Aside0.mk (Kd.R_elder' (rx HO553.out) (Kd.R_base ho0) hb); replace HO557 := Aside0.mk (Kd.R_elder' (rx HO557.out) (Kd.R_base ho0) hb); replace HO562 := Aside0.mk (Kd.R_elder' (rx HO562.out) (Kd.R_base ho0) hb); have HO571 := Aside0.mk (Kd.R_lower (Kd.R_new' (Kd.R_new' (Kd.R_new' ho1 (Kd.R_lt (rx HO545.out))) (Kd.R_lt (rx HO549.out))) (Kd.R_lt (rx HO564.out))) (below_size (bh HB.out))); replace HO545 := Aside0.mk (Kd.R_elder' (rx HO545.out) (Kd.R_base ho1) hb); replace HO549 := Aside0.mk (Kd.R_elder' (rx HO549.out) (Kd.R_base ho1) hb); replace HO564 := Aside0.mk (Kd.R_elder' (rx HO564.out) (Kd.R_base ho1) hb); replace HB := bsa HB hb; clear hb ho0 ho1; obtain ⟨Ao144, co144, eo144⟩ := Kd.R_slice HO545.out; subst eo144) | ((with_reducible refine gate_callee (f := 11) rfl ?_); refine gL 67 Tryz.func11 #[.slice Ao144 t542.length co144] ?_; (with_reducible refine (dict_PutInts.calls k _ _ t542 t572 t573 _ ?side1 ?side2 A12.out).mono ?_); (case side1 => exact cx (Kd.R_reads' HO545.out).2.2); (case side2 => exact (Kd.R_reads' HO545.out).2.1); rintro e w145 ⟨rfl, hb⟩; refine ⟨_, rfl, ?_⟩; replace HO545 := rba HO545 hb; replace HO549 := rba HO549 hb; replace HO553 := rba HO553 hb; replace HO557 := rba HO557 hb; replace HO562 := rba HO562 hb; replace HO564 := rba HO564 hb; replace HO569 := rba HO569 hb; replace HO571 := rba HO571 hb; replace HB := bsa HB hb; clear hb; obtain ⟨Ao146, co146, eo146⟩ := Kd.R_slice HO553.out; subst eo146) | ((with_reducible refine gate_callee (f := 12) rfl ?_); refine gL 72 Tryz.func12 #[.slice Ao146 t550.length co146] ?_; (with_reducible refine (dict_PutTexts.calls k _ _ t550 t574 t575 _ ?side1 ?side2 A13.out).mono ?_); (case side1 => exact cx (Kd.R_reads' HO553.out).2.2); (case side2 => exact (Kd.R_reads' HO553.out).2.1); rintro e w147 ⟨rfl, hb⟩; refine ⟨_, rfl, ?_⟩; replace HO545 := rba HO545 hb; replace HO549 := rba HO549 hb; replace HO553 := rba HO553 hb; replace HO557 := rba HO557 hb; replace HO562 := rba HO562 hb; replace HO564 := rba HO564 hb; replace HO569 := rba HO569 hb; replace HO571 := rba HO571 hb; replace HB := bsa HB hb; clear hb; obtain ⟨Ao148, co148, eo148⟩ := Kd.R_slice HO549.out; subst eo148) | ((with_reducible refine gate_callee (f := 13) rfl ?_); refine gL 77 Tryz.func13 #[.slice Ao144 t542.length co144, .slice Ao148 t546.length co148] ?_; (with_reducible refine (peristyleref01_Same.calls k _ _ t542 _ _ t546 true _ ?side1 ?side2 ?side3 ?side4 A14.out).mono ?_); (case side1 => exact cx (Kd.R_reads' HO545.out).2.2); (case side2 => exact (Kd.R_reads' HO545.out).2.1); (case side3 => exact cx (Kd.R_reads' HO549.out).2.2); (case side4 => exact (Kd.R_reads' HO549.out).2.1); rintro e w' ⟨rfl, ⟨nd, rfl⟩⟩; refine ⟨_, rfl, ?_⟩; obtain ⟨Ao149, co149, eo149⟩ := Kd.R_slice HO557.out; subst eo149) | (go_at_call 14; (with_reducible refine (peristyleref07_Same.calls k _ _ t550 _ _ t554 true _ ?side1 ?side2 ?side3 ?side4 A17.out).mono ?_); (case side1 => exact cx (Kd.R_reads' HO553.out).2.2); (case side2 => exact (Kd.R_reads' HO553.out).2.1); (case side3 => exact cx (Kd.R_reads' HO557.out).2.2); (case side4 => exact (Kd.R_reads' HO557.out).2.1); rintro e w' ⟨rfl, ⟨nd, rfl⟩⟩; clear A17; obtain ⟨Ao150, co150, eo150⟩ := Kd.R_slice HO562.out; subst eo150; obtain ⟨Ao151, co151, eo151⟩ := Kd.R_slice HO569.out; subst eo151) | (go_at_call 14; (with_reducible refine (peristyleref07_Same.calls k _ _ t558 _ _ t565 false _ ?side1 ?side2 ?side3 ?side4 A20.out).mono ?_); (case side1 => exact cx (Kd.R_reads' HO562.out).2.2); (case side2 => exact (Kd.R_reads' HO562.out).2.1); (case side3 => exact cx (Kd.R_reads' HO569.out).2.2); (case side4 => exact (Kd.R_reads' HO569.out).2.1); rintro e w' ⟨rfl, ⟨nd, rfl⟩⟩; clear A20))
       go_ret
       exact ⟨er, bh HB.out⟩
     ·obtain rfl := Option.some.inj H
      go_enter Tryz.func3, Tryz.ntmps3
      go_wp2_with (first | ((with_reducible refine gate_callee (f := 5) rfl ?_); refine gL 30 Tryz.func5 #[.string a0, .int .i64 a1] ?_; (with_reducible refine (dict_TakeInts.calls k a0 a1 t542 t543 _ A6.out).mono ?_); rintro e w152 ⟨v544, rfl, ho0, hb⟩; refine ⟨_, rfl, ?_⟩; have HO545 := Aside0.mk (Kd.R_lower ho0 (below_size (bh HB.out))); replace HB := bsa HB hb; clear hb ho0) | ((with_reducible refine gate_callee (f := 6) rfl ?_); refine gL 36 Tryz.func6 #[.string a0, .int .i64 a1] ?_; (with_reducible refine (peristyleref11_TakeInts.calls k a0 a1 t546 t547 _ A7.out).mono ?_); rintro e w153 ⟨v548, rfl, ho0, hb⟩; refine ⟨_, rfl, ?_⟩; have HO549 := Aside0.mk (Kd.R_lower (Kd.R_new' ho0 (Kd.R_lt (rx HO545.out))) (below_size (bh HB.out))); replace HO545 := Aside0.mk (Kd.R_elder' (rx HO545.out) (Kd.R_base ho0) hb); replace HB := bsa HB hb; clear hb ho0) | ((with_reducible refine gate_callee (f := 7) rfl ?_); refine gL 42 Tryz.func7 #[.string a0, .int .i64 a1] ?_; (with_reducible refine (dict_TakeTexts.calls k a0 a1 t550 t551 _ A8.out).mono ?_); rintro e w154 ⟨v552, rfl, ho0, hb⟩; refine ⟨_, rfl, ?_⟩; replace HO545 := rba HO545 hb; replace HO549 := rba HO549 hb; have HO553 := Aside0.mk (Kd.R_lower ho0 (below_size (bh HB.out))); replace HB := bsa HB hb; clear hb ho0) | ((with_reducible refine gate_callee (f := 8) rfl ?_); refine gL 48 Tryz.func8 #[.string a0, .int .i64 a1] ?_; (with_reducible refine (peristyleref11_TakeTexts.calls k a0 a1 t554 t555 _ A9.out).mono ?_); rintro e w155 ⟨v556, rfl, ho0, hb⟩; refine ⟨_, rfl, ?_⟩; replace HO545 := rba HO545 hb; replace HO549 := rba HO549 hb; have HO557 := Aside0.mk (Kd.R_lower (Kd.R_new' ho0 (Kd.R_lt (rx HO553.out))) (below_size (bh HB.out))); replace HO553 := Aside0.mk (Kd.R_elder' (rx HO553.out) (Kd.R_base ho0) hb); replace HB := bsa HB hb; clear hb ho0) | ((with_reducible refine gate_callee (f := 9) rfl ?_); refine gL 54 Tryz.func9 #[.string a0, .int .i64 a1] ?_; (with_reducible refine (dict_Places.calls k a0 a1 t558 t559 t560 _ A10.out).mono ?_); rintro e w156 ⟨v561, v563, rfl, ho0, ho1, hb⟩; refine ⟨_, rfl, ?_⟩; have HO562 := Aside0.mk (Kd.R_lower (Kd.R_new' (Kd.R_new' ho0 (Kd.R_lt (rx HO553.out))) (Kd.R_lt (rx HO557.out))) (below_size (bh HB.out))); replace HO553 := Aside0.mk (Kd.R_elder' (rx HO553.out) (Kd.R_base ho0) hb); replace HO557 := Aside0.mk (Kd.R_elder' (rx HO557.out) (Kd.R_base ho0) hb); have HO564 := Aside0.mk (Kd.R_lower (Kd.R_new' (Kd.R_new' ho1 (Kd.R_lt (rx HO545.out))) (Kd.R_lt (rx HO549.out))) (below_size (bh HB.out))); replace HO545 := Aside0.mk (Kd.R_elder' (rx HO545.out) (Kd.R_base ho1) hb); replace HO549 := Aside0.mk (Kd.R_elder' (rx HO549.out) (Kd.R_base ho1) hb); replace HB := bsa HB hb; clear hb ho0 ho1) | ((with_reducible refine gate_callee (f := 10) rfl ?_); refine gL 61 Tryz.func10 #[.string a0, .int .i64 a1] ?_; (with_reducible refine (peristyleref11_Places.calls k a0 a1 t565 t566 t567 _ A11.out).mono ?_); rintro e w157 ⟨v568, v570, rfl, ho0, ho1, hb⟩; refine ⟨_, rfl, ?_⟩; have HO569 := Aside0.mk (Kd.R_lower (Kd.R_new' (Kd.R_new' (Kd.R_new' ho0 (Kd.R_lt (rx HO553.out))) (Kd.R_lt (rx HO557.out))) (Kd.R_lt (rx HO562.out))) (below_size (bh HB.out))); replace HO553 := Aside0.mk (Kd.R_elder' (rx HO553.out) (Kd.R_base ho0) hb); replace HO557 := Aside0.mk (Kd.R_elder' (rx HO557.out) (Kd.R_base ho0) hb); replace HO562 := Aside0.mk (Kd.R_elder' (rx HO562.out) (Kd.R_base ho0) hb); have HO571 := Aside0.mk (Kd.R_lower (Kd.R_new' (Kd.R_new' (Kd.R_new' ho1 (Kd.R_lt (rx HO545.out))) (Kd.R_lt (rx HO549.out))) (Kd.R_lt (rx HO564.out))) (below_size (bh HB.out))); replace HO545 := Aside0.mk (Kd.R_elder' (rx HO545.out) (Kd.R_base ho1) hb); replace HO549 := Aside0.mk (Kd.R_elder' (rx HO549.out) (Kd.R_base ho1) hb); replace HO564 := Aside0.mk (Kd.R_elder' (rx HO564.out) (Kd.R_base ho1) hb); replace HB := bsa HB hb; clear hb ho0 ho1; obtain ⟨Ao158, co158, eo158⟩ := Kd.R_slice HO545.out; subst eo158) | ((with_reducible refine gate_callee (f := 11) rfl ?_); refine gL 67 Tryz.func11 #[.slice Ao158 t542.length co158] ?_; (with_reducible refine (dict_PutInts.calls k _ _ t542 t572 t573 _ ?side1 ?side2 A12.out).mono ?_); (case side1 => exact cx (Kd.R_reads' HO545.out).2.2); (case side2 => exact (Kd.R_reads' HO545.out).2.1); rintro e w159 ⟨rfl, hb⟩; refine ⟨_, rfl, ?_⟩; replace HO545 := rba HO545 hb; replace HO549 := rba HO549 hb; replace HO553 := rba HO553 hb; replace HO557 := rba HO557 hb; replace HO562 := rba HO562 hb; replace HO564 := rba HO564 hb; replace HO569 := rba HO569 hb; replace HO571 := rba HO571 hb; replace HB := bsa HB hb; clear hb; obtain ⟨Ao160, co160, eo160⟩ := Kd.R_slice HO553.out; subst eo160) | ((with_reducible refine gate_callee (f := 12) rfl ?_); refine gL 72 Tryz.func12 #[.slice Ao160 t550.length co160] ?_; (with_reducible refine (dict_PutTexts.calls k _ _ t550 t574 t575 _ ?side1 ?side2 A13.out).mono ?_); (case side1 => exact cx (Kd.R_reads' HO553.out).2.2); (case side2 => exact (Kd.R_reads' HO553.out).2.1); rintro e w161 ⟨rfl, hb⟩; refine ⟨_, rfl, ?_⟩; replace HO545 := rba HO545 hb; replace HO549 := rba HO549 hb; replace HO553 := rba HO553 hb; replace HO557 := rba HO557 hb; replace HO562 := rba HO562 hb; replace HO564 := rba HO564 hb; replace HO569 := rba HO569 hb; replace HO571 := rba HO571 hb; replace HB := bsa HB hb; clear hb; obtain ⟨Ao162, co162, eo162⟩ := Kd.R_slice HO549.out; subst eo162) | ((with_reducible refine gate_callee (f := 13) rfl ?_); refine gL 77 Tryz.func13 #[.slice Ao158 t542.length co158, .slice Ao162 t546.length co162] ?_; (with_reducible refine (peristyleref01_Same.calls k _ _ t542 _ _ t546 true _ ?side1 ?side2 ?side3 ?side4 A14.out).mono ?_); (case side1 => exact cx (Kd.R_reads' HO545.out).2.2); (case side2 => exact (Kd.R_reads' HO545.out).2.1); (case side3 => exact cx (Kd.R_reads' HO549.out).2.2); (case side4 => exact (Kd.R_reads' HO549.out).2.1); rintro e w' ⟨rfl, ⟨nd, rfl⟩⟩; refine ⟨_, rfl, ?_⟩; obtain ⟨Ao163, co163, eo163⟩ := Kd.R_slice HO557.out; subst eo163) | (go_at_call 14; (with_reducible refine (peristyleref07_Same.calls k _ _ t550 _ _ t554 true _ ?side1 ?side2 ?side3 ?side4 A17.out).mono ?_); (case side1 => exact cx (Kd.R_reads' HO553.out).2.2); (case side2 => exact (Kd.R_reads' HO553.out).2.1); (case side3 => exact cx (Kd.R_reads' HO557.out).2.2); (case side4 => exact (Kd.R_reads' HO557.out).2.1); rintro e w' ⟨rfl, ⟨nd, rfl⟩⟩; clear A17))
      go_ret
      exact ⟨er, bh HB.out⟩
    ·obtain rfl := Option.some.inj H
     go_enter Tryz.func3, Tryz.ntmps3
     go_wp2_with (first | ((with_reducible refine gate_callee (f := 5) rfl ?_); refine gL 30 Tryz.func5 #[.string a0, .int .i64 a1] ?_; (with_reducible refine (dict_TakeInts.calls k a0 a1 t542 t543 _ A6.out).mono ?_); rintro e w164 ⟨v544, rfl, ho0, hb⟩; refine ⟨_, rfl, ?_⟩; have HO545 := Aside0.mk (Kd.R_lower ho0 (below_size (bh HB.out))); replace HB := bsa HB hb; clear hb ho0) | ((with_reducible refine gate_callee (f := 6) rfl ?_); refine gL 36 Tryz.func6 #[.string a0, .int .i64 a1] ?_; (with_reducible refine (peristyleref11_TakeInts.calls k a0 a1 t546 t547 _ A7.out).mono ?_); rintro e w165 ⟨v548, rfl, ho0, hb⟩; refine ⟨_, rfl, ?_⟩; have HO549 := Aside0.mk (Kd.R_lower (Kd.R_new' ho0 (Kd.R_lt (rx HO545.out))) (below_size (bh HB.out))); replace HO545 := Aside0.mk (Kd.R_elder' (rx HO545.out) (Kd.R_base ho0) hb); replace HB := bsa HB hb; clear hb ho0) | ((with_reducible refine gate_callee (f := 7) rfl ?_); refine gL 42 Tryz.func7 #[.string a0, .int .i64 a1] ?_; (with_reducible refine (dict_TakeTexts.calls k a0 a1 t550 t551 _ A8.out).mono ?_); rintro e w166 ⟨v552, rfl, ho0, hb⟩; refine ⟨_, rfl, ?_⟩; replace HO545 := rba HO545 hb; replace HO549 := rba HO549 hb; have HO553 := Aside0.mk (Kd.R_lower ho0 (below_size (bh HB.out))); replace HB := bsa HB hb; clear hb ho0) | ((with_reducible refine gate_callee (f := 8) rfl ?_); refine gL 48 Tryz.func8 #[.string a0, .int .i64 a1] ?_; (with_reducible refine (peristyleref11_TakeTexts.calls k a0 a1 t554 t555 _ A9.out).mono ?_); rintro e w167 ⟨v556, rfl, ho0, hb⟩; refine ⟨_, rfl, ?_⟩; replace HO545 := rba HO545 hb; replace HO549 := rba HO549 hb; have HO557 := Aside0.mk (Kd.R_lower (Kd.R_new' ho0 (Kd.R_lt (rx HO553.out))) (below_size (bh HB.out))); replace HO553 := Aside0.mk (Kd.R_elder' (rx HO553.out) (Kd.R_base ho0) hb); replace HB := bsa HB hb; clear hb ho0) | ((with_reducible refine gate_callee (f := 9) rfl ?_); refine gL 54 Tryz.func9 #[.string a0, .int .i64 a1] ?_; (with_reducible refine (dict_Places.calls k a0 a1 t558 t559 t560 _ A10.out).mono ?_); rintro e w168 ⟨v561, v563, rfl, ho0, ho1, hb⟩; refine ⟨_, rfl, ?_⟩; have HO562 := Aside0.mk (Kd.R_lower (Kd.R_new' (Kd.R_new' ho0 (Kd.R_lt (rx HO553.out))) (Kd.R_lt (rx HO557.out))) (below_size (bh HB.out))); replace HO553 := Aside0.mk (Kd.R_elder' (rx HO553.out) (Kd.R_base ho0) hb); replace HO557 := Aside0.mk (Kd.R_elder' (rx HO557.out) (Kd.R_base ho0) hb); have HO564 := Aside0.mk (Kd.R_lower (Kd.R_new' (Kd.R_new' ho1 (Kd.R_lt (rx HO545.out))) (Kd.R_lt (rx HO549.out))) (below_size (bh HB.out))); replace HO545 := Aside0.mk (Kd.R_elder' (rx HO545.out) (Kd.R_base ho1) hb); replace HO549 := Aside0.mk (Kd.R_elder' (rx HO549.out) (Kd.R_base ho1) hb); replace HB := bsa HB hb; clear hb ho0 ho1) | ((with_reducible refine gate_callee (f := 10) rfl ?_); refine gL 61 Tryz.func10 #[.string a0, .int .i64 a1] ?_; (with_reducible refine (peristyleref11_Places.calls k a0 a1 t565 t566 t567 _ A11.out).mono ?_); rintro e w169 ⟨v568, v570, rfl, ho0, ho1, hb⟩; refine ⟨_, rfl, ?_⟩; have HO569 := Aside0.mk (Kd.R_lower (Kd.R_new' (Kd.R_new' (Kd.R_new' ho0 (Kd.R_lt (rx HO553.out))) (Kd.R_lt (rx HO557.out))) (Kd.R_lt (rx HO562.out))) (below_size (bh HB.out))); replace HO553 := Aside0.mk (Kd.R_elder' (rx HO553.out) (Kd.R_base ho0) hb); replace HO557 := Aside0.mk (Kd.R_elder' (rx HO557.out) (Kd.R_base ho0) hb); replace HO562 := Aside0.mk (Kd.R_elder' (rx HO562.out) (Kd.R_base ho0) hb); have HO571 := Aside0.mk (Kd.R_lower (Kd.R_new' (Kd.R_new' (Kd.R_new' ho1 (Kd.R_lt (rx HO545.out))) (Kd.R_lt (rx HO549.out))) (Kd.R_lt (rx HO564.out))) (below_size (bh HB.out))); replace HO545 := Aside0.mk (Kd.R_elder' (rx HO545.out) (Kd.R_base ho1) hb); replace HO549 := Aside0.mk (Kd.R_elder' (rx HO549.out) (Kd.R_base ho1) hb); replace HO564 := Aside0.mk (Kd.R_elder' (rx HO564.out) (Kd.R_base ho1) hb); replace HB := bsa HB hb; clear hb ho0 ho1; obtain ⟨Ao170, co170, eo170⟩ := Kd.R_slice HO545.out; subst eo170) | ((with_reducible refine gate_callee (f := 11) rfl ?_); refine gL 67 Tryz.func11 #[.slice Ao170 t542.length co170] ?_; (with_reducible refine (dict_PutInts.calls k _ _ t542 t572 t573 _ ?side1 ?side2 A12.out).mono ?_); (case side1 => exact cx (Kd.R_reads' HO545.out).2.2); (case side2 => exact (Kd.R_reads' HO545.out).2.1); rintro e w171 ⟨rfl, hb⟩; refine ⟨_, rfl, ?_⟩; replace HO545 := rba HO545 hb; replace HO549 := rba HO549 hb; replace HO553 := rba HO553 hb; replace HO557 := rba HO557 hb; replace HO562 := rba HO562 hb; replace HO564 := rba HO564 hb; replace HO569 := rba HO569 hb; replace HO571 := rba HO571 hb; replace HB := bsa HB hb; clear hb; obtain ⟨Ao172, co172, eo172⟩ := Kd.R_slice HO553.out; subst eo172) | ((with_reducible refine gate_callee (f := 12) rfl ?_); refine gL 72 Tryz.func12 #[.slice Ao172 t550.length co172] ?_; (with_reducible refine (dict_PutTexts.calls k _ _ t550 t574 t575 _ ?side1 ?side2 A13.out).mono ?_); (case side1 => exact cx (Kd.R_reads' HO553.out).2.2); (case side2 => exact (Kd.R_reads' HO553.out).2.1); rintro e w173 ⟨rfl, hb⟩; refine ⟨_, rfl, ?_⟩; replace HO545 := rba HO545 hb; replace HO549 := rba HO549 hb; replace HO553 := rba HO553 hb; replace HO557 := rba HO557 hb; replace HO562 := rba HO562 hb; replace HO564 := rba HO564 hb; replace HO569 := rba HO569 hb; replace HO571 := rba HO571 hb; replace HB := bsa HB hb; clear hb; obtain ⟨Ao174, co174, eo174⟩ := Kd.R_slice HO549.out; subst eo174) | ((with_reducible refine gate_callee (f := 13) rfl ?_); refine gL 77 Tryz.func13 #[.slice Ao170 t542.length co170, .slice Ao174 t546.length co174] ?_; (with_reducible refine (peristyleref01_Same.calls k _ _ t542 _ _ t546 true _ ?side1 ?side2 ?side3 ?side4 A14.out).mono ?_); (case side1 => exact cx (Kd.R_reads' HO545.out).2.2); (case side2 => exact (Kd.R_reads' HO545.out).2.1); (case side3 => exact cx (Kd.R_reads' HO549.out).2.2); (case side4 => exact (Kd.R_reads' HO549.out).2.1); rintro e w' ⟨rfl, ⟨nd, rfl⟩⟩; refine ⟨_, rfl, ?_⟩; obtain ⟨Ao175, co175, eo175⟩ := Kd.R_slice HO557.out; subst eo175) | (go_at_call 14; (with_reducible refine (peristyleref07_Same.calls k _ _ t550 _ _ t554 false _ ?side1 ?side2 ?side3 ?side4 A17.out).mono ?_); (case side1 => exact cx (Kd.R_reads' HO553.out).2.2); (case side2 => exact (Kd.R_reads' HO553.out).2.1); (case side3 => exact cx (Kd.R_reads' HO557.out).2.2); (case side4 => exact (Kd.R_reads' HO557.out).2.1); rintro e w' ⟨rfl, ⟨nd, rfl⟩⟩; clear A17))
     go_ret
     exact ⟨er, bh HB.out⟩
   ·obtain rfl := Option.some.inj H
    go_enter Tryz.func3, Tryz.ntmps3
    go_wp2_with (first | ((with_reducible refine gate_callee (f := 5) rfl ?_); refine gL 30 Tryz.func5 #[.string a0, .int .i64 a1] ?_; (with_reducible refine (dict_TakeInts.calls k a0 a1 t542 t543 _ A6.out).mono ?_); rintro e w176 ⟨v544, rfl, ho0, hb⟩; refine ⟨_, rfl, ?_⟩; have HO545 := Aside0.mk (Kd.R_lower ho0 (below_size (bh HB.out))); replace HB := bsa HB hb; clear hb ho0) | ((with_reducible refine gate_callee (f := 6) rfl ?_); refine gL 36 Tryz.func6 #[.string a0, .int .i64 a1] ?_; (with_reducible refine (peristyleref11_TakeInts.calls k a0 a1 t546 t547 _ A7.out).mono ?_); rintro e w177 ⟨v548, rfl, ho0, hb⟩; refine ⟨_, rfl, ?_⟩; have HO549 := Aside0.mk (Kd.R_lower (Kd.R_new' ho0 (Kd.R_lt (rx HO545.out))) (below_size (bh HB.out))); replace HO545 := Aside0.mk (Kd.R_elder' (rx HO545.out) (Kd.R_base ho0) hb); replace HB := bsa HB hb; clear hb ho0) | ((with_reducible refine gate_callee (f := 7) rfl ?_); refine gL 42 Tryz.func7 #[.string a0, .int .i64 a1] ?_; (with_reducible refine (dict_TakeTexts.calls k a0 a1 t550 t551 _ A8.out).mono ?_); rintro e w178 ⟨v552, rfl, ho0, hb⟩; refine ⟨_, rfl, ?_⟩; replace HO545 := rba HO545 hb; replace HO549 := rba HO549 hb; have HO553 := Aside0.mk (Kd.R_lower ho0 (below_size (bh HB.out))); replace HB := bsa HB hb; clear hb ho0) | ((with_reducible refine gate_callee (f := 8) rfl ?_); refine gL 48 Tryz.func8 #[.string a0, .int .i64 a1] ?_; (with_reducible refine (peristyleref11_TakeTexts.calls k a0 a1 t554 t555 _ A9.out).mono ?_); rintro e w179 ⟨v556, rfl, ho0, hb⟩; refine ⟨_, rfl, ?_⟩; replace HO545 := rba HO545 hb; replace HO549 := rba HO549 hb; have HO557 := Aside0.mk (Kd.R_lower (Kd.R_new' ho0 (Kd.R_lt (rx HO553.out))) (below_size (bh HB.out))); replace HO553 := Aside0.mk (Kd.R_elder' (rx HO553.out) (Kd.R_base ho0) hb); replace HB := bsa HB hb; clear hb ho0) | ((with_reducible refine gate_callee (f := 9) rfl ?_); refine gL 54 Tryz.func9 #[.string a0, .int .i64 a1] ?_; (with_reducible refine (dict_Places.calls k a0 a1 t558 t559 t560 _ A10.out).mono ?_); rintro e w180 ⟨v561, v563, rfl, ho0, ho1, hb⟩; refine ⟨_, rfl, ?_⟩; have HO562 := Aside0.mk (Kd.R_lower (Kd.R_new' (Kd.R_new' ho0 (Kd.R_lt (rx HO553.out))) (Kd.R_lt (rx HO557.out))) (below_size (bh HB.out))); replace HO553 := Aside0.mk (Kd.R_elder' (rx HO553.out) (Kd.R_base ho0) hb); replace HO557 := Aside0.mk (Kd.R_elder' (rx HO557.out) (Kd.R_base ho0) hb); have HO564 := Aside0.mk (Kd.R_lower (Kd.R_new' (Kd.R_new' ho1 (Kd.R_lt (rx HO545.out))) (Kd.R_lt (rx HO549.out))) (below_size (bh HB.out))); replace HO545 := Aside0.mk (Kd.R_elder' (rx HO545.out) (Kd.R_base ho1) hb); replace HO549 := Aside0.mk (Kd.R_elder' (rx HO549.out) (Kd.R_base ho1) hb); replace HB := bsa HB hb; clear hb ho0 ho1) | ((with_reducible refine gate_callee (f := 10) rfl ?_); refine gL 61 Tryz.func10 #[.string a0, .int .i64 a1] ?_; (with_reducible refine (peristyleref11_Places.calls k a0 a1 t565 t566 t567 _ A11.out).mono ?_); rintro e w181 ⟨v568, v570, rfl, ho0, ho1, hb⟩; refine ⟨_, rfl, ?_⟩; have HO569 := Aside0.mk (Kd.R_lower (Kd.R_new' (Kd.R_new' (Kd.R_new' ho0 (Kd.R_lt (rx HO553.out))) (Kd.R_lt (rx HO557.out))) (Kd.R_lt (rx HO562.out))) (below_size (bh HB.out))); replace HO553 := Aside0.mk (Kd.R_elder' (rx HO553.out) (Kd.R_base ho0) hb); replace HO557 := Aside0.mk (Kd.R_elder' (rx HO557.out) (Kd.R_base ho0) hb); replace HO562 := Aside0.mk (Kd.R_elder' (rx HO562.out) (Kd.R_base ho0) hb); have HO571 := Aside0.mk (Kd.R_lower (Kd.R_new' (Kd.R_new' (Kd.R_new' ho1 (Kd.R_lt (rx HO545.out))) (Kd.R_lt (rx HO549.out))) (Kd.R_lt (rx HO564.out))) (below_size (bh HB.out))); replace HO545 := Aside0.mk (Kd.R_elder' (rx HO545.out) (Kd.R_base ho1) hb); replace HO549 := Aside0.mk (Kd.R_elder' (rx HO549.out) (Kd.R_base ho1) hb); replace HO564 := Aside0.mk (Kd.R_elder' (rx HO564.out) (Kd.R_base ho1) hb); replace HB := bsa HB hb; clear hb ho0 ho1; obtain ⟨Ao182, co182, eo182⟩ := Kd.R_slice HO545.out; subst eo182) | ((with_reducible refine gate_callee (f := 11) rfl ?_); refine gL 67 Tryz.func11 #[.slice Ao182 t542.length co182] ?_; (with_reducible refine (dict_PutInts.calls k _ _ t542 t572 t573 _ ?side1 ?side2 A12.out).mono ?_); (case side1 => exact cx (Kd.R_reads' HO545.out).2.2); (case side2 => exact (Kd.R_reads' HO545.out).2.1); rintro e w183 ⟨rfl, hb⟩; refine ⟨_, rfl, ?_⟩; replace HO545 := rba HO545 hb; replace HO549 := rba HO549 hb; replace HO553 := rba HO553 hb; replace HO557 := rba HO557 hb; replace HO562 := rba HO562 hb; replace HO564 := rba HO564 hb; replace HO569 := rba HO569 hb; replace HO571 := rba HO571 hb; replace HB := bsa HB hb; clear hb; obtain ⟨Ao184, co184, eo184⟩ := Kd.R_slice HO553.out; subst eo184) | ((with_reducible refine gate_callee (f := 12) rfl ?_); refine gL 72 Tryz.func12 #[.slice Ao184 t550.length co184] ?_; (with_reducible refine (dict_PutTexts.calls k _ _ t550 t574 t575 _ ?side1 ?side2 A13.out).mono ?_); (case side1 => exact cx (Kd.R_reads' HO553.out).2.2); (case side2 => exact (Kd.R_reads' HO553.out).2.1); rintro e w185 ⟨rfl, hb⟩; refine ⟨_, rfl, ?_⟩; replace HO545 := rba HO545 hb; replace HO549 := rba HO549 hb; replace HO553 := rba HO553 hb; replace HO557 := rba HO557 hb; replace HO562 := rba HO562 hb; replace HO564 := rba HO564 hb; replace HO569 := rba HO569 hb; replace HO571 := rba HO571 hb; replace HB := bsa HB hb; clear hb; obtain ⟨Ao186, co186, eo186⟩ := Kd.R_slice HO549.out; subst eo186) | ((with_reducible refine gate_callee (f := 13) rfl ?_); refine gL 77 Tryz.func13 #[.slice Ao182 t542.length co182, .slice Ao186 t546.length co186] ?_; (with_reducible refine (peristyleref01_Same.calls k _ _ t542 _ _ t546 true _ ?side1 ?side2 ?side3 ?side4 A14.out).mono ?_); (case side1 => exact cx (Kd.R_reads' HO545.out).2.2); (case side2 => exact (Kd.R_reads' HO545.out).2.1); (case side3 => exact cx (Kd.R_reads' HO549.out).2.2); (case side4 => exact (Kd.R_reads' HO549.out).2.1); rintro e w' ⟨rfl, ⟨nd, rfl⟩⟩; refine ⟨_, rfl, ?_⟩))
    go_ret
    exact ⟨er, bh HB.out⟩
  ·obtain rfl := Option.some.inj H
   go_enter Tryz.func3, Tryz.ntmps3
   go_wp2_with (first | ((with_reducible refine gate_callee (f := 5) rfl ?_); refine gL 30 Tryz.func5 #[.string a0, .int .i64 a1] ?_; (with_reducible refine (dict_TakeInts.calls k a0 a1 t542 t543 _ A6.out).mono ?_); rintro e w187 ⟨v544, rfl, ho0, hb⟩; refine ⟨_, rfl, ?_⟩; have HO545 := Aside0.mk (Kd.R_lower ho0 (below_size (bh HB.out))); replace HB := bsa HB hb; clear hb ho0) | ((with_reducible refine gate_callee (f := 6) rfl ?_); refine gL 36 Tryz.func6 #[.string a0, .int .i64 a1] ?_; (with_reducible refine (peristyleref11_TakeInts.calls k a0 a1 t546 t547 _ A7.out).mono ?_); rintro e w188 ⟨v548, rfl, ho0, hb⟩; refine ⟨_, rfl, ?_⟩; have HO549 := Aside0.mk (Kd.R_lower (Kd.R_new' ho0 (Kd.R_lt (rx HO545.out))) (below_size (bh HB.out))); replace HO545 := Aside0.mk (Kd.R_elder' (rx HO545.out) (Kd.R_base ho0) hb); replace HB := bsa HB hb; clear hb ho0) | ((with_reducible refine gate_callee (f := 7) rfl ?_); refine gL 42 Tryz.func7 #[.string a0, .int .i64 a1] ?_; (with_reducible refine (dict_TakeTexts.calls k a0 a1 t550 t551 _ A8.out).mono ?_); rintro e w189 ⟨v552, rfl, ho0, hb⟩; refine ⟨_, rfl, ?_⟩; replace HO545 := rba HO545 hb; replace HO549 := rba HO549 hb; have HO553 := Aside0.mk (Kd.R_lower ho0 (below_size (bh HB.out))); replace HB := bsa HB hb; clear hb ho0) | ((with_reducible refine gate_callee (f := 8) rfl ?_); refine gL 48 Tryz.func8 #[.string a0, .int .i64 a1] ?_; (with_reducible refine (peristyleref11_TakeTexts.calls k a0 a1 t554 t555 _ A9.out).mono ?_); rintro e w190 ⟨v556, rfl, ho0, hb⟩; refine ⟨_, rfl, ?_⟩; replace HO545 := rba HO545 hb; replace HO549 := rba HO549 hb; have HO557 := Aside0.mk (Kd.R_lower (Kd.R_new' ho0 (Kd.R_lt (rx HO553.out))) (below_size (bh HB.out))); replace HO553 := Aside0.mk (Kd.R_elder' (rx HO553.out) (Kd.R_base ho0) hb); replace HB := bsa HB hb; clear hb ho0) | ((with_reducible refine gate_callee (f := 9) rfl ?_); refine gL 54 Tryz.func9 #[.string a0, .int .i64 a1] ?_; (with_reducible refine (dict_Places.calls k a0 a1 t558 t559 t560 _ A10.out).mono ?_); rintro e w191 ⟨v561, v563, rfl, ho0, ho1, hb⟩; refine ⟨_, rfl, ?_⟩; have HO562 := Aside0.mk (Kd.R_lower (Kd.R_new' (Kd.R_new' ho0 (Kd.R_lt (rx HO553.out))) (Kd.R_lt (rx HO557.out))) (below_size (bh HB.out))); replace HO553 := Aside0.mk (Kd.R_elder' (rx HO553.out) (Kd.R_base ho0) hb); replace HO557 := Aside0.mk (Kd.R_elder' (rx HO557.out) (Kd.R_base ho0) hb); have HO564 := Aside0.mk (Kd.R_lower (Kd.R_new' (Kd.R_new' ho1 (Kd.R_lt (rx HO545.out))) (Kd.R_lt (rx HO549.out))) (below_size (bh HB.out))); replace HO545 := Aside0.mk (Kd.R_elder' (rx HO545.out) (Kd.R_base ho1) hb); replace HO549 := Aside0.mk (Kd.R_elder' (rx HO549.out) (Kd.R_base ho1) hb); replace HB := bsa HB hb; clear hb ho0 ho1) | ((with_reducible refine gate_callee (f := 10) rfl ?_); refine gL 61 Tryz.func10 #[.string a0, .int .i64 a1] ?_; (with_reducible refine (peristyleref11_Places.calls k a0 a1 t565 t566 t567 _ A11.out).mono ?_); rintro e w192 ⟨v568, v570, rfl, ho0, ho1, hb⟩; refine ⟨_, rfl, ?_⟩; have HO569 := Aside0.mk (Kd.R_lower (Kd.R_new' (Kd.R_new' (Kd.R_new' ho0 (Kd.R_lt (rx HO553.out))) (Kd.R_lt (rx HO557.out))) (Kd.R_lt (rx HO562.out))) (below_size (bh HB.out))); replace HO553 := Aside0.mk (Kd.R_elder' (rx HO553.out) (Kd.R_base ho0) hb); replace HO557 := Aside0.mk (Kd.R_elder' (rx HO557.out) (Kd.R_base ho0) hb); replace HO562 := Aside0.mk (Kd.R_elder' (rx HO562.out) (Kd.R_base ho0) hb); have HO571 := Aside0.mk (Kd.R_lower (Kd.R_new' (Kd.R_new' (Kd.R_new' ho1 (Kd.R_lt (rx HO545.out))) (Kd.R_lt (rx HO549.out))) (Kd.R_lt (rx HO564.out))) (below_size (bh HB.out))); replace HO545 := Aside0.mk (Kd.R_elder' (rx HO545.out) (Kd.R_base ho1) hb); replace HO549 := Aside0.mk (Kd.R_elder' (rx HO549.out) (Kd.R_base ho1) hb); replace HO564 := Aside0.mk (Kd.R_elder' (rx HO564.out) (Kd.R_base ho1) hb); replace HB := bsa HB hb; clear hb ho0 ho1; obtain ⟨Ao193, co193, eo193⟩ := Kd.R_slice HO545.out; subst eo193) | ((with_reducible refine gate_callee (f := 11) rfl ?_); refine gL 67 Tryz.func11 #[.slice Ao193 t542.length co193] ?_; (with_reducible refine (dict_PutInts.calls k _ _ t542 t572 t573 _ ?side1 ?side2 A12.out).mono ?_); (case side1 => exact cx (Kd.R_reads' HO545.out).2.2); (case side2 => exact (Kd.R_reads' HO545.out).2.1); rintro e w194 ⟨rfl, hb⟩; refine ⟨_, rfl, ?_⟩; replace HO545 := rba HO545 hb; replace HO549 := rba HO549 hb; replace HO553 := rba HO553 hb; replace HO557 := rba HO557 hb; replace HO562 := rba HO562 hb; replace HO564 := rba HO564 hb; replace HO569 := rba HO569 hb; replace HO571 := rba HO571 hb; replace HB := bsa HB hb; clear hb; obtain ⟨Ao195, co195, eo195⟩ := Kd.R_slice HO553.out; subst eo195) | ((with_reducible refine gate_callee (f := 12) rfl ?_); refine gL 72 Tryz.func12 #[.slice Ao195 t550.length co195] ?_; (with_reducible refine (dict_PutTexts.calls k _ _ t550 t574 t575 _ ?side1 ?side2 A13.out).mono ?_); (case side1 => exact cx (Kd.R_reads' HO553.out).2.2); (case side2 => exact (Kd.R_reads' HO553.out).2.1); rintro e w196 ⟨rfl, hb⟩; refine ⟨_, rfl, ?_⟩; replace HO545 := rba HO545 hb; replace HO549 := rba HO549 hb; replace HO553 := rba HO553 hb; replace HO557 := rba HO557 hb; replace HO562 := rba HO562 hb; replace HO564 := rba HO564 hb; replace HO569 := rba HO569 hb; replace HO571 := rba HO571 hb; replace HB := bsa HB hb; clear hb; obtain ⟨Ao197, co197, eo197⟩ := Kd.R_slice HO549.out; subst eo197) | ((with_reducible refine gate_callee (f := 13) rfl ?_); refine gL 77 Tryz.func13 #[.slice Ao193 t542.length co193, .slice Ao197 t546.length co197] ?_; (with_reducible refine (peristyleref01_Same.calls k _ _ t542 _ _ t546 false _ ?side1 ?side2 ?side3 ?side4 A14.out).mono ?_); (case side1 => exact cx (Kd.R_reads' HO545.out).2.2); (case side2 => exact (Kd.R_reads' HO545.out).2.1); (case side3 => exact cx (Kd.R_reads' HO549.out).2.2); (case side4 => exact (Kd.R_reads' HO549.out).2.1); rintro e w' ⟨rfl, ⟨nd, rfl⟩⟩; refine ⟨_, rfl, ?_⟩))
   go_ret
   exact ⟨er, bh HB.out⟩
def peristylelaw11_DictTakes.Pure : Prop := ∀ (a0 : ByteArray) (a1 : Int), a0.size ≤ 140737488351232 → (Lit.int .i64 a1).wf = true → ∃ k, peristylelaw11_DictTakes.f k a0 a1 = some true
theorem peristylelaw11_DictTakes.walk (P : peristylelaw11_DictTakes.Pure) (a0 : ByteArray) (a1 : Int) (w : World) (w0 : a0.size ≤ 140737488351232) (w1 : (Lit.int .i64 a1).wf = true) :
  Calls Tryz.prog 3 #[.string a0, .int .i64 a1] w fun e w' => e = .returned (.bool true) ∧ Below w.heap.size w w' := by
 obtain ⟨k, h⟩ := P a0 a1 w0 w1
 refine (peristylelaw11_DictTakes.calls k a0 a1 true w h).mono ?_
 rintro e w' ⟨rfl, hd⟩
 exact ⟨rfl, hd⟩
end Go.Proofs.YtfohecpfenegkaaGreat.Print
end
