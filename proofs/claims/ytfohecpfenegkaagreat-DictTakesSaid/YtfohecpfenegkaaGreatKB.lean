-- Functions and laws: texts of the session's own and of the kit's print program, joined; what nothing names is left out.
import Derived.Test.YtfohecpfenegkaaGreatKA
import Derived.Test.YtfohecpfenegkaaGreatKW
section
namespace Go.Proofs.YtfohecpfenegkaaGreat.Print
open Go.RowKit Go.Proofs.YtfohecpfenegkaaGreatW.PrintWords Go.Proofs.YtfohecpfenegkaaGreatW.PrintLast Go.Proofs.YtfohecpfenegkaaGreatW.PrintMore
attribute [local go_sem] max2_int min2_int max_two min_two max_three min_three max_four min_four   -- for this text's walks alone
set_option linter.unusedVariables false
set_option linter.unusedSimpArgs false
/-! ### dict_flat_int: function 19 -/
def dict_flat_int.l0 : Nat → List Int → List Int → List Int → Int → Int → Option (List Int)
 | 0, _, _, _, _, _ => none
 | k + 1, x0, x5, x8, x9, x10 => if x10 < x9 then (if 0 ≤ x10 then (if x10 < (x8.length : Int) then (if 0 ≤ (rd x8 x10) then (if (rd x8 x10) < (x0.length : Int) then (if x5.length < 17592186044416 then (dict_flat_int.l0 k x0 (x5 ++ [rd x0 (rd x8 x10)]) x8 x9 (wrap64 (x10 + 1))) else (none)) else (none)) else (none)) else (none)) else (none)) else (some x5)
def dict_flat_int.f (k : Nat) (l0 : List Int) (l1 : List Int) : Option (List Int) := dict_flat_int.l0 k l0 ([] : List Int) l1 (l1.length : Int) 0
theorem dict_flat_int.l0_succ (k) (a0) (a1) (a2) (a3) (a4) : type_of% (@dict_flat_int.l0.eq_2 a0 a1 a2 a3 a4 k) := dict_flat_int.l0.eq_2 a0 a1 a2 a3 a4 k
theorem dict_flat_int.mono_l : ∀ k, (∀ y0 y1 y2 y3 y4, LeO (dict_flat_int.l0 k y0 y1 y2 y3 y4) (dict_flat_int.l0 (k + 1) y0 y1 y2 y3 y4))
 | 0 => fun _ _ _ _ _ r h => by simp [dict_flat_int.l0] at h
 | k + 1 => by
  have ih0 := dict_flat_int.mono_l k
  ·intro y0 y1 y2 y3 y4
   unfold dict_flat_int.l0
   repeat' first | (with_reducible exact ih0 _ _ _ _ _) | (with_reducible exact LeO.refl _) | (with_reducible refine LeO.ite ?_ ?_)
theorem dict_flat_int.mono : ∀ a0 a1 k, LeO (dict_flat_int.f k a0 a1) (dict_flat_int.f (k + 1) a0 a1) := by
 intro a0 a1 k
 have ih0 := dict_flat_int.mono_l k
 unfold dict_flat_int.f
 repeat' (with_reducible exact ih0 _ _ _ _ _)
set_option maxHeartbeats 8000000 in
set_option maxRecDepth 100000 in
theorem dict_flat_int.calls (k : Nat) (A0 : Option Addr) (c0 : Nat) (l0 : List Int) (A1 : Option Addr) (c1 : Nat) (l1 : List Int) (r : List Int) (w : World) (hr0 : Kd.C (Kd.int .i64) w A0 l0.length l0) (hc0 : l0.length ≤ c0) (hr1 : Kd.C (Kd.int .i64) w A1 l1.length l1) (hc1 : l1.length ≤ c1) (h : dict_flat_int.f k l0 l1 = some r) :
  Calls Tryz.prog 19 #[.slice A0 l0.length c0, .slice A1 l1.length c1] w fun e w' => ∃ v0_ : Value, e = .returned (v0_) ∧ Kd.R (Kd.int .i64) 3 w' w.heap.size (fun _ => True) v0_ r ∧ Below w.heap.size w w' := by
 have HR0 := Aside0.mk hr0
 have HC0 := Aside0.mk hc0
 clear hr0 hc0
 have HR1 := Aside0.mk hr1
 have HC1 := Aside0.mk hc1
 clear hr1 hc1
 have HB := Aside0.mk (Below.refl w.heap.size w)
 have H := h
 clear h
 unfold dict_flat_int.f at H
 have H' := Aside0.mk H
 clear H
 go_enter Tryz.func19, Tryz.ntmps19
 go_wp2
 go_loopg [5, 10] k (fun kq v5 v10 w' => ∃ (x5_1 : List Int) (x10_1 : Int), v10 = .int .i64 x10_1 ∧ Aside0 (dict_flat_int.l0 kq l0 x5_1 l1 (l1.length : Int) x10_1 = some r) ∧ Aside0 (kq ≤ k) ∧ Aside0 (Kd.R (Kd.int .i64) 3 w' w.heap.size (fun _ => True) v5 x5_1) ∧ Aside0 (Below w.heap.size w w'))
 case atStart => exact ⟨(([] : List Int)), (0), (by rfl), H', ⟨Nat.le_refl _⟩, ⟨nl⟩, ⟨bh HB.out⟩⟩
 case round =>
  clear H'
  obtain ⟨x5_1, x10_1, rfl, HA, HK1, HO_5, HB⟩ := hrel
  cases gk with
  | zero => exact absurd HA.out (by simp [dict_flat_int.l0])
  | succ k1 =>
   have H := HA.out
   clear HA
   simp only [dict_flat_int.l0] at H
   replace H := ifd H
   rcases H with ⟨-, c3b0, H⟩ | ⟨-, c3b0, H⟩
   ·replace H := ifn H
    obtain ⟨-, c4b0, H⟩ := H
    replace H := ifn H
    obtain ⟨-, c5b0, H⟩ := H
    replace H := ifn H
    obtain ⟨-, c6b0, H⟩ := H
    replace H := ifn H
    obtain ⟨-, c7b0, H⟩ := H
    replace H := ifn H
    obtain ⟨c8, -, H⟩ := H
    have LMc8 := Aside0.mk c8
    clear c8
    obtain ⟨y195, hy195⟩ : ∃ y_ : List Int, y_ = (x5_1 ++ [rd l0 (rd l1 x10_1)]) := ⟨_, rfl⟩
    replace H : (dict_flat_int.l0 k1 l0 y195 l1 (l1.length : Int) (wrap64 (x10_1 + 1))) = some r := by (rw [hy195]; with_reducible exact H)
    have Ny195 := Aside0.mk hy195
    clear hy195
    have H' := Aside0.mk H
    clear H
    have p193 : 0 ≤ (x10_1 : Int) := ad
    have q193 : x10_1 < (l1.length : Int) := ad
    obtain ⟨ad193, e193, hx193_0⟩ := Kd.at_int HR1.out x10_1 p193 q193
    cases e193
    replace hx193_0 := cb HB.out.cell hx193_0
    replace p193 := eq_true p193
    replace q193 := eq_true q193
    have p194 : 0 ≤ ((rd l1 x10_1) : Int) := ad
    have q194 : (rd l1 x10_1) < (l0.length : Int) := ad
    obtain ⟨ad194, e194, hx194_0⟩ := Kd.at_int HR0.out (rd l1 x10_1) p194 q194
    cases e194
    replace hx194_0 := cb HB.out.cell hx194_0
    replace p194 := eq_true p194
    replace q194 := eq_true q194
    go_wp2_with (((with_reducible refine gate_builtin (b := .append) (xs := #[.tmp 14, .tmp 19]) rfl ?_); at_builtin; refine Kd.R_append (Kd.int .i64) (w0 := w) w.heap.size rfl (.tmp 14) (.tmp 19) 23 3 (.int .i64 0) 8 rfl Tryz.underlying23 info3 rfl (by decide) (by omega) u5 x5_1 (rd l0 (rd l1 x10_1)) [.int .i64 (rd l0 (rd l1 x10_1))] (fun _ => True) (fun _ => False) rfl rfl ?aP (fun _ hk => hk.elim) ?aF ?aO ?aB ?aS ?aL ?_; (case aP => exact rfl); (case aB => exact (bh HB.out)); (case aF => exact (fun _ _ => trivial)); (case aO => exact (rx HO_5.out)); (case aS => exact (below_size (bh HB.out))); (case aL => have := LMc8.out; omega); intro v196 w9 ho hb hg hat; rw [← Ny195.out] at ho; have n0_ := Aside0.mk (hb); have n1_ := Aside0.mk (ho); clear HB HO_5; have HB := n0_; have HO197 := n1_; clear n0_ n1_ ho hb hg hat))
    go_roundg k1
    case measure => have := HK1.out; omega
    case rel => exact ⟨(y195), (wrap64 (x10_1 + 1)), (by rfl), H', ⟨by have := HK1.out; omega⟩, ⟨by exact HO197.out⟩, ⟨bh HB.out⟩⟩
   ·obtain rfl := Option.some.inj H
    go_wp2
    go_ret
    exact ⟨_, er, by exact HO_5.out, bh HB.out⟩
/-! ### dict_TakeInts: function 5 -/
def dict_TakeInts.f (k : Nat) (a0 : ByteArray) (a1 : Int) : Option (List Int × Int) := (dict_take_int_fn17.f k a0 a1).bind fun bt198 => (if bt198.2.2 = 0 then ((dict_flat_int.f k bt198.1 bt198.2.1).bind fun t205 => (some (t205, 0))) else (some (([] : List Int), bt198.2.2)))
theorem dict_TakeInts.mono : ∀ a0 a1 k, LeO (dict_TakeInts.f k a0 a1) (dict_TakeInts.f (k + 1) a0 a1) := by
 intro a0 a1 k
 unfold dict_TakeInts.f
 repeat' first | (with_reducible exact dict_flat_int.mono _ _ _) | (with_reducible exact dict_take_int_fn17.mono _ _ _) | (with_reducible exact LeO.refl _) | (with_reducible refine LeO.ite ?_ ?_) | (with_reducible refine LeO.bind ?_ (fun _ => ?_))
set_option maxHeartbeats 8000000 in
set_option maxRecDepth 100000 in
theorem dict_TakeInts.calls (k : Nat) (a0 : ByteArray) (a1 : Int) (r1 : List Int) (r2 : Int) (w : World) (h : dict_TakeInts.f k a0 a1 = some (r1, r2)) :
  Calls Tryz.prog 5 #[.string a0, .int .i64 a1] w fun e w' => ∃ v0_ : Value, e = .returned (.tuple #[v0_, .int .i64 r2]) ∧ Kd.R (Kd.int .i64) 3 w' w.heap.size (fun _ => True) v0_ r1 ∧ Below w.heap.size w w' := by
 have HB := Aside0.mk (Below.refl w.heap.size w)
 have H := h
 clear h
 unfold dict_TakeInts.f at H
 replace H := bd H
 obtain ⟨⟨t198, t201, t204⟩, A3, H⟩ := H
 dsimp only at H
 replace H := ife H
 rcases H with ⟨-, c4b0, c4b1, H⟩ | ⟨c4, c4b0, c4b1, H⟩
 ·replace H := bd H
  obtain ⟨t205, A5, H⟩ := H
  simp only [Option.some.injEq, Prod.mk.injEq] at H
  obtain ⟨rfl, rfl⟩ := H
  go_enter Tryz.func5, Tryz.ntmps5
  go_wp2_with (first | ((with_reducible refine gate_callee (f := 16) rfl ?_); refine gL 12 Tryz.func16 #[.string a0, .int .i64 a1, .func (.func 17) #[] #[]] ?_; (with_reducible refine (dict_take_int_fn17.calls k a0 a1  t198 t201 t204 _ A3.out).mono ?_); rintro e w6 ⟨v199, v202, rfl, ho0, ho1, hb⟩; refine ⟨_, rfl, ?_⟩; have HO200 := Aside0.mk (Kd.R_lower ho0 (below_size (bh HB.out))); have HO203 := Aside0.mk (Kd.R_lower ho1 (below_size (bh HB.out))); replace HB := bsa HB hb; clear hb ho0 ho1; obtain ⟨Ao7, co7, eo7⟩ := Kd.R_slice HO200.out; subst eo7; obtain ⟨Ao8, co8, eo8⟩ := Kd.R_slice HO203.out; subst eo8) | ((with_reducible refine gate_callee (f := 19) rfl ?_); refine gL 21 Tryz.func19 #[.slice Ao7 t198.length co7, .slice Ao8 t201.length co8] ?_; (with_reducible refine (dict_flat_int.calls k _ _ t198 _ _ t201 t205 _ ?side1 ?side2 ?side3 ?side4 A5.out).mono ?_); (case side1 => exact cx (Kd.R_reads' HO200.out).2.2); (case side2 => exact (Kd.R_reads' HO200.out).2.1); (case side3 => exact cx (Kd.R_reads' HO203.out).2.2); (case side4 => exact (Kd.R_reads' HO203.out).2.1); rintro e w9 ⟨v206, rfl, ho0, hb⟩; refine ⟨_, rfl, ?_⟩; have HO207 := Aside0.mk (Kd.R_lower (Kd.R_new' (Kd.R_new' ho0 (Kd.R_lt (rx HO200.out))) (Kd.R_lt (rx HO203.out))) (below_size (bh HB.out))); replace HO200 := Aside0.mk (Kd.R_elder' (rx HO200.out) (Kd.R_base ho0) hb); replace HO203 := Aside0.mk (Kd.R_elder' (rx HO203.out) (Kd.R_base ho0) hb); replace HB := bsa HB hb; clear hb ho0))
  go_ret2
  exact ⟨_, er, by exact Kd.R_mono HO207.out (fun _ hk => trivial), bh HB.out⟩
 ·simp only [Option.some.injEq, Prod.mk.injEq] at H
  obtain ⟨rfl, rfl⟩ := H
  go_enter Tryz.func5, Tryz.ntmps5
  go_wp2_with (((with_reducible refine gate_callee (f := 16) rfl ?_); refine gL 12 Tryz.func16 #[.string a0, .int .i64 a1, .func (.func 17) #[] #[]] ?_; (with_reducible refine (dict_take_int_fn17.calls k a0 a1  t198 t201 t204 _ A3.out).mono ?_); rintro e w10 ⟨v199, v202, rfl, ho0, ho1, hb⟩; refine ⟨_, rfl, ?_⟩; have HO200 := Aside0.mk (Kd.R_lower ho0 (below_size (bh HB.out))); have HO203 := Aside0.mk (Kd.R_lower ho1 (below_size (bh HB.out))); replace HB := bsa HB hb; clear hb ho0 ho1))
  go_ret2
  exact ⟨_, er, nl, bh HB.out⟩
/-! ### peristyleref07_Same: function 14 -/
def peristyleref07_Same.l0 : Nat → List ByteArray → List ByteArray → Int → Option (Bool)
 | 0, _, _, _ => none
 | k + 1, x0, x1, x5 => if x5 < (x0.length : Int) then (if 0 ≤ x5 then (if x5 < (x1.length : Int) then (if (rdOf ByteArray.empty x0 x5).toList = (rdOf ByteArray.empty x1 x5).toList then (peristyleref07_Same.l0 k x0 x1 (wrap64 (x5 + 1))) else (some false)) else (none)) else (none)) else (some true)
def peristyleref07_Same.f (k : Nat) (l0 : List ByteArray) (l1 : List ByteArray) : Option (Bool) := if (l0.length : Int) = (l1.length : Int) then (peristyleref07_Same.l0 k l0 l1 0) else (some false)
theorem peristyleref07_Same.l0_succ (k) (a0) (a1) (a2) : type_of% (@peristyleref07_Same.l0.eq_2 a0 a1 a2 k) := peristyleref07_Same.l0.eq_2 a0 a1 a2 k
set_option maxHeartbeats 8000000 in
set_option maxRecDepth 100000 in
theorem peristyleref07_Same.calls (k : Nat) (A0 : Option Addr) (c0 : Nat) (l0 : List ByteArray) (A1 : Option Addr) (c1 : Nat) (l1 : List ByteArray) (r : Bool) (w : World) (hr0 : Kd.C Kd.string w A0 l0.length l0) (hc0 : l0.length ≤ c0) (hr1 : Kd.C Kd.string w A1 l1.length l1) (hc1 : l1.length ≤ c1) (h : peristyleref07_Same.f k l0 l1 = some r) :
  Calls Tryz.prog 14 #[.slice A0 l0.length c0, .slice A1 l1.length c1] w fun e w' => e = .returned (.bool r) ∧ Drawn0 w w' := by
 have HR0 := Aside0.mk hr0
 have HC0 := Aside0.mk hc0
 clear hr0 hc0
 have HR1 := Aside0.mk hr1
 have HC1 := Aside0.mk hc1
 clear hr1 hc1
 have H := h
 clear h
 unfold peristyleref07_Same.f at H
 replace H := ife H
 rcases H with ⟨c3, c3b0, c3b1, H⟩ | ⟨c3, c3b0, c3b1, H⟩
 ·have c3b2 : (l0.length == l1.length) = true := by (simp at c3 ⊢; omega)
  clear c3
  have H' := Aside0.mk H
  clear H
  go_enter Tryz.func14, Tryz.ntmps14
  go_wp2
  repeat (go_quiet (fail))
  go_loopg [5] k (fun kq v5 w' => ∃ (x5_1 : Int), v5 = .int .i64 x5_1 ∧ Aside0 (peristyleref07_Same.l0 kq l0 l1 x5_1 = some r) ∧ Aside0 (kq ≤ k) ∧ Drawn0 w w')
  case atStart => exact ⟨(0), (by rfl), H', ⟨Nat.le_refl _⟩, by repeat (exact Drawn0.refl _)⟩
  case round =>
   clear H' c3b0 c3b1 c3b2
   obtain ⟨x5_1, rfl, HA, HK1, ⟨m1, rfl⟩⟩ := hrel
   cases gk with
   | zero => exact absurd HA.out (by simp [peristyleref07_Same.l0])
   | succ k1 =>
    have H := HA.out
    clear HA
    simp only [peristyleref07_Same.l0] at H
    replace H := ifd H
    rcases H with ⟨-, c4b0, H⟩ | ⟨-, c4b0, H⟩
    ·replace H := ifn H
     obtain ⟨-, c5b0, H⟩ := H
     replace H := ifn H
     obtain ⟨-, c6b0, H⟩ := H
     replace H := ife H
     rcases H with ⟨-, c7b0, c7b1, H⟩ | ⟨c7, c7b0, c7b1, H⟩
     ·have H' := Aside0.mk H
      clear H
      have p208 : 0 ≤ (x5_1 : Int) := ad
      have q208 : x5_1 < (l0.length : Int) := ad
      obtain ⟨ad208, e208, hx208_0⟩ := Kd.at_string HR0.out x5_1 p208 q208
      cases e208
      replace p208 := eq_true p208
      replace q208 := eq_true q208
      have p209 : 0 ≤ (x5_1 : Int) := ad
      have q209 : x5_1 < (l1.length : Int) := ad
      obtain ⟨ad209, e209, hx209_0⟩ := Kd.at_string HR1.out x5_1 p209 q209
      cases e209
      replace p209 := eq_true p209
      replace q209 := eq_true q209
      go_wp2
      repeat (go_quiet (fail); go_wp2)
      go_roundg k1
      case measure => have := HK1.out; omega
      case rel => exact ⟨(wrap64 (x5_1 + 1)), (by rfl), H', ⟨by have := HK1.out; omega⟩, by repeat (first | exact Drawn0.refl _ | apply Drawn0.step)⟩
     ·obtain rfl := Option.some.inj H
      have p208 : 0 ≤ (x5_1 : Int) := ad
      have q208 : x5_1 < (l0.length : Int) := ad
      obtain ⟨ad208, e208, hx208_0⟩ := Kd.at_string HR0.out x5_1 p208 q208
      cases e208
      replace p208 := eq_true p208
      replace q208 := eq_true q208
      have p209 : 0 ≤ (x5_1 : Int) := ad
      have q209 : x5_1 < (l1.length : Int) := ad
      obtain ⟨ad209, e209, hx209_0⟩ := Kd.at_string HR1.out x5_1 p209 q209
      cases e209
      replace p209 := eq_true p209
      replace q209 := eq_true q209
      go_wp2
      repeat (go_quiet (fail); go_wp2)
      go_ret
      exact ⟨by rfl, by repeat (first | exact Drawn0.refl _ | apply Drawn0.step)⟩
    ·obtain rfl := Option.some.inj H
     go_wp2
     repeat (go_quiet (fail))
     go_ret
     exact ⟨by rfl, by repeat (first | exact Drawn0.refl _ | apply Drawn0.step)⟩
 ·have c3b2 : (l0.length == l1.length) = false := by (simp at c3 ⊢; omega)
  obtain rfl := Option.some.inj H
  go_enter Tryz.func14, Tryz.ntmps14
  go_wp2
  repeat (go_quiet (fail))
  go_ret
  exact ⟨by rfl, by repeat (exact Drawn0.refl _)⟩
/-! ### peristyleref01_Same: function 13 -/
def peristyleref01_Same.l0 : Nat → List Int → List Int → Int → Option (Bool)
 | 0, _, _, _ => none
 | k + 1, x0, x1, x5 => if x5 < (x0.length : Int) then (if 0 ≤ x5 then (if x5 < (x1.length : Int) then (if (rd x0 x5) = (rd x1 x5) then (peristyleref01_Same.l0 k x0 x1 (wrap64 (x5 + 1))) else (some false)) else (none)) else (none)) else (some true)
def peristyleref01_Same.f (k : Nat) (l0 : List Int) (l1 : List Int) : Option (Bool) := if (l0.length : Int) = (l1.length : Int) then (peristyleref01_Same.l0 k l0 l1 0) else (some false)
theorem peristyleref01_Same.l0_succ (k) (a0) (a1) (a2) : type_of% (@peristyleref01_Same.l0.eq_2 a0 a1 a2 k) := peristyleref01_Same.l0.eq_2 a0 a1 a2 k
theorem peristyleref01_Same.mono_l : ∀ k, (∀ y0 y1 y2, LeO (peristyleref01_Same.l0 k y0 y1 y2) (peristyleref01_Same.l0 (k + 1) y0 y1 y2))
 | 0 => fun _ _ _ r h => by simp [peristyleref01_Same.l0] at h
 | k + 1 => by
  have ih0 := peristyleref01_Same.mono_l k
  ·intro y0 y1 y2
   unfold peristyleref01_Same.l0
   repeat' first | (with_reducible exact ih0 _ _ _) | (with_reducible exact LeO.refl _) | (with_reducible refine LeO.ite ?_ ?_)
theorem peristyleref01_Same.mono : ∀ a0 a1 k, LeO (peristyleref01_Same.f k a0 a1) (peristyleref01_Same.f (k + 1) a0 a1) := by
 intro a0 a1 k
 have ih0 := peristyleref01_Same.mono_l k
 unfold peristyleref01_Same.f
 repeat' first | (with_reducible exact ih0 _ _ _) | (with_reducible exact LeO.refl _) | (with_reducible refine LeO.ite ?_ ?_)
set_option maxHeartbeats 8000000 in
set_option maxRecDepth 100000 in
theorem peristyleref01_Same.calls (k : Nat) (A0 : Option Addr) (c0 : Nat) (l0 : List Int) (A1 : Option Addr) (c1 : Nat) (l1 : List Int) (r : Bool) (w : World) (hr0 : Kd.C (Kd.int .i64) w A0 l0.length l0) (hc0 : l0.length ≤ c0) (hr1 : Kd.C (Kd.int .i64) w A1 l1.length l1) (hc1 : l1.length ≤ c1) (h : peristyleref01_Same.f k l0 l1 = some r) :
  Calls Tryz.prog 13 #[.slice A0 l0.length c0, .slice A1 l1.length c1] w fun e w' => e = .returned (.bool r) ∧ Drawn0 w w' := by
 have HR0 := Aside0.mk hr0
 have HC0 := Aside0.mk hc0
 clear hr0 hc0
 have HR1 := Aside0.mk hr1
 have HC1 := Aside0.mk hc1
 clear hr1 hc1
 have H := h
 clear h
 unfold peristyleref01_Same.f at H
 replace H := ife H
 rcases H with ⟨c3, c3b0, c3b1, H⟩ | ⟨c3, c3b0, c3b1, H⟩
 ·have c3b2 : (l0.length == l1.length) = true := by (simp at c3 ⊢; omega)
  clear c3
  have H' := Aside0.mk H
  clear H
  go_enter Tryz.func13, Tryz.ntmps13
  go_wp2
  repeat (go_quiet (fail))
  go_loopg [5] k (fun kq v5 w' => ∃ (x5_1 : Int), v5 = .int .i64 x5_1 ∧ Aside0 (peristyleref01_Same.l0 kq l0 l1 x5_1 = some r) ∧ Aside0 (kq ≤ k) ∧ Drawn0 w w')
  case atStart => exact ⟨(0), (by rfl), H', ⟨Nat.le_refl _⟩, by repeat (exact Drawn0.refl _)⟩
  case round =>
   clear H' c3b0 c3b1 c3b2
   obtain ⟨x5_1, rfl, HA, HK1, ⟨m1, rfl⟩⟩ := hrel
   cases gk with
   | zero => exact absurd HA.out (by simp [peristyleref01_Same.l0])
   | succ k1 =>
    have H := HA.out
    clear HA
    simp only [peristyleref01_Same.l0] at H
    replace H := ifd H
    rcases H with ⟨-, c4b0, H⟩ | ⟨-, c4b0, H⟩
    ·replace H := ifn H
     obtain ⟨-, c5b0, H⟩ := H
     replace H := ifn H
     obtain ⟨-, c6b0, H⟩ := H
     replace H := ife H
     rcases H with ⟨-, c7b0, c7b1, H⟩ | ⟨c7, c7b0, c7b1, H⟩
     ·have H' := Aside0.mk H
      clear H
      have p210 : 0 ≤ (x5_1 : Int) := ad
      have q210 : x5_1 < (l0.length : Int) := ad
      obtain ⟨ad210, e210, hx210_0⟩ := Kd.at_int HR0.out x5_1 p210 q210
      cases e210
      replace p210 := eq_true p210
      replace q210 := eq_true q210
      have p211 : 0 ≤ (x5_1 : Int) := ad
      have q211 : x5_1 < (l1.length : Int) := ad
      obtain ⟨ad211, e211, hx211_0⟩ := Kd.at_int HR1.out x5_1 p211 q211
      cases e211
      replace p211 := eq_true p211
      replace q211 := eq_true q211
      go_wp2
      repeat (go_quiet (fail); go_wp2)
      go_roundg k1
      case measure => have := HK1.out; omega
      case rel => exact ⟨(wrap64 (x5_1 + 1)), (by rfl), H', ⟨by have := HK1.out; omega⟩, by repeat (first | exact Drawn0.refl _ | apply Drawn0.step)⟩
     ·obtain rfl := Option.some.inj H
      have p210 : 0 ≤ (x5_1 : Int) := ad
      have q210 : x5_1 < (l0.length : Int) := ad
      obtain ⟨ad210, e210, hx210_0⟩ := Kd.at_int HR0.out x5_1 p210 q210
      cases e210
      replace p210 := eq_true p210
      replace q210 := eq_true q210
      have p211 : 0 ≤ (x5_1 : Int) := ad
      have q211 : x5_1 < (l1.length : Int) := ad
      obtain ⟨ad211, e211, hx211_0⟩ := Kd.at_int HR1.out x5_1 p211 q211
      cases e211
      replace p211 := eq_true p211
      replace q211 := eq_true q211
      go_wp2
      repeat (go_quiet (fail); go_wp2)
      go_ret
      exact ⟨by rfl, by repeat (first | exact Drawn0.refl _ | apply Drawn0.step)⟩
    ·obtain rfl := Option.some.inj H
     go_wp2
     repeat (go_quiet (fail))
     go_ret
     exact ⟨by rfl, by repeat (first | exact Drawn0.refl _ | apply Drawn0.step)⟩
 ·have c3b2 : (l0.length == l1.length) = false := by (simp at c3 ⊢; omega)
  obtain rfl := Option.some.inj H
  go_enter Tryz.func13, Tryz.ntmps13
  go_wp2
  repeat (go_quiet (fail))
  go_ret
  exact ⟨by rfl, by repeat (exact Drawn0.refl _)⟩
/-! ### peristylelaw11_awake: function 4 -/
def peristylelaw11_awake.f (k : Nat)  : Option (Bool) := (dict_Of_string.f k (([(⟨#[98]⟩ : ByteArray), (⟨#[97]⟩ : ByteArray), (⟨#[98]⟩ : ByteArray)] : List ByteArray))).bind fun bt215 => ((dict_PutTexts.f k (([(⟨#[98]⟩ : ByteArray), (⟨#[97]⟩ : ByteArray), (⟨#[98]⟩ : ByteArray)] : List ByteArray))).bind fun bt224 => ((dict_TakeInts.f k (⟨#[4, 10, 14, 1]⟩ : ByteArray) 2).bind fun bt226 => ((peristyleref07_Same.f k bt215.1 (([(⟨#[97]⟩ : ByteArray), (⟨#[98]⟩ : ByteArray)] : List ByteArray))).bind fun t233 => (if t233 = true then ((peristyleref01_Same.f k bt215.2 (([1, 0, 1] : List Int))).bind fun t237 => (if t237 = true then (if bt224.1.toList = ([4, 1, 97, 1, 98, 5] : List UInt8) then (if bt224.2 = 0 then ((peristyleref01_Same.f k bt226.1 (([7, 5] : List Int))).bind fun t241 => (if t241 = true then (some (bt226.2 == 0)) else (none))) else (none)) else (none)) else (none))) else (none)))))
set_option maxHeartbeats 8000000 in
set_option maxRecDepth 100000 in
theorem peristylelaw11_awake.calls (k : Nat)  (r : Bool) (w : World) (h : peristylelaw11_awake.f k  = some r) :
  Calls Tryz.prog 4 #[] w fun e w' => e = .returned (.bool r) ∧ Below w.heap.size w w' := by
 have HB := Aside0.mk (Below.refl w.heap.size w)
 have H := h
 clear h
 unfold peristylelaw11_awake.f at H
 obtain ⟨y212, hy212⟩ : ∃ y_ : List ByteArray, y_ = (([(⟨#[98]⟩ : ByteArray), (⟨#[97]⟩ : ByteArray), (⟨#[98]⟩ : ByteArray)] : List ByteArray)) := ⟨_, rfl⟩
 replace H : ((dict_Of_string.f k y212).bind fun bt215 => ((dict_PutTexts.f k (([(⟨#[98]⟩ : ByteArray), (⟨#[97]⟩ : ByteArray), (⟨#[98]⟩ : ByteArray)] : List ByteArray))).bind fun bt224 => ((dict_TakeInts.f k (⟨#[4, 10, 14, 1]⟩ : ByteArray) 2).bind fun bt226 => ((peristyleref07_Same.f k bt215.1 (([(⟨#[97]⟩ : ByteArray), (⟨#[98]⟩ : ByteArray)] : List ByteArray))).bind fun t233 => (if t233 = true then ((peristyleref01_Same.f k bt215.2 (([1, 0, 1] : List Int))).bind fun t237 => (if t237 = true then (if bt224.1.toList = ([4, 1, 97, 1, 98, 5] : List UInt8) then (if bt224.2 = 0 then ((peristyleref01_Same.f k bt226.1 (([7, 5] : List Int))).bind fun t241 => (if t241 = true then (some (bt226.2 == 0)) else (none))) else (none)) else (none)) else (none))) else (none)))))) = some r := by (rw [hy212]; with_reducible exact H)
 have Ny212 := Aside0.mk hy212
 clear hy212
 replace H := bd H
 obtain ⟨⟨t215, t216⟩, A1, H⟩ := H
 dsimp only at H
 obtain ⟨y221, hy221⟩ : ∃ y_ : List ByteArray, y_ = (([(⟨#[98]⟩ : ByteArray), (⟨#[97]⟩ : ByteArray), (⟨#[98]⟩ : ByteArray)] : List ByteArray)) := ⟨_, rfl⟩
 replace H : ((dict_PutTexts.f k y221).bind fun bt224 => ((dict_TakeInts.f k (⟨#[4, 10, 14, 1]⟩ : ByteArray) 2).bind fun bt226 => ((peristyleref07_Same.f k t215 (([(⟨#[97]⟩ : ByteArray), (⟨#[98]⟩ : ByteArray)] : List ByteArray))).bind fun t233 => (if t233 = true then ((peristyleref01_Same.f k t216 (([1, 0, 1] : List Int))).bind fun t237 => (if t237 = true then (if bt224.1.toList = ([4, 1, 97, 1, 98, 5] : List UInt8) then (if bt224.2 = 0 then ((peristyleref01_Same.f k bt226.1 (([7, 5] : List Int))).bind fun t241 => (if t241 = true then (some (bt226.2 == 0)) else (none))) else (none)) else (none)) else (none))) else (none))))) = some r := by (rw [hy221]; with_reducible exact H)
 have Ny221 := Aside0.mk hy221
 clear hy221
 replace H := bd H
 obtain ⟨⟨t224, t225⟩, A2, H⟩ := H
 dsimp only at H
 replace H := bd H
 obtain ⟨⟨t226, t227⟩, A3, H⟩ := H
 dsimp only at H
 obtain ⟨y230, hy230⟩ : ∃ y_ : List ByteArray, y_ = (([(⟨#[97]⟩ : ByteArray), (⟨#[98]⟩ : ByteArray)] : List ByteArray)) := ⟨_, rfl⟩
 replace H : ((peristyleref07_Same.f k t215 y230).bind fun t233 => (if t233 = true then ((peristyleref01_Same.f k t216 (([1, 0, 1] : List Int))).bind fun t237 => (if t237 = true then (if t224.toList = ([4, 1, 97, 1, 98, 5] : List UInt8) then (if t225 = 0 then ((peristyleref01_Same.f k t226 (([7, 5] : List Int))).bind fun t241 => (if t241 = true then (some (t227 == 0)) else (none))) else (none)) else (none)) else (none))) else (none))) = some r := by (rw [hy230]; with_reducible exact H)
 have Ny230 := Aside0.mk hy230
 clear hy230
 replace H := bd H
 obtain ⟨t233, A4, H⟩ := H
 replace H := ifb H
 rcases H with ⟨rfl, H⟩ | ⟨-, ⟨⟩⟩
 obtain ⟨y234, hy234⟩ : ∃ y_ : List Int, y_ = (([1, 0, 1] : List Int)) := ⟨_, rfl⟩
 replace H : ((peristyleref01_Same.f k t216 y234).bind fun t237 => (if t237 = true then (if t224.toList = ([4, 1, 97, 1, 98, 5] : List UInt8) then (if t225 = 0 then ((peristyleref01_Same.f k t226 (([7, 5] : List Int))).bind fun t241 => (if t241 = true then (some (t227 == 0)) else (none))) else (none)) else (none)) else (none))) = some r := by (rw [hy234]; with_reducible exact H)
 have Ny234 := Aside0.mk hy234
 clear hy234
 replace H := bd H
 obtain ⟨t237, A6, H⟩ := H
 replace H := ifb H
 rcases H with ⟨rfl, H⟩ | ⟨-, ⟨⟩⟩
 replace H := ife H
 rcases H with ⟨-, c8b0, c8b1, H⟩ | ⟨-, -, -, ⟨⟩⟩
 replace H := ife H
 rcases H with ⟨-, c9b0, c9b1, H⟩ | ⟨-, -, -, ⟨⟩⟩
 obtain ⟨y238, hy238⟩ : ∃ y_ : List Int, y_ = (([7, 5] : List Int)) := ⟨_, rfl⟩
 replace H : ((peristyleref01_Same.f k t226 y238).bind fun t241 => (if t241 = true then (some (t227 == 0)) else (none))) = some r := by (rw [hy238]; with_reducible exact H)
 have Ny238 := Aside0.mk hy238
 clear hy238
 replace H := bd H
 obtain ⟨t241, A10, H⟩ := H
 replace H := ifb H
 rcases H with ⟨rfl, H⟩ | ⟨-, ⟨⟩⟩
 obtain rfl := Option.some.inj H
 go_enter Tryz.func4, Tryz.ntmps4
 go_wp2_with (first | ((with_reducible refine gate_dst (N := 8) rfl ?_); ((refine gate_guard (by rfl) ?_; dsimp only)); refine Kd.R_lit Kd.string _ 9 ?hg (N := 8) ?hd (xs := ([(⟨#[98]⟩ : ByteArray), (⟨#[97]⟩ : ByteArray), (⟨#[98]⟩ : ByteArray)] : List ByteArray)) (inner := [.string (⟨#[98]⟩ : ByteArray), .string (⟨#[97]⟩ : ByteArray), .string (⟨#[98]⟩ : ByteArray)]) (ok := fun _ => True) (okp := fun _ => True) ?hr ?hp (fun _ hk => hk) trivial (Below.refl _ _) (Nat.le_refl _) (by simp) ?_; (case hd => rfl); (case hg => rfl); (case hr => (go_simp; done)); (case hp => exact (Reps.one (show Kd.M Kd.string _ _ _ (⟨#[98]⟩ : ByteArray) [.string (⟨#[98]⟩ : ByteArray)] from rfl) (Reps.one (show Kd.M Kd.string _ _ _ (⟨#[97]⟩ : ByteArray) [.string (⟨#[97]⟩ : ByteArray)] from rfl) (Reps.one (show Kd.M Kd.string _ _ _ (⟨#[98]⟩ : ByteArray) [.string (⟨#[98]⟩ : ByteArray)] from rfl) (Reps.none _ _))))); intro v213 w12 ho13 hb hg_ hnew_; clear hg_ hnew_; (rw [← Ny212.out] at ho13); have HO214 := Aside0.mk (Kd.R_lower ho13 (below_size (bh HB.out))); replace HB := bsa HB hb; clear hb ho13; obtain ⟨Ao14, co14, eo14⟩ := Kd.R_slice HO214.out; subst eo14) | ((with_reducible refine gate_callee (f := 15) rfl ?_); refine gL 9 Tryz.func15 #[.slice Ao14 y212.length co14] ?_; (with_reducible refine (dict_Of_string.calls k _ _ y212 t215 t216 _ ?side1 ?side2 A1.out).mono ?_); (case side1 => exact cx (Kd.R_reads' HO214.out).2.2); (case side2 => exact (Kd.R_reads' HO214.out).2.1); rintro e w15 ⟨v217, v219, rfl, ho0, ho1, hb⟩; refine ⟨_, rfl, ?_⟩; have HO218 := Aside0.mk (Kd.R_lower (Kd.R_new' ho0 (Kd.R_lt (rx HO214.out))) (below_size (bh HB.out))); replace HO214 := Aside0.mk (Kd.R_elder' (rx HO214.out) (Kd.R_base ho0) hb); have HO220 := Aside0.mk (Kd.R_lower ho1 (below_size (bh HB.out))); replace HB := bsa HB hb; clear hb ho0 ho1) | ((with_reducible refine gate_dst (N := 13) rfl ?_); ((refine gate_guard (by rfl) ?_; dsimp only)); refine Kd.R_lit Kd.string _ 9 ?hg (N := 13) ?hd (xs := ([(⟨#[98]⟩ : ByteArray), (⟨#[97]⟩ : ByteArray), (⟨#[98]⟩ : ByteArray)] : List ByteArray)) (inner := [.string (⟨#[98]⟩ : ByteArray), .string (⟨#[97]⟩ : ByteArray), .string (⟨#[98]⟩ : ByteArray)]) (ok := fun _ => True) (okp := fun _ => True) ?hr ?hp (fun _ hk => hk) trivial (Below.refl _ _) (Nat.le_refl _) (by simp) ?_; (case hd => rfl); (case hg => rfl); (case hr => (go_simp; done)); (case hp => exact (Reps.one (show Kd.M Kd.string _ _ _ (⟨#[98]⟩ : ByteArray) [.string (⟨#[98]⟩ : ByteArray)] from rfl) (Reps.one (show Kd.M Kd.string _ _ _ (⟨#[97]⟩ : ByteArray) [.string (⟨#[97]⟩ : ByteArray)] from rfl) (Reps.one (show Kd.M Kd.string _ _ _ (⟨#[98]⟩ : ByteArray) [.string (⟨#[98]⟩ : ByteArray)] from rfl) (Reps.none _ _))))); intro v222 w16 ho17 hb hg_ hnew_; clear hg_ hnew_; (rw [← Ny221.out] at ho17); replace HO220 := rba HO220 hb; have HO223 := Aside0.mk (Kd.R_lower (Kd.R_new' (Kd.R_new' ho17 (Kd.R_lt (rx HO214.out))) (Kd.R_lt (rx HO218.out))) (below_size (bh HB.out))); replace HO214 := Aside0.mk (Kd.R_elder' (rx HO214.out) (Kd.R_base ho17) hb); replace HO218 := Aside0.mk (Kd.R_elder' (rx HO218.out) (Kd.R_base ho17) hb); replace HB := bsa HB hb; clear hb ho17; obtain ⟨Ao18, co18, eo18⟩ := Kd.R_slice HO223.out; subst eo18) | ((with_reducible refine gate_callee (f := 12) rfl ?_); refine gL 14 Tryz.func12 #[.slice Ao18 y221.length co18] ?_; (with_reducible refine (dict_PutTexts.calls k _ _ y221 t224 t225 _ ?side1 ?side2 A2.out).mono ?_); (case side1 => exact cx (Kd.R_reads' HO223.out).2.2); (case side2 => exact (Kd.R_reads' HO223.out).2.1); rintro e w19 ⟨rfl, hb⟩; refine ⟨_, rfl, ?_⟩; replace HO214 := rba HO214 hb; replace HO218 := rba HO218 hb; replace HO220 := rba HO220 hb; replace HO223 := rba HO223 hb; replace HB := bsa HB hb; clear hb) | ((with_reducible refine gate_callee (f := 5) rfl ?_); refine gL 18 Tryz.func5 #[.string (⟨#[4, 10, 14, 1]⟩ : ByteArray), .int .i64 2] ?_; (with_reducible refine (dict_TakeInts.calls k (⟨#[4, 10, 14, 1]⟩ : ByteArray) 2 t226 t227 _ A3.out).mono ?_); rintro e w20 ⟨v228, rfl, ho0, hb⟩; refine ⟨_, rfl, ?_⟩; replace HO214 := rba HO214 hb; replace HO218 := rba HO218 hb; replace HO223 := rba HO223 hb; have HO229 := Aside0.mk (Kd.R_lower (Kd.R_new' ho0 (Kd.R_lt (rx HO220.out))) (below_size (bh HB.out))); replace HO220 := Aside0.mk (Kd.R_elder' (rx HO220.out) (Kd.R_base ho0) hb); replace HB := bsa HB hb; clear hb ho0) | ((with_reducible refine gate_dst (N := 22) rfl ?_); ((refine gate_guard (by rfl) ?_; dsimp only)); refine Kd.R_lit Kd.string _ 9 ?hg (N := 22) ?hd (xs := ([(⟨#[97]⟩ : ByteArray), (⟨#[98]⟩ : ByteArray)] : List ByteArray)) (inner := [.string (⟨#[97]⟩ : ByteArray), .string (⟨#[98]⟩ : ByteArray)]) (ok := fun _ => True) (okp := fun _ => True) ?hr ?hp (fun _ hk => hk) trivial (Below.refl _ _) (Nat.le_refl _) (by simp) ?_; (case hd => rfl); (case hg => rfl); (case hr => (go_simp; done)); (case hp => exact (Reps.one (show Kd.M Kd.string _ _ _ (⟨#[97]⟩ : ByteArray) [.string (⟨#[97]⟩ : ByteArray)] from rfl) (Reps.one (show Kd.M Kd.string _ _ _ (⟨#[98]⟩ : ByteArray) [.string (⟨#[98]⟩ : ByteArray)] from rfl) (Reps.none _ _)))); intro v231 w21 ho22 hb hg_ hnew_; clear hg_ hnew_; (rw [← Ny230.out] at ho22); replace HO220 := rba HO220 hb; replace HO229 := rba HO229 hb; have HO232 := Aside0.mk (Kd.R_lower (Kd.R_new' (Kd.R_new' (Kd.R_new' ho22 (Kd.R_lt (rx HO214.out))) (Kd.R_lt (rx HO218.out))) (Kd.R_lt (rx HO223.out))) (below_size (bh HB.out))); replace HO214 := Aside0.mk (Kd.R_elder' (rx HO214.out) (Kd.R_base ho22) hb); replace HO218 := Aside0.mk (Kd.R_elder' (rx HO218.out) (Kd.R_base ho22) hb); replace HO223 := Aside0.mk (Kd.R_elder' (rx HO223.out) (Kd.R_base ho22) hb); replace HB := bsa HB hb; clear hb ho22; obtain ⟨Ao23, co23, eo23⟩ := Kd.R_slice HO218.out; subst eo23; obtain ⟨Ao24, co24, eo24⟩ := Kd.R_slice HO232.out; subst eo24) | ((with_reducible refine gate_callee (f := 14) rfl ?_); refine gL 23 Tryz.func14 #[.slice Ao23 t215.length co23, .slice Ao24 y230.length co24] ?_; (with_reducible refine (peristyleref07_Same.calls k _ _ t215 _ _ y230 true _ ?side1 ?side2 ?side3 ?side4 A4.out).mono ?_); (case side1 => exact cx (Kd.R_reads' HO218.out).2.2); (case side2 => exact (Kd.R_reads' HO218.out).2.1); (case side3 => exact cx (Kd.R_reads' HO232.out).2.2); (case side4 => exact (Kd.R_reads' HO232.out).2.1); rintro e w' ⟨rfl, ⟨nd, rfl⟩⟩; refine ⟨_, rfl, ?_⟩) | ((with_reducible refine gate_dst (N := 26) rfl ?_); ((refine gate_guard (by rfl) ?_; dsimp only)); refine Kd.R_lit (Kd.int .i64) _ 3 ?hg (N := 26) ?hd (xs := ([1, 0, 1] : List Int)) (inner := [.int .i64 1, .int .i64 0, .int .i64 1]) (ok := fun _ => True) (okp := fun _ => True) ?hr ?hp (fun _ hk => hk) trivial (Below.refl _ _) (Nat.le_refl _) (by simp) ?_; (case hd => rfl); (case hg => rfl); (case hr => (go_simp; done)); (case hp => exact (Reps.one (show Kd.M (Kd.int .i64) _ _ _ 1 [.int .i64 1] from rfl) (Reps.one (show Kd.M (Kd.int .i64) _ _ _ 0 [.int .i64 0] from rfl) (Reps.one (show Kd.M (Kd.int .i64) _ _ _ 1 [.int .i64 1] from rfl) (Reps.none _ _))))); intro v235 w25 ho26 hb hg_ hnew_; clear hg_ hnew_; (rw [← Ny234.out] at ho26); replace HO214 := rba HO214 hb; replace HO218 := rba HO218 hb; replace HO223 := rba HO223 hb; replace HO232 := rba HO232 hb; have HO236 := Aside0.mk (Kd.R_lower (Kd.R_new' (Kd.R_new' ho26 (Kd.R_lt (rx HO220.out))) (Kd.R_lt (rx HO229.out))) (below_size (bh HB.out))); replace HO220 := Aside0.mk (Kd.R_elder' (rx HO220.out) (Kd.R_base ho26) hb); replace HO229 := Aside0.mk (Kd.R_elder' (rx HO229.out) (Kd.R_base ho26) hb); replace HB := bsa HB hb; clear hb ho26; obtain ⟨Ao27, co27, eo27⟩ := Kd.R_slice HO220.out; subst eo27; obtain ⟨Ao28, co28, eo28⟩ := Kd.R_slice HO236.out; subst eo28) | (go_at_call 13; (with_reducible refine (peristyleref01_Same.calls k _ _ t216 _ _ y234 true _ ?side1 ?side2 ?side3 ?side4 A6.out).mono ?_); (case side1 => exact cx (Kd.R_reads' HO220.out).2.2); (case side2 => exact (Kd.R_reads' HO220.out).2.1); (case side3 => exact cx (Kd.R_reads' HO236.out).2.2); (case side4 => exact (Kd.R_reads' HO236.out).2.1); rintro e w' ⟨rfl, ⟨nd, rfl⟩⟩; clear A6) | ((with_reducible refine gate_dst (N := 39) rfl ?_); ((refine gate_guard (by rfl) ?_; dsimp only)); refine Kd.R_lit (Kd.int .i64) _ 3 ?hg (N := 39) ?hd (xs := ([7, 5] : List Int)) (inner := [.int .i64 7, .int .i64 5]) (ok := fun _ => True) (okp := fun _ => True) ?hr ?hp (fun _ hk => hk) trivial (Below.refl _ _) (Nat.le_refl _) (by simp) ?_; (case hd => rfl); (case hg => rfl); (case hr => (go_simp; done)); (case hp => exact (Reps.one (show Kd.M (Kd.int .i64) _ _ _ 7 [.int .i64 7] from rfl) (Reps.one (show Kd.M (Kd.int .i64) _ _ _ 5 [.int .i64 5] from rfl) (Reps.none _ _)))); intro v239 w29 ho30 hb hg_ hnew_; clear hg_ hnew_; (rw [← Ny238.out] at ho30); replace HO214 := rba HO214 hb; replace HO218 := rba HO218 hb; replace HO223 := rba HO223 hb; replace HO232 := rba HO232 hb; have HO240 := Aside0.mk (Kd.R_lower (Kd.R_new' (Kd.R_new' (Kd.R_new' ho30 (Kd.R_lt (rx HO220.out))) (Kd.R_lt (rx HO229.out))) (Kd.R_lt (rx HO236.out))) (below_size (bh HB.out))); replace HO220 := Aside0.mk (Kd.R_elder' (rx HO220.out) (Kd.R_base ho30) hb); replace HO229 := Aside0.mk (Kd.R_elder' (rx HO229.out) (Kd.R_base ho30) hb); replace HO236 := Aside0.mk (Kd.R_elder' (rx HO236.out) (Kd.R_base ho30) hb); replace HB := bsa HB hb; clear hb ho30; obtain ⟨Ao31, co31, eo31⟩ := Kd.R_slice HO229.out; subst eo31; obtain ⟨Ao32, co32, eo32⟩ := Kd.R_slice HO240.out; subst eo32) | (go_at_call 13; (with_reducible refine (peristyleref01_Same.calls k _ _ t226 _ _ y238 true _ ?side1 ?side2 ?side3 ?side4 A10.out).mono ?_); (case side1 => exact cx (Kd.R_reads' HO229.out).2.2); (case side2 => exact (Kd.R_reads' HO229.out).2.1); (case side3 => exact cx (Kd.R_reads' HO240.out).2.2); (case side4 => exact (Kd.R_reads' HO240.out).2.1); rintro e w' ⟨rfl, ⟨nd, rfl⟩⟩; clear A10))
 go_ret
 exact ⟨er, bh HB.out⟩
/-! ### peristyleref01_Of: function 69 (a contract of the session's own) -/
theorem peristyleref01_Of.zero : (Tryz.prog.info? 92).map (fun i => (i.zero, i.size)) = some (some (.agg (arrB zB)), 64) := by kernel_rfl
theorem peristyleref01_Of.size : (Tryz.prog.info? 92).map (·.size) = some 64 := by kernel_rfl
theorem peristyleref01_Of.elem : (Tryz.prog.info? 4).isSome = true := by kernel_rfl
set_option maxHeartbeats 800000 in
theorem peristyleref01_Of.calls (a0 : Int) (w : World) :
    Calls Tryz.prog 69 #[.int .i64 a0] w fun e w' => e = .returned (.agg (arrB (bitsOf a0))) ∧ Below w.heap.size w w' := by
 go_enter Tryz.func69, Tryz.ntmps69
 go_wp2_with (first | ((with_reducible refine gate_dst (N := 2) rfl ?_); refine arr_alloc (w0 := w) w.heap.size rfl 92 rfl _ 64 peristyleref01_Of.zero (Below.refl _ _) (Nat.le_refl _) ?_; intro g0 w1 hg0 hb0 hs0 HB1 hbs1 hgr1) | ((with_reducible refine gate_dst (N := 5) rfl ?_); refine arr_build rfl 92 rfl _ 64 4 64 peristyleref01_Of.zero Tryz.underlying92 peristyleref01_Of.elem ?_) | ((with_reducible refine gate_dst (N := 3) rfl ?_); refine arr_alloc (w0 := w) w.heap.size rfl 92 rfl _ 64 peristyleref01_Of.zero HB1 hbs1 ?_; intro g1 w2 hg1 hb1 hs1 HB2 hbs2 hgr2) | ((with_reducible refine gate_store (t := 92) (p := 3) rfl ?_); refine arr_store (w0 := w) w.heap.size rfl 92 _ _ rfl g1 _ _ rfl rfl hg1 peristyleref01_Of.size rfl (arrB_one _) HB2 hb1 ?_; intro w3 hg2 HB3 hbs3 hgr3))
 have hne : g0 ≠ g1 := by have := blk_lt hg0; omega
 have hg02 := blk_grown (blk_grown hg0 hgr2 (by simp)) hgr3 (by simpa using hne)
 have A1 := Aside0.mk hg02
 have A2 := Aside0.mk hg2
 have A3 := Aside0.mk HB3
 have A4 := Aside0.mk hne
 have HG0 := Aside0.mk hb0
 clear hg0 hb0 hs0 HB1 hbs1 hgr1 hg1 hs1 HB2 hbs2 hgr2 hg2 HB3 hbs3 hgr3 hg02 hne
 go_loopw [4] (fun v4 wr => ∃ k : Nat, k ≤ 64 ∧ v4 = .int .i64 k ∧ Aside0 (wr.heap[g1]? = some (.cells (arrB (fillTo (bitAt a0) zB k)) 92 (0, 0))) ∧ Aside0 (wr.heap[g0]? = some (.cells (arrB zB) 92 (0, 0))) ∧ Aside0 (Below w.heap.size w wr)) (fun v4 _ => 64 - (intOf v4).toNat)
 case atStart => exact ⟨0, by omega, rfl, ⟨by rw [fillTo_zero]; exact A2.out⟩, ⟨A1.out⟩, ⟨A3.out⟩⟩
 case round =>
   obtain ⟨k, hk, rfl, B2, B1, B3⟩ := hrel
   by_cases hlt : k < 64
   ·have hc2 : wr.cell? ⟨g1, k, none⟩ = some (.bool (bAt (fillTo (bitAt a0) zB k) k)) := arrB_cell B2.out k (by rw [fillTo_length _ _ _ hk]; exact hlt)
    have hf : wr.frozen? ⟨g1, k, none⟩ = false := blk_frozen B2.out k
    generalize bAt (fillTo (bitAt a0) zB k) k = old at hc2
    have hk0 : (0 : Int) ≤ (k : Int) := by omega
    have hk1 : (k : Int) < 64 := by omega
    go_wp2
    go_roundw
    case rel =>
      have hset := arrB_put B2.out k (bitAt a0 k)
      rw [fillTo_set _ zB k hlt] at hset
      exact ⟨k + 1, by omega, by go_num, ⟨hset⟩, ⟨blk_far B1.out (fun e => A4.out e) _⟩, ⟨B3.out.setCell hb1 _⟩⟩
    case measure => simp [intOf]; omega
   ·have hk64 : ¬ (k : Int) < 64 := by omega
    obtain rfl : k = 64 := by omega
    clear hk64
    have hfin : fillTo (bitAt a0) zB 64 = bitsOf a0 := fillTo_all _ zB
    have B4 : Aside0 (wr.heap[g1]? = some (.cells (arrB (bitsOf a0)) 92 (0, 0))) := ⟨by rw [← hfin]; exact B2.out⟩
    have HL := Aside0.mk (bitsOf_length a0)
    have hg0b : w.heap.size ≤ g0 := HG0.out
    clear B2 hfin hlt
    go_wp2_with (first | ((with_reducible refine gate_dst (N := 17) rfl ?_); refine wpList_load_row rfl 92 _ rfl g1 rfl 92 _ (0, 0) _ B4.out Tryz.underlying92 rfl (by rw [arrB_size, HL.out]; exact peristyleref01_Of.size) ?_) | ((with_reducible refine gate_store (t := 92) (p := 2) rfl ?_); refine arr_store (w0 := w) w.heap.size rfl 92 _ _ rfl g0 _ _ rfl rfl B1.out (by rw [arrB_size, HL.out]; exact peristyleref01_Of.size) (by rw [arrB_size, arrB_size, HL.out]; rfl) (arrB_one _) B3.out hg0b ?_; intro w5 hg5 HB5 hbs5 hgr5))
    refine bodyPost_ret (results_cell_row rfl _ _ g0 92 (arrB (bitsOf a0)) (0, 0) _ rfl hg5 Tryz.underlying92 rfl (by rw [arrB_size, HL.out]; exact peristyleref01_Of.size)) rfl ⟨rfl, HB5⟩
/-! ### peristyleref01_Word: function 70 (a contract of the session's own) -/
set_option maxHeartbeats 800000 in
theorem peristyleref01_Word.calls (l : List Bool) (hl : l.length = 64) (w : World) :
    Calls Tryz.prog 70 #[.agg (arrB l)] w fun e w' => e = .returned (.int .i64 (wordTo l 64)) ∧ Below w.heap.size w w' := by
 have HL := Aside0.mk hl
 clear hl
 go_enter Tryz.func70, Tryz.ntmps70
 go_wp2_with (((with_reducible refine gate_dst (N := 1) rfl ?_); refine arr_box (w0 := w) w.heap.size rfl 92 _ rfl _ rfl (Below.refl _ _) (Nat.le_refl _) ?_; intro g0 w1 hg0 hb0 hs0 HB1 hbs1 hgr1))
 have A1 := Aside0.mk hg0
 have A2 := Aside0.mk HB1
 clear hg0 hs0 HB1 hbs1 hgr1
 go_loop [3, 4] (fun v3 v4 => ∃ k : Nat, k ≤ 64 ∧ v4 = .int .i64 k ∧ v3 = .int .i64 (wordTo l k)) (fun _ v4 => 64 - (intOf v4).toNat)
 case atStart => exact ⟨0, by omega, rfl, rfl⟩
 case round =>
   obtain ⟨k, hk, rfl, rfl⟩ := hrel
   by_cases hlt : k < 64
   ·have hc2 : w1.cell? ⟨g0, k, none⟩ = some (.bool (bAt l k)) := arrB_cell A1.out k (by rw [HL.out]; exact hlt)
    have hk0 : (0 : Int) ≤ (k : Int) := by omega
    have hk1 : (k : Int) < 64 := by omega
    have HS : Aside0 (wordTo l (k + 1) = if bAt l k = true then Go.bits .or .i64 (wordTo l k) (wrap64 (2 ^ k)) else wordTo l k) := ⟨rfl⟩
    generalize wordTo l k = acc at HS ⊢
    generalize bAt l k = b at hc2 HS
    cases b
    all_goals
      go_wp2
      go_round
      case rel => exact ⟨k + 1, by omega, by go_num, by rw [HS.out]; simp⟩
      case measure => simp [intOf]; omega
   ·have hk64 : ¬ (k : Int) < 64 := by omega
    obtain rfl : k = 64 := by omega
    clear hk64
    go_wp2
    go_ret
    exact ⟨rfl, A2.out⟩
/-! ### peristyleref01_With: function 44 (a contract of the session's own) -/
def peristyleref01_With.f (a0 a1 a2 a3 : Int) : Option (Int) := some (wordTo (putTo (bitsOf a0) (bitsOf a3) a1.toNat (fieldN a1 a2)) 64)
set_option maxHeartbeats 1600000 in
theorem peristyleref01_With.calls0 (a0 a1 a2 a3 : Int) (w : World) :
    Calls Tryz.prog 44 #[.int .i64 a0, .int .i64 a1, .int .i64 a2, .int .i64 a3] w fun e w' => e = .returned (.int .i64 (wordTo (putTo (bitsOf a0) (bitsOf a3) a1.toNat (fieldN a1 a2)) 64)) ∧ Below w.heap.size w w' := by
 go_enter Tryz.func44, Tryz.ntmps44
 go_wp2_with fail
 refine (peristyleref01_Of.calls a0 _).mono ?_
 rintro e w1 ⟨rfl, HB1⟩
 go_wp2_with fail
 refine (peristyleref01_Of.calls a3 _).mono ?_
 rintro e w2 ⟨rfl, HB2a⟩
 have HB2 := below_step HB1 HB2a
 go_wp2_with (first | ((with_reducible refine gate_dst (N := 9) rfl ?_); refine arr_alloc (w0 := w) w.heap.size rfl 92 rfl _ 64 peristyleref01_Of.zero HB2 HB2.size ?_; intro g0 w3 hg0 hb0 hs0 HB3 hbs3 hgr3) | ((with_reducible refine gate_dst (N := 10) rfl ?_); refine arr_alloc (w0 := w) w.heap.size rfl 92 rfl _ 64 peristyleref01_Of.zero HB3 hbs3 ?_; intro g1 w4 hg1 hb1 hs1 HB4 hbs4 hgr4) | ((with_reducible refine gate_store (t := 92) (p := 9) rfl ?_); refine arr_store (w0 := w) w.heap.size rfl 92 _ _ rfl g0 _ _ rfl rfl (blk_grown hg0 hgr4 (by simp)) (by rw [arrB_size, bitsOf_length]; exact peristyleref01_Of.size) (by rw [arrB_size, arrB_size, bitsOf_length]; rfl) (arrB_one _) HB4 hb0 ?_; intro w5 hg5 HB5 hbs5 hgr5) | ((with_reducible refine gate_store (t := 92) (p := 10) rfl ?_); have hne : g0 ≠ g1 := (by have := blk_lt hg0; omega); have hg15 := blk_grown hg1 hgr5 (by simpa using hne.symm); refine arr_store (w0 := w) w.heap.size rfl 92 _ _ rfl g1 _ _ rfl rfl hg15 (by rw [arrB_size, bitsOf_length]; exact peristyleref01_Of.size) (by rw [arrB_size, arrB_size, bitsOf_length]; rfl) (arrB_one _) HB5 hb1 ?_; intro w6 hg6 HB6 hbs6 hgr6; have hg06 := blk_grown hg5 hgr6 (by simpa using hne)))
 have A1 := Aside0.mk hg06
 have A2 := Aside0.mk hg6
 have A3 := Aside0.mk HB6
 have A4 := Aside0.mk hne
 clear HB1 HB2a HB2 hg0 hs0 HB3 hbs3 hgr3 hg1 hs1 HB4 hbs4 hgr4 hg5 HB5 hbs5 hgr5 hg15 hg6 HB6 hbs6 hgr6 hg06 hne
 go_loopw [11] (fun v11 wr => ∃ k : Nat, Aside0 (k ≤ fieldN a1 a2) ∧ v11 = .int .i64 k ∧ Aside0 (wr.heap[g0]? = some (.cells (arrB (putTo (bitsOf a0) (bitsOf a3) a1.toNat k)) 92 (0, 0))) ∧ Aside0 (wr.heap[g1]? = some (.cells (arrB (bitsOf a3)) 92 (0, 0))) ∧ Aside0 (Below w.heap.size w wr)) (fun v11 _ => 64 - (intOf v11).toNat)
 case atStart => exact ⟨0, ⟨Nat.zero_le _⟩, rfl, A1, A2, A3⟩
 case round =>
   clear A1 A2 A3
   obtain ⟨k, HK, rfl, C1, C2, C3⟩ := hrel
   have HL : Aside0 ((putTo (bitsOf a0) (bitsOf a3) a1.toNat k).length = 64) := ⟨by rw [putTo_length, bitsOf_length]⟩
   have hk0 : (0 : Int) ≤ (k : Int) := by omega
   by_cases hlt : k < fieldN a1 a2
   ·obtain ⟨h0, h1, h2, h3, h4⟩ := fieldN_in hlt
    obtain ⟨p, rfl⟩ := Int.eq_ofNat_of_zero_le h0
    have HLT := Aside0.mk hlt
    clear hlt
    have co : wr.cell? ⟨g0, p + k, none⟩ = some (.bool (bAt (putTo (bitsOf a0) (bitsOf a3) (p : Int).toNat k) (p + k))) := arrB_cell C1.out (p + k) (by rw [HL.out]; omega)
    have fo : wr.frozen? ⟨g0, p + k, none⟩ = false := blk_frozen C1.out (p + k)
    have cb : wr.cell? ⟨g1, k, none⟩ = some (.bool (bAt (bitsOf a3) k)) := arrB_cell C2.out k (by rw [bitsOf_length]; omega)
    generalize bAt (putTo (bitsOf a0) (bitsOf a3) (p : Int).toNat k) (p + k) = old at co
    go_wp2
    go_roundw
    case rel => exact ⟨k + 1, ⟨HLT.out⟩, by go_num, ⟨arrB_put C1.out (p + k) (bAt (bitsOf a3) k)⟩, ⟨blk_far C2.out (fun e => A4.out e.symm) _⟩, ⟨C3.out.setCell hb0 _⟩⟩
    case measure => simp [intOf]; omega
   ·have hkn : k = fieldN a1 a2 := by have := HK.out; omega
    have HX := Aside0.mk (fieldN_out hkn)
    have HF : Aside0 (wordTo (putTo (bitsOf a0) (bitsOf a3) a1.toNat k) 64 = wordTo (putTo (bitsOf a0) (bitsOf a3) a1.toNat (fieldN a1 a2)) 64) := ⟨by rw [← hkn]⟩
    clear hlt HK hkn
    rcases HX.out with hx | hx | hx | ⟨hx0, hx1, hx⟩
    all_goals
      clear HX
      by_cases h64 : (k : Int) < 64
    all_goals (by_cases hw : (k : Int) < a2)
    all_goals (by_cases hp : 0 ≤ a1)
    all_goals first | (exfalso; omega; done) | skip
    all_goals
      go_wp2_with (first | ((with_reducible refine gate_dst (N := 46) rfl ?_); refine wpList_load_row rfl 92 _ rfl g0 rfl 92 _ (0, 0) _ C1.out Tryz.underlying92 rfl (by rw [arrB_size, HL.out]; exact peristyleref01_Of.size) ?_) | (go_at_call 70; refine (peristyleref01_Word.calls _ HL.out _).mono ?_; rintro e w9 ⟨rfl, HB9⟩))
      go_ret
      exact ⟨by rw [← HF.out]; rfl, below_step C3.out HB9⟩
theorem peristyleref01_With.calls (a0 a1 a2 a3 : Int) (r : Int) (w : World) (h : peristyleref01_With.f a0 a1 a2 a3 = some r) :
    Calls Tryz.prog 44 #[.int .i64 a0, .int .i64 a1, .int .i64 a2, .int .i64 a3] w fun e w' => e = .returned (.int .i64 r) ∧ Below w.heap.size w w' := by
 obtain rfl := Option.some.inj h
 exact peristyleref01_With.calls0 a0 a1 a2 a3 w
/-! ### peristyleref01_Zag: function 45 (a contract of the session's own) -/
def zagAt (l : List Bool) (k : Nat) : Bool := bAt l (k + 1) != bAt l 0
def peristyleref01_Zag.f (a0 : Int) : Option (Int) := some (wordTo ((fillTo (zagAt (bitsOf a0)) zB 63).set 63 (bAt (bitsOf a0) 0)) 64)
set_option maxHeartbeats 1600000 in
theorem peristyleref01_Zag.calls0 (a0 : Int) (w : World) :
    Calls Tryz.prog 45 #[.int .i64 a0] w fun e w' => e = .returned (.int .i64 (wordTo ((fillTo (zagAt (bitsOf a0)) zB 63).set 63 (bAt (bitsOf a0) 0)) 64)) ∧ Below w.heap.size w w' := by
 go_enter Tryz.func45, Tryz.ntmps45
 go_wp2_with (first | (go_at_call 69; refine (peristyleref01_Of.calls a0 _).mono ?_; rintro e w1 ⟨rfl, HB1⟩) | ((with_reducible refine gate_dst (N := 3) rfl ?_); refine arr_alloc (w0 := w) w.heap.size rfl 92 rfl _ 64 peristyleref01_Of.zero HB1 HB1.size ?_; intro g0 w2 hg0 hb0 hs0 HB2 hbs2 hgr2) | ((with_reducible refine gate_store (t := 92) (p := 3) rfl ?_); refine arr_store (w0 := w) w.heap.size rfl 92 _ _ rfl g0 _ _ rfl rfl hg0 (by rw [arrB_size, bitsOf_length]; exact peristyleref01_Of.size) (by rw [arrB_size, arrB_size, bitsOf_length]; rfl) (arrB_one _) HB2 hb0 ?_; intro w3 hg3 HB3 hbs3 hgr3) | ((with_reducible refine gate_dst (N := 8) rfl ?_); refine arr_build rfl 92 rfl _ 64 4 64 peristyleref01_Of.zero Tryz.underlying92 peristyleref01_Of.elem ?_) | ((with_reducible refine gate_dst (N := 4) rfl ?_); refine arr_alloc (w0 := w) w.heap.size rfl 92 rfl _ 64 peristyleref01_Of.zero HB3 hbs3 ?_; intro g1 w4 hg1 hb1 hs1 HB4 hbs4 hgr4) | ((with_reducible refine gate_store (t := 92) (p := 4) rfl ?_); refine arr_store (w0 := w) w.heap.size rfl 92 _ _ rfl g1 _ _ rfl rfl hg1 peristyleref01_Of.size rfl (arrB_one _) HB4 hb1 ?_; intro w5 hg5 HB5 hbs5 hgr5))
 have hne : g0 ≠ g1 := by have := blk_lt hg3; omega
 have hg05 := blk_grown (blk_grown hg3 hgr4 (by simp)) hgr5 (by simpa using hne)
 have A1 := Aside0.mk hg05
 have A2 := Aside0.mk hg5
 have A3 := Aside0.mk HB5
 have A4 := Aside0.mk hne
 clear hg0 hs0 HB1 HB2 hbs2 hgr2 hg3 HB3 hbs3 hgr3 hg1 hs1 HB4 hbs4 hgr4 hg5 HB5 hbs5 hgr5 hne hg05
 go_loopw [5] (fun v5 wr => ∃ k : Nat, k ≤ 63 ∧ v5 = .int .i64 k ∧ Aside0 (wr.heap[g1]? = some (.cells (arrB (fillTo (zagAt (bitsOf a0)) zB k)) 92 (0, 0))) ∧ Aside0 (wr.heap[g0]? = some (.cells (arrB (bitsOf a0)) 92 (0, 0))) ∧ Aside0 (Below w.heap.size w wr)) (fun v5 _ => 63 - (intOf v5).toNat)
 case atStart => exact ⟨0, by omega, rfl, ⟨by rw [fillTo_zero]; exact A2.out⟩, A1, A3⟩
 case round =>
   clear A1 A2 A3
   obtain ⟨k, hk, rfl, C1, C2, C3⟩ := hrel
   have HL : Aside0 ((fillTo (zagAt (bitsOf a0)) zB k).length = 64) := ⟨fillTo_length _ zB k (by rw [zB_length]; omega)⟩
   have cb0 : wr.cell? ⟨g0, 0, none⟩ = some (.bool (bAt (bitsOf a0) 0)) := arrB_cell C2.out 0 (by rw [bitsOf_length]; omega)
   by_cases hlt : k < 63
   ·have co : wr.cell? ⟨g1, k, none⟩ = some (.bool (bAt (fillTo (zagAt (bitsOf a0)) zB k) k)) := arrB_cell C1.out k (by rw [HL.out]; omega)
    have fo : wr.frozen? ⟨g1, k, none⟩ = false := blk_frozen C1.out k
    have cb : wr.cell? ⟨g0, k + 1, none⟩ = some (.bool (bAt (bitsOf a0) (k + 1))) := arrB_cell C2.out (k + 1) (by rw [bitsOf_length]; omega)
    generalize bAt (fillTo (zagAt (bitsOf a0)) zB k) k = old at co
    have hk0 : (0 : Int) ≤ (k : Int) := by omega
    have hk1 : (k : Int) < 63 := by omega
    clear hk hlt
    go_wp2
    go_region
    go_wp2
    go_roundw
    case rel =>
      have hset := arrB_put C1.out k (zagAt (bitsOf a0) k)
      rw [fillTo_set _ zB k (by rw [zB_length]; omega)] at hset
      have hz : zagAt (bitsOf a0) k = !(bAt (bitsOf a0) (k + 1) == bAt (bitsOf a0) 0) := by simp [zagAt, bne]
      rw [hz] at hset
      exact ⟨k + 1, by omega, by go_num, ⟨hset⟩, ⟨blk_far C2.out (fun e => A4.out e) _⟩, ⟨below_drew (C3.out.setCell hb1 _)⟩⟩
    case measure => simp [intOf]; omega
   ·have hk64 : ¬ (k : Int) < 63 := by omega
    obtain rfl : k = 63 := by omega
    clear hk64 hlt hk
    have co : wr.cell? ⟨g1, 63, none⟩ = some (.bool (bAt (fillTo (zagAt (bitsOf a0)) zB 63) 63)) := arrB_cell C1.out 63 (by rw [HL.out]; omega)
    have fo : wr.frozen? ⟨g1, 63, none⟩ = false := blk_frozen C1.out 63
    have D1 : Aside0 ((wr.setCell ⟨g1, 63, none⟩ (.bool (bAt (bitsOf a0) 0))).heap[g1]? = some (.cells (arrB ((fillTo (zagAt (bitsOf a0)) zB 63).set 63 (bAt (bitsOf a0) 0))) 92 (0, 0))) := ⟨arrB_put C1.out 63 _⟩
    have D3 : Aside0 (Below w.heap.size w (wr.setCell ⟨g1, 63, none⟩ (.bool (bAt (bitsOf a0) 0)))) := ⟨C3.out.setCell hb1 _⟩
    have HL2 : Aside0 (((fillTo (zagAt (bitsOf a0)) zB 63).set 63 (bAt (bitsOf a0) 0)).length = 64) := ⟨by rw [List.length_set]; exact HL.out⟩
    clear C1 C2 C3 HL
    go_wp2_with (first | ((with_reducible refine gate_dst (N := 25) rfl ?_); refine wpList_load_row rfl 92 _ rfl g1 rfl 92 _ (0, 0) _ D1.out Tryz.underlying92 rfl (by rw [arrB_size, HL2.out]; exact peristyleref01_Of.size) ?_) | (go_at_call 70; refine (peristyleref01_Word.calls _ HL2.out _).mono ?_; rintro e w9 ⟨rfl, HB9⟩))
    go_ret
    exact ⟨rfl, below_step D3.out HB9⟩
theorem peristyleref01_Zag.calls (a0 : Int) (r : Int) (w : World) (h : peristyleref01_Zag.f a0 = some r) :
    Calls Tryz.prog 45 #[.int .i64 a0] w fun e w' => e = .returned (.int .i64 r) ∧ Below w.heap.size w w' := by
 obtain rfl := Option.some.inj h
 exact peristyleref01_Zag.calls0 a0 w
/-! ### peristyleref01_Zig: function 71 (a contract of the session's own) -/
def zigAt (l : List Bool) (k : Nat) : Bool := if k = 0 then bAt l 63 else (bAt l (k - 1) != bAt l 63)
def peristyleref01_Zig.f (a0 : Int) : Option (Int) := some (wordTo (fillTo (zigAt (bitsOf a0)) zB 64) 64)
set_option maxHeartbeats 1600000 in
theorem peristyleref01_Zig.calls0 (a0 : Int) (w : World) :
    Calls Tryz.prog 71 #[.int .i64 a0] w fun e w' => e = .returned (.int .i64 (wordTo (fillTo (zigAt (bitsOf a0)) zB 64) 64)) ∧ Below w.heap.size w w' := by
 go_enter Tryz.func71, Tryz.ntmps71
 go_wp2_with (first | (go_at_call 69; refine (peristyleref01_Of.calls a0 _).mono ?_; rintro e w1 ⟨rfl, HB1⟩) | ((with_reducible refine gate_dst (N := 3) rfl ?_); refine arr_alloc (w0 := w) w.heap.size rfl 92 rfl _ 64 peristyleref01_Of.zero HB1 HB1.size ?_; intro g0 w2 hg0 hb0 hs0 HB2 hbs2 hgr2) | ((with_reducible refine gate_store (t := 92) (p := 3) rfl ?_); refine arr_store (w0 := w) w.heap.size rfl 92 _ _ rfl g0 _ _ rfl rfl hg0 (by rw [arrB_size, bitsOf_length]; exact peristyleref01_Of.size) (by rw [arrB_size, arrB_size, bitsOf_length]; rfl) (arrB_one _) HB2 hb0 ?_; intro w3 hg3 HB3 hbs3 hgr3) | ((with_reducible refine gate_dst (N := 8) rfl ?_); refine arr_build rfl 92 rfl _ 64 4 64 peristyleref01_Of.zero Tryz.underlying92 peristyleref01_Of.elem ?_) | ((with_reducible refine gate_dst (N := 4) rfl ?_); refine arr_alloc (w0 := w) w.heap.size rfl 92 rfl _ 64 peristyleref01_Of.zero HB3 hbs3 ?_; intro g1 w4 hg1 hb1 hs1 HB4 hbs4 hgr4) | ((with_reducible refine gate_store (t := 92) (p := 4) rfl ?_); refine arr_store (w0 := w) w.heap.size rfl 92 _ _ rfl g1 _ _ rfl rfl hg1 peristyleref01_Of.size rfl (arrB_one _) HB4 hb1 ?_; intro w5 hg5 HB5 hbs5 hgr5; have hne : g0 ≠ g1 := (by have := blk_lt hg3; omega); have hg05 := blk_grown (blk_grown hg3 hgr4 (by simp)) hgr5 (by simpa using hne); have cb : w5.cell? ⟨g0, 63, none⟩ = some (.bool (bAt (bitsOf a0) 63)) := arrB_cell hg05 63 (by rw [bitsOf_length]; omega); have co : w5.cell? ⟨g1, 0, none⟩ = some (.bool (bAt zB 0)) := arrB_cell hg5 0 (by decide); have fo := blk_frozen hg5 0))
 have A1 := Aside0.mk hg05
 have A2 := Aside0.mk hg5
 have A3 := Aside0.mk HB5
 have A4 := Aside0.mk hne
 clear hg0 hs0 HB1 HB2 hbs2 hgr2 hg3 HB3 hbs3 hgr3 hg1 hs1 HB4 hbs4 hgr4 hg5 HB5 hbs5 hgr5 hne hg05
 have B1 : Aside0 ((w5.setCell ⟨g1, 0, none⟩ (.bool (bAt (bitsOf a0) 63))).heap[g1]? = some (.cells (arrB (fillTo (zigAt (bitsOf a0)) zB 1)) 92 (0, 0))) := ⟨by have := arrB_put A2.out 0 (zigAt (bitsOf a0) 0); rw [show zB.set 0 (zigAt (bitsOf a0) 0) = fillTo (zigAt (bitsOf a0)) zB 1 from by rw [← fillTo_set _ zB 0 (by decide), fillTo_zero]] at this; exact this⟩
 have B2 : Aside0 ((w5.setCell ⟨g1, 0, none⟩ (.bool (bAt (bitsOf a0) 63))).heap[g0]? = some (.cells (arrB (bitsOf a0)) 92 (0, 0))) := ⟨blk_far A1.out (fun e => A4.out e) _⟩
 have B3 : Aside0 (Below w.heap.size w (w5.setCell ⟨g1, 0, none⟩ (.bool (bAt (bitsOf a0) 63)))) := ⟨A3.out.setCell hb1 _⟩
 clear cb co fo A1 A2 A3
 go_loopw [5] (fun v5 wr => ∃ k : Nat, 1 ≤ k ∧ k ≤ 64 ∧ v5 = .int .i64 k ∧ Aside0 (wr.heap[g1]? = some (.cells (arrB (fillTo (zigAt (bitsOf a0)) zB k)) 92 (0, 0))) ∧ Aside0 (wr.heap[g0]? = some (.cells (arrB (bitsOf a0)) 92 (0, 0))) ∧ Aside0 (Below w.heap.size w wr)) (fun v5 _ => 64 - (intOf v5).toNat)
 case atStart => exact ⟨1, by omega, by omega, rfl, B1, B2, B3⟩
 case round =>
   clear B1 B2 B3
   obtain ⟨k, h1, hk, rfl, C1, C2, C3⟩ := hrel
   have HL : Aside0 ((fillTo (zigAt (bitsOf a0)) zB k).length = 64) := ⟨fillTo_length _ zB k hk⟩
   by_cases hlt : k < 64
   ·obtain ⟨m, rfl⟩ : ∃ m, k = m + 1 := ⟨k - 1, by omega⟩
    have e1 : ((m + 1 : Nat) : Int) = (m : Int) + 1 := by omega
    have co : wr.cell? ⟨g1, m + 1, none⟩ = some (.bool (bAt (fillTo (zigAt (bitsOf a0)) zB (m + 1)) (m + 1))) := arrB_cell C1.out (m + 1) (by rw [HL.out]; omega)
    have fo : wr.frozen? ⟨g1, m + 1, none⟩ = false := blk_frozen C1.out (m + 1)
    have cb : wr.cell? ⟨g0, m, none⟩ = some (.bool (bAt (bitsOf a0) m)) := arrB_cell C2.out m (by rw [bitsOf_length]; omega)
    have cb63 : wr.cell? ⟨g0, 63, none⟩ = some (.bool (bAt (bitsOf a0) 63)) := arrB_cell C2.out 63 (by rw [bitsOf_length]; omega)
    generalize bAt (fillTo (zigAt (bitsOf a0)) zB (m + 1)) (m + 1) = old at co
    have hk0 : (0 : Int) ≤ (m : Int) := by omega
    have hk1 : (m : Int) < 63 := by omega
    rw [e1]
    clear e1 h1 hk hlt
    go_wp2
    go_region
    go_wp2
    go_roundw
    case rel =>
      have hset := arrB_put C1.out (m + 1) (zigAt (bitsOf a0) (m + 1))
      rw [fillTo_set _ zB (m + 1) (by rw [zB_length]; omega)] at hset
      have hz : zigAt (bitsOf a0) (m + 1) = !(bAt (bitsOf a0) m == bAt (bitsOf a0) 63) := by simp [zigAt, bne]
      rw [hz] at hset
      exact ⟨m + 2, by omega, by omega, by go_num, ⟨hset⟩, ⟨blk_far C2.out (fun e => A4.out e) _⟩, ⟨below_drew (C3.out.setCell hb1 _)⟩⟩
    case measure => simp [intOf]; omega
   ·have hk64 : ¬ (k : Int) < 64 := by omega
    obtain rfl : k = 64 := by omega
    clear hk64 hlt h1 hk
    go_wp2_with (first | ((with_reducible refine gate_dst (N := 25) rfl ?_); refine wpList_load_row rfl 92 _ rfl g1 rfl 92 _ (0, 0) _ C1.out Tryz.underlying92 rfl (by rw [arrB_size, HL.out]; exact peristyleref01_Of.size) ?_) | (go_at_call 70; refine (peristyleref01_Word.calls _ HL.out _).mono ?_; rintro e w9 ⟨rfl, HB9⟩))
    go_ret
    exact ⟨rfl, below_step C3.out HB9⟩
theorem peristyleref01_Zig.calls (a0 : Int) (r : Int) (w : World) (h : peristyleref01_Zig.f a0 = some r) :
    Calls Tryz.prog 71 #[.int .i64 a0] w fun e w' => e = .returned (.int .i64 r) ∧ Below w.heap.size w w' := by
 obtain rfl := Option.some.inj h
 exact peristyleref01_Zig.calls0 a0 w
end Go.Proofs.YtfohecpfenegkaaGreat.Print
end
section
namespace Go.Proofs.YtfohecpfenegkaaGreat.Print
open Go.RowKit Go.Proofs.YtfohecpfenegkaaGreatW.PrintWords Go.Proofs.YtfohecpfenegkaaGreatW.PrintLast Go.Proofs.YtfohecpfenegkaaGreatW.PrintMore
attribute [local go_sem] max2_int min2_int max_two min_two max_three min_three max_four min_four   -- for this text's walks alone
set_option linter.unusedVariables false
set_option linter.unusedSimpArgs false
/-! ### peristyleref01_Field: function 72 (a contract of the session's own) -/
def peristyleref01_Field.f (a0 a1 a2 : Int) : Option (Int) := some (wordTo (fillTo (fun k => bAt (bitsOf a0) (a1.toNat + k)) zB (fieldN a1 a2)) 64)
set_option maxHeartbeats 1600000 in
theorem peristyleref01_Field.calls0 (a0 a1 a2 : Int) (w : World) :
    Calls Tryz.prog 72 #[.int .i64 a0, .int .i64 a1, .int .i64 a2] w fun e w' => e = .returned (.int .i64 (wordTo (fillTo (fun k => bAt (bitsOf a0) (a1.toNat + k)) zB (fieldN a1 a2)) 64)) ∧ Below w.heap.size w w' := by
 go_enter Tryz.func72, Tryz.ntmps72
 go_wp2_with (first | (go_at_call 69; refine (peristyleref01_Of.calls a0 _).mono ?_; rintro e w1 ⟨rfl, HB1⟩) | ((with_reducible refine gate_dst (N := 7) rfl ?_); refine arr_alloc (w0 := w) w.heap.size rfl 92 rfl _ 64 peristyleref01_Of.zero HB1 HB1.size ?_; intro g0 w2 hg0 hb0 hs0 HB2 hbs2 hgr2) | ((with_reducible refine gate_store (t := 92) (p := 7) rfl ?_); refine arr_store (w0 := w) w.heap.size rfl 92 _ _ rfl g0 _ _ rfl rfl hg0 (by rw [arrB_size, bitsOf_length]; exact peristyleref01_Of.size) (by rw [arrB_size, arrB_size, bitsOf_length]; rfl) (arrB_one _) HB2 hb0 ?_; intro w3 hg3 HB3 hbs3 hgr3) | ((with_reducible refine gate_dst (N := 12) rfl ?_); refine arr_build rfl 92 rfl _ 64 4 64 peristyleref01_Of.zero Tryz.underlying92 peristyleref01_Of.elem ?_) | ((with_reducible refine gate_dst (N := 8) rfl ?_); refine arr_alloc (w0 := w) w.heap.size rfl 92 rfl _ 64 peristyleref01_Of.zero HB3 hbs3 ?_; intro g1 w4 hg1 hb1 hs1 HB4 hbs4 hgr4) | ((with_reducible refine gate_store (t := 92) (p := 8) rfl ?_); refine arr_store (w0 := w) w.heap.size rfl 92 _ _ rfl g1 _ _ rfl rfl hg1 peristyleref01_Of.size rfl (arrB_one _) HB4 hb1 ?_; intro w5 hg5 HB5 hbs5 hgr5))
 have hne : g0 ≠ g1 := by have := blk_lt hg3; omega
 have hg05 := blk_grown (blk_grown hg3 hgr4 (by simp)) hgr5 (by simpa using hne)
 have A1 := Aside0.mk hg05
 have A2 := Aside0.mk hg5
 have A3 := Aside0.mk HB5
 have A4 := Aside0.mk hne
 clear hg0 hs0 HB1 HB2 hbs2 hgr2 hg3 HB3 hbs3 hgr3 hg1 hs1 HB4 hbs4 hgr4 hg5 HB5 hbs5 hgr5 hne hg05
 go_loopw [9] (fun v9 wr => ∃ k : Nat, Aside0 (k ≤ fieldN a1 a2) ∧ v9 = .int .i64 k ∧ Aside0 (wr.heap[g1]? = some (.cells (arrB (fillTo (fun k => bAt (bitsOf a0) (a1.toNat + k)) zB k)) 92 (0, 0))) ∧ Aside0 (wr.heap[g0]? = some (.cells (arrB (bitsOf a0)) 92 (0, 0))) ∧ Aside0 (Below w.heap.size w wr)) (fun v9 _ => 64 - (intOf v9).toNat)
 case atStart => exact ⟨0, ⟨Nat.zero_le _⟩, rfl, ⟨by rw [fillTo_zero]; exact A2.out⟩, A1, A3⟩
 case round =>
   clear A1 A2 A3
   obtain ⟨k, HK, rfl, C1, C2, C3⟩ := hrel
   have HL : Aside0 ((fillTo (fun k => bAt (bitsOf a0) (a1.toNat + k)) zB k).length = 64) := ⟨fillTo_length _ zB k (Nat.le_trans HK.out (fieldN_le _ _))⟩
   have hk0 : (0 : Int) ≤ (k : Int) := by omega
   by_cases hlt : k < fieldN a1 a2
   ·obtain ⟨h0, h1, h2, h3, h4⟩ := fieldN_in hlt
    obtain ⟨p, rfl⟩ := Int.eq_ofNat_of_zero_le h0
    have HLT := Aside0.mk hlt
    clear hlt
    have co : wr.cell? ⟨g1, k, none⟩ = some (.bool (bAt (fillTo (fun k => bAt (bitsOf a0) ((p : Int).toNat + k)) zB k) k)) := arrB_cell C1.out k (by rw [HL.out]; omega)
    have fo : wr.frozen? ⟨g1, k, none⟩ = false := blk_frozen C1.out k
    have cb : wr.cell? ⟨g0, p + k, none⟩ = some (.bool (bAt (bitsOf a0) (p + k))) := arrB_cell C2.out (p + k) (by rw [bitsOf_length]; omega)
    generalize bAt (fillTo (fun k => bAt (bitsOf a0) ((p : Int).toNat + k)) zB k) k = old at co
    go_wp2
    go_roundw
    case rel =>
      have hset := arrB_put C1.out k (bAt (bitsOf a0) (p + k))
      rw [show bAt (bitsOf a0) (p + k) = (fun k => bAt (bitsOf a0) ((p : Int).toNat + k)) k from rfl, fillTo_set _ zB k (by rw [zB_length]; omega)] at hset
      exact ⟨k + 1, ⟨HLT.out⟩, by go_num, ⟨hset⟩, ⟨blk_far C2.out (fun e => A4.out e) _⟩, ⟨C3.out.setCell hb1 _⟩⟩
    case measure => simp [intOf]; omega
   ·have hkn : k = fieldN a1 a2 := by have := HK.out; omega
    have HX := Aside0.mk (fieldN_out hkn)
    have HF : Aside0 (wordTo (fillTo (fun k => bAt (bitsOf a0) (a1.toNat + k)) zB k) 64 = wordTo (fillTo (fun k => bAt (bitsOf a0) (a1.toNat + k)) zB (fieldN a1 a2)) 64) := ⟨by rw [← hkn]⟩
    clear hlt HK hkn
    rcases HX.out with hx | hx | hx | ⟨hx0, hx1, hx⟩
    all_goals
      clear HX
      by_cases h64 : (k : Int) < 64
    all_goals (by_cases hw : (k : Int) < a2)
    all_goals (by_cases hp : 0 ≤ a1)
    all_goals first | (exfalso; omega; done) | skip
    all_goals
      go_wp2_with (first | ((with_reducible refine gate_dst (N := 43) rfl ?_); refine wpList_load_row rfl 92 _ rfl g1 rfl 92 _ (0, 0) _ C1.out Tryz.underlying92 rfl (by rw [arrB_size, HL.out]; exact peristyleref01_Of.size) ?_) | (go_at_call 70; refine (peristyleref01_Word.calls _ HL.out _).mono ?_; rintro e w9 ⟨rfl, HB9⟩))
      go_ret
      exact ⟨by rw [← HF.out]; rfl, below_step C3.out HB9⟩
theorem peristyleref01_Field.calls (a0 a1 a2 : Int) (r : Int) (w : World) (h : peristyleref01_Field.f a0 a1 a2 = some r) :
    Calls Tryz.prog 72 #[.int .i64 a0, .int .i64 a1, .int .i64 a2] w fun e w' => e = .returned (.int .i64 r) ∧ Below w.heap.size w w' := by
 obtain rfl := Option.some.inj h
 exact peristyleref01_Field.calls0 a0 a1 a2 w
/-! ### peristyleref02_Put: function 46 -/
def peristyleref02_Put.l0 : Nat → Int → List Int → Option (ByteArray)
 | 0, _, _ => none
 | k + 1, x3, x4 => (peristyleref01_Field.f x3 0 7).bind fun t243 => ((peristyleref01_Field.f x3 7 64).bind fun t244 => (if t244 = 0 then (if x4.length < 140737488355328 then (some (strOfNums (x4 ++ [(t243) % 256]))) else (none)) else (if x4.length < 140737488355328 then (peristyleref02_Put.l0 k t244 (x4 ++ [(wrap64 (128 + t243)) % 256])) else (none))))
def peristyleref02_Put.f (k : Nat) (a0 : Int) : Option (ByteArray) := (peristyleref01_Zig.f a0).bind fun t242 => (peristyleref02_Put.l0 k t242 ([] : List Int))
theorem peristyleref02_Put.l0_succ (k) (a0) (a1) : type_of% (@peristyleref02_Put.l0.eq_2 a0 a1 k) := peristyleref02_Put.l0.eq_2 a0 a1 k
set_option maxHeartbeats 8000000 in
set_option maxRecDepth 100000 in
theorem peristyleref02_Put.calls (k : Nat) (a0 : Int) (r : ByteArray) (w : World) (h : peristyleref02_Put.f k a0 = some r) :
  Calls Tryz.prog 46 #[.int .i64 a0] w fun e w' => e = .returned (.string r) ∧ Below w.heap.size w w' := by
 have HB := Aside0.mk (Below.refl w.heap.size w)
 have H := h
 clear h
 unfold peristyleref02_Put.f at H
 replace H := bd H
 obtain ⟨t242, A2, H⟩ := H
 have H' := Aside0.mk H
 clear H
 go_enter Tryz.func46, Tryz.ntmps46
 go_wp2_with (((with_reducible refine gate_callee (f := 71) rfl ?_); refine gL 7 Tryz.func71 #[.int .i64 a0] ?_; (with_reducible refine (peristyleref01_Zig.calls a0 t242 _ A2.out).mono ?_); rintro e w3 ⟨rfl, hb⟩; refine ⟨_, rfl, ?_⟩; replace HB := bsa HB hb; clear hb))
 go_loopg [3, 4] k (fun kq v3 v4 w' => ∃ (x3_1 : Int) (x4_1 : List Int), v3 = .int .i64 x3_1 ∧ Aside0 (peristyleref02_Put.l0 kq x3_1 x4_1 = some r) ∧ Aside0 (kq ≤ k) ∧ Aside0 (Kd.R (Kd.int .u8) 5 w' w.heap.size (fun _ => True) v4 x4_1) ∧ Aside0 (Below w.heap.size w w'))
 case atStart => exact ⟨(t242), (([] : List Int)), (by rfl), H', ⟨Nat.le_refl _⟩, ⟨nl⟩, ⟨bh HB.out⟩⟩
 case round =>
  clear H'
  obtain ⟨x3_1, x4_1, rfl, HA, HK1, HO_4, HB⟩ := hrel
  cases gk with
  | zero => exact absurd HA.out (by simp [peristyleref02_Put.l0])
  | succ k1 =>
   have H := HA.out
   clear HA
   simp only [peristyleref02_Put.l0] at H
   replace H := bd H
   obtain ⟨t243, A4, H⟩ := H
   replace H := bd H
   obtain ⟨t244, A5, H⟩ := H
   replace H := ife H
   rcases H with ⟨-, c6b0, c6b1, H⟩ | ⟨c6, c6b0, c6b1, H⟩
   ·replace H := ifn H
    obtain ⟨c7, -, H⟩ := H
    have LMc7 := Aside0.mk c7
    clear c7
    obtain ⟨y245, hy245⟩ : ∃ y_ : List Int, y_ = (x4_1 ++ [(t243) % 256]) := ⟨_, rfl⟩
    replace H : (some (strOfNums y245)) = some r := by (rw [hy245]; with_reducible exact H)
    have Ny245 := Aside0.mk hy245
    clear hy245
    obtain rfl := Option.some.inj H
    go_wp2_with (first | ((with_reducible refine gate_callee (f := 72) rfl ?_); refine gL 9 Tryz.func72 #[.int .i64 x3_1, .int .i64 0, .int .i64 7] ?_; (with_reducible refine (peristyleref01_Field.calls x3_1 0 7 t243 _ A4.out).mono ?_); rintro e w8 ⟨rfl, hb⟩; refine ⟨_, rfl, ?_⟩; replace HO_4 := rba HO_4 hb; replace HB := bsa HB hb; clear hb) | ((with_reducible refine gate_callee (f := 72) rfl ?_); refine gL 11 Tryz.func72 #[.int .i64 x3_1, .int .i64 7, .int .i64 64] ?_; (with_reducible refine (peristyleref01_Field.calls x3_1 7 64 t244 _ A5.out).mono ?_); rintro e w9 ⟨rfl, hb⟩; refine ⟨_, rfl, ?_⟩; replace HO_4 := rba HO_4 hb; replace HB := bsa HB hb; clear hb) | ((with_reducible refine gate_builtin (b := .append) (xs := #[.tmp 14, .tmp 17]) rfl ?_); at_builtin; refine Kd.R_append (Kd.int .u8) (w0 := w) w.heap.size rfl (.tmp 14) (.tmp 17) 76 5 (.int .u8 0) 1 rfl Tryz.underlying76 info5 rfl (by decide) (by omega) u4 x4_1 ((t243) % 256) [.int .u8 ((t243) % 256)] (fun _ => True) (fun _ => False) rfl rfl ?aP (fun _ hk => hk.elim) ?aF ?aO ?aB ?aS ?aL ?_; (case aP => exact rfl); (case aB => exact (bh HB.out)); (case aF => exact (fun _ _ => trivial)); (case aO => exact (rx HO_4.out)); (case aS => exact (below_size (bh HB.out))); (case aL => have := LMc7.out; omega); intro v246 w10 ho hb hg hat; rw [← Ny245.out] at ho; have n0_ := Aside0.mk (hb); have n1_ := Aside0.mk (ho); clear HB HO_4; have HB := n0_; have HO247 := n1_; clear n0_ n1_ ho hb hg hat; have hcv11 := own_string (P := Tryz.prog) Tryz.underlying76 Tryz.underlying5 Tryz.underlying9 (Kd.own_of_R HO247.out)))
    go_ret
    exact ⟨er, bh HB.out⟩
   ·replace H := ifn H
    obtain ⟨c12, -, H⟩ := H
    have LMc12 := Aside0.mk c12
    clear c12
    obtain ⟨y248, hy248⟩ : ∃ y_ : List Int, y_ = (x4_1 ++ [(wrap64 (128 + t243)) % 256]) := ⟨_, rfl⟩
    replace H : (peristyleref02_Put.l0 k1 t244 y248) = some r := by (rw [hy248]; with_reducible exact H)
    have Ny248 := Aside0.mk hy248
    clear hy248
    have H' := Aside0.mk H
    clear H
    go_wp2_with (first | ((with_reducible refine gate_callee (f := 72) rfl ?_); refine gL 9 Tryz.func72 #[.int .i64 x3_1, .int .i64 0, .int .i64 7] ?_; (with_reducible refine (peristyleref01_Field.calls x3_1 0 7 t243 _ A4.out).mono ?_); rintro e w13 ⟨rfl, hb⟩; refine ⟨_, rfl, ?_⟩; replace HO_4 := rba HO_4 hb; replace HB := bsa HB hb; clear hb) | ((with_reducible refine gate_callee (f := 72) rfl ?_); refine gL 11 Tryz.func72 #[.int .i64 x3_1, .int .i64 7, .int .i64 64] ?_; (with_reducible refine (peristyleref01_Field.calls x3_1 7 64 t244 _ A5.out).mono ?_); rintro e w14 ⟨rfl, hb⟩; refine ⟨_, rfl, ?_⟩; replace HO_4 := rba HO_4 hb; replace HB := bsa HB hb; clear hb) | ((with_reducible refine gate_builtin (b := .append) (xs := #[.tmp 20, .tmp 24]) rfl ?_); at_builtin; refine Kd.R_append (Kd.int .u8) (w0 := w) w.heap.size rfl (.tmp 20) (.tmp 24) 76 5 (.int .u8 0) 1 rfl Tryz.underlying76 info5 rfl (by decide) (by omega) u4 x4_1 ((wrap64 (128 + t243)) % 256) [.int .u8 ((wrap64 (128 + t243)) % 256)] (fun _ => True) (fun _ => False) rfl rfl ?aP (fun _ hk => hk.elim) ?aF ?aO ?aB ?aS ?aL ?_; (case aP => exact rfl); (case aB => exact (bh HB.out)); (case aF => exact (fun _ _ => trivial)); (case aO => exact (rx HO_4.out)); (case aS => exact (below_size (bh HB.out))); (case aL => have := LMc12.out; omega); intro v249 w15 ho hb hg hat; rw [← Ny248.out] at ho; have n0_ := Aside0.mk (hb); have n1_ := Aside0.mk (ho); clear HB HO_4; have HB := n0_; have HO250 := n1_; clear n0_ n1_ ho hb hg hat))
    go_roundg k1
    case measure => have := HK1.out; omega
    case rel => exact ⟨(t244), (y248), (by rfl), H', ⟨by have := HK1.out; omega⟩, ⟨by exact HO250.out⟩, ⟨bh HB.out⟩⟩
/-! ### peristyleref02_Take: function 21 -/
mutual
def peristyleref02_Take.l0 : Nat → ByteArray → Int → Int → Option (Int × Int × Int)
 | 0, _, _, _ => none
 | k + 1, x0, x5, x6 => if x6 < (x0.size : Int) then (peristyleref02_Take.j1 k x0 x5 x6 (decide (x6 < 10))) else (peristyleref02_Take.j1 k x0 x5 x6 false)
def peristyleref02_Take.j1 : Nat → ByteArray → Int → Int → Bool → Option (Int × Int × Int)
 | 0, _, _, _, _ => none
 | k + 1, x0, x5, x6, x15 => if x15 = true then (if 0 ≤ x6 then (if x6 < (x0.size : Int) then ((peristyleref01_With.f x5 (wrap64 (7 * x6)) 7 (wrap64 (Go.bits .and .u8 (bt x0 x6) 127))).bind fun t251 => (if (bt x0 x6) < 128 then ((peristyleref01_Zag.f t251).bind fun t252 => ((peristyleref02_Put.f k t252).bind fun t253 => (if 0 ≤ (wrap64 (x6 + 1)) then (if (wrap64 (x6 + 1)) ≤ (x0.size : Int) then (if t253.toList = (x0.extract 0 ((wrap64 (x6 + 1)) : Int).toNat).toList then (some (t252, wrap64 (x6 + 1), 0)) else (some (0, 0, 20))) else (none)) else (none)))) else (peristyleref02_Take.l0 k x0 t251 (wrap64 (x6 + 1))))) else (none)) else (none)) else (some (0, 0, 20))
end
def peristyleref02_Take.f (k : Nat) (a0 : ByteArray) : Option (Int × Int × Int) := peristyleref02_Take.l0 k a0 0 0
theorem peristyleref02_Take.l0_succ (k) (a0) (a1) (a2) : type_of% (@peristyleref02_Take.l0.eq_2 a0 a1 a2 k) := peristyleref02_Take.l0.eq_2 a0 a1 a2 k
theorem peristyleref02_Take.j1_succ (k) (a0) (a1) (a2) (a3) : type_of% (@peristyleref02_Take.j1.eq_2 a0 a1 a2 a3 k) := peristyleref02_Take.j1.eq_2 a0 a1 a2 a3 k
set_option maxHeartbeats 8000000 in
set_option maxRecDepth 100000 in
theorem peristyleref02_Take.calls (k : Nat) (a0 : ByteArray) (r1 : Int) (r2 : Int) (r3 : Int) (w : World) (h : peristyleref02_Take.f k a0 = some (r1, r2, r3)) :
  Calls Tryz.prog 21 #[.string a0] w fun e w' => e = .returned (.tuple #[.int .i64 r1, .int .i64 r2, .int .i64 r3]) ∧ Below w.heap.size w w' := by
 have HB := Aside0.mk (Below.refl w.heap.size w)
 have H := h
 clear h
 unfold peristyleref02_Take.f at H
 have H' := Aside0.mk H
 clear H
 go_enter Tryz.func21, Tryz.ntmps21
 go_wp2
 go_loopg [5, 6] k (fun kq v5 v6 w' => ∃ (x5_1 : Int) (x6_1 : Int), v5 = .int .i64 x5_1 ∧ v6 = .int .i64 x6_1 ∧ Aside0 (peristyleref02_Take.l0 kq a0 x5_1 x6_1 = some (r1, r2, r3)) ∧ Aside0 (kq ≤ k) ∧ Aside0 (Below w.heap.size w w'))
 case atStart => exact ⟨(0), (0), (by rfl), (by rfl), H', ⟨Nat.le_refl _⟩, ⟨bh HB.out⟩⟩
 case round =>
  clear H'
  obtain ⟨x5_1, x6_1, rfl, rfl, HA, HK1, HB⟩ := hrel
  cases gk with
  | zero => exact absurd HA.out (by simp [peristyleref02_Take.l0])
  | succ k1 =>
   have H := HA.out
   clear HA
   simp only [peristyleref02_Take.l0] at H
   have HC2 := Aside0.mk H
   clear H
   go_upto_region 3 with (fail)
   go_cut [15] (fun v15 wc => ∃ (kq : Nat) (x15_1 : Bool), v15 = .bool x15_1 ∧ Aside0 (peristyleref02_Take.j1 kq a0 x5_1 x6_1 x15_1 = some (r1, r2, r3)) ∧ Aside0 (kq ≤ k1) ∧ Aside0 (Below w.heap.size w wc))
   case first =>
    have H := HC2.out
    clear HC2
    replace H := ifd H
    rcases H with ⟨-, c3b0, H⟩ | ⟨-, c3b0, H⟩
    ·(skip)
     have H' := Aside0.mk H
     clear H
     go_wp2
     go_meet
     case rel => exact ⟨_, (decide (x6_1 < 10)), (by rfl), H', ⟨by have := HK1.out; omega⟩, ⟨bh HB.out⟩⟩
    ·(skip)
     have H' := Aside0.mk H
     clear H
     go_wp2
     go_meet
     case rel => exact ⟨_, (false), (by rfl), H', ⟨by have := HK1.out; omega⟩, ⟨bh HB.out⟩⟩
   case rest =>
    clear HC2
    obtain ⟨kq, x15_1, rfl, HA, HJ1, HB⟩ := hcut
    cases kq with
    | zero => exact absurd HA.out (by simp [peristyleref02_Take.j1])
    | succ kj1 =>
     have H := HA.out
     clear HA
     simp only [peristyleref02_Take.j1] at H
     replace H := ifb H
     rcases H with ⟨rfl, H⟩ | ⟨rfl, H⟩
     ·replace H := ifn H
      obtain ⟨-, c5b0, H⟩ := H
      replace H := ifn H
      obtain ⟨-, c6b0, H⟩ := H
      replace H := bd H
      obtain ⟨t251, A8, H⟩ := H
      replace H := ifd H
      rcases H with ⟨-, c10b0, H⟩ | ⟨-, c10b0, H⟩
      ·replace H := bd H
       obtain ⟨t252, A11, H⟩ := H
       replace H := bd H
       obtain ⟨t253, A12, H⟩ := H
       obtain ⟨ji13, hji13⟩ : ∃ j_ : Int, (wrap64 (x6_1 + 1)) = j_ := ⟨_, rfl⟩
       replace H : (if 0 ≤ (ji13) then (if (ji13) ≤ (a0.size : Int) then (if t253.toList = (a0.extract 0 ((ji13) : Int).toNat).toList then (some (t252, ji13, 0)) else (some (0, 0, 20))) else (none)) else (none)) = some (r1, r2, r3) := by (rw [hji13] at H; exact H)
       have hji13w : (IntKind.i64.wrap (x6_1 + 1)) = ji13 := (i64_w _).trans hji13
       replace H := ifn H
       obtain ⟨c14, -, H⟩ := H
       have c14b0 := eq_true c14
       have c14b1 : decide (0 ≤ (ji13)) = true := decide_eq_true c14
       clear c14
       replace H := ifn H
       obtain ⟨c15, -, H⟩ := H
       have c15b0 := eq_true c15
       have c15b1 : decide ((ji13) ≤ (a0.size : Int)) = true := decide_eq_true c15
       clear c15
       replace H := ife H
       rcases H with ⟨-, c16b0, c16b1, H⟩ | ⟨c16, c16b0, c16b1, H⟩
       ·simp only [Option.some.injEq, Prod.mk.injEq] at H
        obtain ⟨rfl, rfl, rfl⟩ := H
        have p7 : 0 ≤ (x6_1 : Int) := ad
        have q7 : x6_1 < (a0.size : Int) := ad
        have hx7 := bt_at a0 x6_1
        replace p7 := eq_true p7
        replace q7 := eq_true q7
        go_wp2_with (first | ((with_reducible refine gate_callee (f := 44) rfl ?_); refine gL 26 Tryz.func44 #[.int .i64 x5_1, .int .i64 (wrap64 (7 * x6_1)), .int .i64 7, .int .i64 (wrap64 (Go.bits .and .u8 (bt a0 x6_1) 127))] ?_; (with_reducible refine (peristyleref01_With.calls x5_1 (wrap64 (7 * x6_1)) 7 (wrap64 (Go.bits .and .u8 (bt a0 x6_1) 127)) t251 _ A8.out).mono ?_); rintro e w17 ⟨rfl, hb⟩; refine ⟨_, rfl, ?_⟩; replace HB := bsa HB hb; clear hb; have p9 : 0 ≤ (x6_1 : Int) := ad; have q9 : x6_1 < (a0.size : Int) := ad; have hx9 := bt_at a0 x6_1; replace p9 := eq_true p9; replace q9 := eq_true q9) | ((with_reducible refine gate_callee (f := 45) rfl ?_); refine gL 32 Tryz.func45 #[.int .i64 t251] ?_; (with_reducible refine (peristyleref01_Zag.calls t251 t252 _ A11.out).mono ?_); rintro e w18 ⟨rfl, hb⟩; refine ⟨_, rfl, ?_⟩; replace HB := bsa HB hb; clear hb))
        replace HB := Aside0.mk (below_drew1 HB.out)
        refine start_ (n := 7) (S := fun w' => True) (ds := []) #[false, false, false, false, false, false, false] (by kernel_rfl) rfl rfl trivial (fun hHeld => ?_)
        generalize w18.drew = w19 at HB hHeld ⊢
        refine pure_ (i := 0) (N := some 33) (v := ?_) (a' := ?_) #[true, false, false, false, false, false, false] rfl rfl (by kernel_rfl) (fun _ _ _ h => h) (Or.inl ⟨by rfl, ?_⟩) ?_ ?_
        rotate_left
        ·intro w'
         go_simp
         with_reducible rfl
        rotate_left
        ·simp only [Act.put, List.setIfInBounds_toArray, List.set_cons_zero, List.set_cons_succ, i64_w, i32_w]
         rfl
        refine pure_ (i := 2) (N := some 35) (v := ?_) (a' := ?_) #[true, false, true, false, false, false, false] rfl rfl (by kernel_rfl) (fun _ _ _ h => h) (Or.inl ⟨by rfl, ?_⟩) ?_ ?_
        rotate_left
        ·intro w'
         go_simp
         with_reducible rfl
        rotate_left
        ·simp only [Act.put, List.setIfInBounds_toArray, List.set_cons_zero, List.set_cons_succ, i64_w, i32_w]
         rfl
        refine pure_ (i := 3) (N := some 36) (v := ?_) (a' := ?_) #[true, false, true, true, false, false, false] rfl rfl (by kernel_rfl) (fun _ _ _ h => h) (Or.inl ⟨by rfl, ?_⟩) ?_ ?_
        rotate_left
        ·intro w'
         go_simp
         with_reducible rfl
        rotate_left
        ·simp only [Act.put, List.setIfInBounds_toArray, List.set_cons_zero, List.set_cons_succ, i64_w, i32_w]
         rfl
        refine pure_ (i := 4) (N := some 37) (v := ?_) (a' := ?_) #[true, false, true, true, true, false, false] rfl rfl (by kernel_rfl) (fun _ _ _ h => h) (Or.inl ⟨by rfl, ?_⟩) ?_ ?_
        rotate_left
        ·intro w'
         go_simp
         with_reducible rfl
        rotate_left
        ·simp only [Act.put, List.setIfInBounds_toArray, List.set_cons_zero, List.set_cons_succ, i64_w, i32_w]
         rfl
        refine pure_ (i := 5) (N := some 38) (v := ?_) (a' := ?_) #[true, false, true, true, true, true, false] rfl rfl (by kernel_rfl) (fun _ _ _ h => h) (Or.inl ⟨by rfl, ?_⟩) ?_ ?_
        rotate_left
        ·intro w'
         go_simp
         with_reducible rfl
        rotate_left
        ·simp only [Act.put, List.setIfInBounds_toArray, List.set_cons_zero, List.set_cons_succ, i64_w, i32_w]
         rfl
        refine one_ (i := 1) (N := some 34) #[true, true, true, true, true, true, false] rfl rfl (by kernel_rfl) (by decide) (fun K hK => ?_)
        refine goes_ Tryz.func46 (by kernel_rfl) rfl #[.int .i64 t252] (by rfl) rfl rfl (by (simp only [List.map_toArray, List.map_cons, List.map_nil]); rfl) ?_
        with_reducible refine (peristyleref02_Put.calls kj1 t252 t253 _ A12.out).mono ?_
        rintro e w20 ⟨rfl, hb⟩
        refine ⟨_, rfl, ?_⟩
        replace HB := bsa HB hb
        clear hb
        refine hK.out _ _ trivial (fun hHeld => ?_)
        clear hK K
        refine norm_ (a' := ?_) ?_ ?_
        rotate_left
        ·show Act.put _ (some 34) _ = _
         simp only [Act.put, List.setIfInBounds_toArray, List.set_cons_zero, List.set_cons_succ, i64_w, i32_w]
         rfl
        refine pure_ (i := 6) (N := some 39) (v := ?_) (a' := ?_) #[true, true, true, true, true, true, true] rfl rfl (by kernel_rfl) (fun _ _ _ h => h) (Or.inl ⟨by rfl, ?_⟩) ?_ ?_
        rotate_left
        ·intro w'
         go_simp
         with_reducible rfl
        rotate_left
        ·simp only [Act.put, List.setIfInBounds_toArray, List.set_cons_zero, List.set_cons_succ, i64_w, i32_w]
         rfl
        refine done_ (by kernel_rfl) ?_
        go_wp2
        go_ret3
        exact ⟨by rfl, bh HB.out⟩
       ·simp only [Option.some.injEq, Prod.mk.injEq] at H
        obtain ⟨rfl, rfl, rfl⟩ := H
        have p7 : 0 ≤ (x6_1 : Int) := ad
        have q7 : x6_1 < (a0.size : Int) := ad
        have hx7 := bt_at a0 x6_1
        replace p7 := eq_true p7
        replace q7 := eq_true q7
        go_wp2_with (first | ((with_reducible refine gate_callee (f := 44) rfl ?_); refine gL 26 Tryz.func44 #[.int .i64 x5_1, .int .i64 (wrap64 (7 * x6_1)), .int .i64 7, .int .i64 (wrap64 (Go.bits .and .u8 (bt a0 x6_1) 127))] ?_; (with_reducible refine (peristyleref01_With.calls x5_1 (wrap64 (7 * x6_1)) 7 (wrap64 (Go.bits .and .u8 (bt a0 x6_1) 127)) t251 _ A8.out).mono ?_); rintro e w21 ⟨rfl, hb⟩; refine ⟨_, rfl, ?_⟩; replace HB := bsa HB hb; clear hb; have p9 : 0 ≤ (x6_1 : Int) := ad; have q9 : x6_1 < (a0.size : Int) := ad; have hx9 := bt_at a0 x6_1; replace p9 := eq_true p9; replace q9 := eq_true q9) | ((with_reducible refine gate_callee (f := 45) rfl ?_); refine gL 32 Tryz.func45 #[.int .i64 t251] ?_; (with_reducible refine (peristyleref01_Zag.calls t251 t252 _ A11.out).mono ?_); rintro e w22 ⟨rfl, hb⟩; refine ⟨_, rfl, ?_⟩; replace HB := bsa HB hb; clear hb))
        replace HB := Aside0.mk (below_drew1 HB.out)
        refine start_ (n := 7) (S := fun w' => True) (ds := []) #[false, false, false, false, false, false, false] (by kernel_rfl) rfl rfl trivial (fun hHeld => ?_)
        generalize w22.drew = w23 at HB hHeld ⊢
        refine pure_ (i := 0) (N := some 33) (v := ?_) (a' := ?_) #[true, false, false, false, false, false, false] rfl rfl (by kernel_rfl) (fun _ _ _ h => h) (Or.inl ⟨by rfl, ?_⟩) ?_ ?_
        rotate_left
        ·intro w'
         go_simp
         with_reducible rfl
        rotate_left
        ·simp only [Act.put, List.setIfInBounds_toArray, List.set_cons_zero, List.set_cons_succ, i64_w, i32_w]
         rfl
        refine pure_ (i := 2) (N := some 35) (v := ?_) (a' := ?_) #[true, false, true, false, false, false, false] rfl rfl (by kernel_rfl) (fun _ _ _ h => h) (Or.inl ⟨by rfl, ?_⟩) ?_ ?_
        rotate_left
        ·intro w'
         go_simp
         with_reducible rfl
        rotate_left
        ·simp only [Act.put, List.setIfInBounds_toArray, List.set_cons_zero, List.set_cons_succ, i64_w, i32_w]
         rfl
        refine pure_ (i := 3) (N := some 36) (v := ?_) (a' := ?_) #[true, false, true, true, false, false, false] rfl rfl (by kernel_rfl) (fun _ _ _ h => h) (Or.inl ⟨by rfl, ?_⟩) ?_ ?_
        rotate_left
        ·intro w'
         go_simp
         with_reducible rfl
        rotate_left
        ·simp only [Act.put, List.setIfInBounds_toArray, List.set_cons_zero, List.set_cons_succ, i64_w, i32_w]
         rfl
        refine pure_ (i := 4) (N := some 37) (v := ?_) (a' := ?_) #[true, false, true, true, true, false, false] rfl rfl (by kernel_rfl) (fun _ _ _ h => h) (Or.inl ⟨by rfl, ?_⟩) ?_ ?_
        rotate_left
        ·intro w'
         go_simp
         with_reducible rfl
        rotate_left
        ·simp only [Act.put, List.setIfInBounds_toArray, List.set_cons_zero, List.set_cons_succ, i64_w, i32_w]
         rfl
        refine pure_ (i := 5) (N := some 38) (v := ?_) (a' := ?_) #[true, false, true, true, true, true, false] rfl rfl (by kernel_rfl) (fun _ _ _ h => h) (Or.inl ⟨by rfl, ?_⟩) ?_ ?_
        rotate_left
        ·intro w'
         go_simp
         with_reducible rfl
        rotate_left
        ·simp only [Act.put, List.setIfInBounds_toArray, List.set_cons_zero, List.set_cons_succ, i64_w, i32_w]
         rfl
        refine one_ (i := 1) (N := some 34) #[true, true, true, true, true, true, false] rfl rfl (by kernel_rfl) (by decide) (fun K hK => ?_)
        refine goes_ Tryz.func46 (by kernel_rfl) rfl #[.int .i64 t252] (by rfl) rfl rfl (by (simp only [List.map_toArray, List.map_cons, List.map_nil]); rfl) ?_
        with_reducible refine (peristyleref02_Put.calls kj1 t252 t253 _ A12.out).mono ?_
        rintro e w24 ⟨rfl, hb⟩
        refine ⟨_, rfl, ?_⟩
        replace HB := bsa HB hb
        clear hb
        refine hK.out _ _ trivial (fun hHeld => ?_)
        clear hK K
        refine norm_ (a' := ?_) ?_ ?_
        rotate_left
        ·show Act.put _ (some 34) _ = _
         simp only [Act.put, List.setIfInBounds_toArray, List.set_cons_zero, List.set_cons_succ, i64_w, i32_w]
         rfl
        refine pure_ (i := 6) (N := some 39) (v := ?_) (a' := ?_) #[true, true, true, true, true, true, true] rfl rfl (by kernel_rfl) (fun _ _ _ h => h) (Or.inl ⟨by rfl, ?_⟩) ?_ ?_
        rotate_left
        ·intro w'
         go_simp
         with_reducible rfl
        rotate_left
        ·simp only [Act.put, List.setIfInBounds_toArray, List.set_cons_zero, List.set_cons_succ, i64_w, i32_w]
         rfl
        refine done_ (by kernel_rfl) ?_
        go_wp2
        go_ret3
        exact ⟨by rfl, bh HB.out⟩
      ·have H' := Aside0.mk H
       clear H
       have p7 : 0 ≤ (x6_1 : Int) := ad
       have q7 : x6_1 < (a0.size : Int) := ad
       have hx7 := bt_at a0 x6_1
       replace p7 := eq_true p7
       replace q7 := eq_true q7
       go_wp2_with (((with_reducible refine gate_callee (f := 44) rfl ?_); refine gL 26 Tryz.func44 #[.int .i64 x5_1, .int .i64 (wrap64 (7 * x6_1)), .int .i64 7, .int .i64 (wrap64 (Go.bits .and .u8 (bt a0 x6_1) 127))] ?_; (with_reducible refine (peristyleref01_With.calls x5_1 (wrap64 (7 * x6_1)) 7 (wrap64 (Go.bits .and .u8 (bt a0 x6_1) 127)) t251 _ A8.out).mono ?_); rintro e w25 ⟨rfl, hb⟩; refine ⟨_, rfl, ?_⟩; replace HB := bsa HB hb; clear hb; have p9 : 0 ≤ (x6_1 : Int) := ad; have q9 : x6_1 < (a0.size : Int) := ad; have hx9 := bt_at a0 x6_1; replace p9 := eq_true p9; replace q9 := eq_true q9))
       go_roundg kj1
       case measure => have := HK1.out; have := HJ1.out; omega
       case rel => exact ⟨(t251), (wrap64 (x6_1 + 1)), (by rfl), (by rfl), H', ⟨by have := HK1.out; have := HJ1.out; omega⟩, ⟨bh HB.out⟩⟩
     ·simp only [Option.some.injEq, Prod.mk.injEq] at H
      obtain ⟨rfl, rfl, rfl⟩ := H
      go_wp2
      go_ret3
      exact ⟨er, bh HB.out⟩
/-! ### peristyleref11_head: function 20 -/
def peristyleref11_head.f (k : Nat) (a0 : ByteArray) (a1 : Int) : Option (Int × Int × Bool) := (peristyleref02_Take.f k a0).bind fun bt254 => (if bt254.2.2 = 0 then (if bt254.1 ≥ 1 then (some (bt254.1, bt254.2.1, decide (bt254.1 ≤ a1))) else (some (bt254.1, bt254.2.1, false))) else (some (bt254.1, bt254.2.1, false)))
set_option maxHeartbeats 8000000 in
set_option maxRecDepth 100000 in
theorem peristyleref11_head.calls (k : Nat) (a0 : ByteArray) (a1 : Int) (r1 : Int) (r2 : Int) (r3 : Bool) (w : World) (h : peristyleref11_head.f k a0 a1 = some (r1, r2, r3)) :
  Calls Tryz.prog 20 #[.string a0, .int .i64 a1] w fun e w' => e = .returned (.tuple #[.int .i64 r1, .int .i64 r2, .bool r3]) ∧ Below w.heap.size w w' := by
 have HB := Aside0.mk (Below.refl w.heap.size w)
 have H := h
 clear h
 unfold peristyleref11_head.f at H
 replace H := bd H
 obtain ⟨⟨t254, t255, t256⟩, A3, H⟩ := H
 dsimp only at H
 replace H := ife H
 rcases H with ⟨-, c4b0, c4b1, H⟩ | ⟨c4, c4b0, c4b1, H⟩
 ·replace H := ifd H
  rcases H with ⟨-, c5b0, H⟩ | ⟨-, c5b0, H⟩
  ·simp only [Option.some.injEq, Prod.mk.injEq] at H
   obtain ⟨rfl, rfl, rfl⟩ := H
   go_enter Tryz.func20, Tryz.ntmps20
   go_wp2_with (((with_reducible refine gate_callee (f := 21) rfl ?_); refine gL 12 Tryz.func21 #[.string a0] ?_; (with_reducible refine (peristyleref02_Take.calls k a0 t254 t255 t256 _ A3.out).mono ?_); rintro e w6 ⟨rfl, hb⟩; refine ⟨_, rfl, ?_⟩; replace HB := bsa HB hb; clear hb))
   go_ret3
   exact ⟨er, bh HB.out⟩
  ·simp only [Option.some.injEq, Prod.mk.injEq] at H
   obtain ⟨rfl, rfl, rfl⟩ := H
   go_enter Tryz.func20, Tryz.ntmps20
   go_wp2_with (((with_reducible refine gate_callee (f := 21) rfl ?_); refine gL 12 Tryz.func21 #[.string a0] ?_; (with_reducible refine (peristyleref02_Take.calls k a0 t254 t255 t256 _ A3.out).mono ?_); rintro e w7 ⟨rfl, hb⟩; refine ⟨_, rfl, ?_⟩; replace HB := bsa HB hb; clear hb))
   go_ret3
   exact ⟨er, bh HB.out⟩
 ·simp only [Option.some.injEq, Prod.mk.injEq] at H
  obtain ⟨rfl, rfl, rfl⟩ := H
  go_enter Tryz.func20, Tryz.ntmps20
  go_wp2_with (((with_reducible refine gate_callee (f := 21) rfl ?_); refine gL 12 Tryz.func21 #[.string a0] ?_; (with_reducible refine (peristyleref02_Take.calls k a0 t254 t255 t256 _ A3.out).mono ?_); rintro e w8 ⟨rfl, hb⟩; refine ⟨_, rfl, ?_⟩; replace HB := bsa HB hb; clear hb))
  go_ret3
  exact ⟨er, bh HB.out⟩
/-! ### peristyleref01_Width: function 73 (a contract of the session's own) -/
def peristyleref01_Width.f (a0 : Int) : Option (Int) := some (topTo (bitsOf a0) 64)
set_option maxHeartbeats 1600000 in
theorem peristyleref01_Width.calls0 (a0 : Int) (w : World) :
    Calls Tryz.prog 73 #[.int .i64 a0] w fun e w' => e = .returned (.int .i64 (topTo (bitsOf a0) 64)) ∧ Below w.heap.size w w' := by
 go_enter Tryz.func73, Tryz.ntmps73
 go_wp2_with (first | (go_at_call 69; refine (peristyleref01_Of.calls _ _).mono ?_; rintro e w1 ⟨rfl, HB1⟩) | ((with_reducible refine gate_dst (N := 3) rfl ?_); refine arr_alloc (w0 := w) w.heap.size rfl 92 rfl _ 64 peristyleref01_Of.zero HB1 HB1.size ?_; intro g0 w2 hg0 hb0 hs0 HB2 hbs2 hgr2) | ((with_reducible refine gate_store (t := 92) (p := 3) rfl ?_); refine arr_store (w0 := w) w.heap.size rfl 92 _ _ rfl g0 _ _ rfl rfl hg0 (by rw [arrB_size, bitsOf_length]; exact peristyleref01_Of.size) (by rw [arrB_size, arrB_size, bitsOf_length]; rfl) (arrB_one _) HB2 hb0 ?_; intro w3 hg3 HB3 hbs3 hgr3))
 have A1 := Aside0.mk hg3
 have A2 := Aside0.mk HB3
 clear hg0 hs0 HB1 HB2 hbs2 hgr2 hg3 HB3 hbs3 hgr3
 go_loop [4] (fun v4 => (∃ k : Nat, k ≤ 63 ∧ v4 = .int .i64 k ∧ Aside0 (topTo (bitsOf a0) 64 = topTo (bitsOf a0) (k + 1))) ∨ (v4 = .int .i64 (-1) ∧ Aside0 (topTo (bitsOf a0) 64 = 0))) (fun v4 => (intOf v4 + 1).toNat)
 case atStart => exact .inl ⟨63, by omega, rfl, ⟨rfl⟩⟩
 case round =>
   rcases hrel with ⟨k, hk, rfl, HT⟩ | ⟨rfl, HT⟩
   ·have hc2 : w3.cell? ⟨g0, k, none⟩ = some (.bool (bAt (bitsOf a0) k)) := arrB_cell A1.out k (by rw [bitsOf_length]; omega)
    have hk0 : (0 : Int) ≤ (k : Int) := by omega
    have hk1 : (k : Int) < 64 := by omega
    have HS : Aside0 (topTo (bitsOf a0) (k + 1) = if bAt (bitsOf a0) k = true then (k : Int) + 1 else topTo (bitsOf a0) k) := ⟨rfl⟩
    generalize bAt (bitsOf a0) k = b at hc2 HS
    cases b
    ·rcases k with _ | k
     ·simp only [Int.natCast_zero] at hk0 hk1 hc2
      go_wp2
      go_round
      case rel => exact .inr ⟨by go_num, ⟨by rw [HT.out, HS.out]; simp [topTo]⟩⟩
      case measure => simp [intOf]
     ·go_wp2
      go_round
      case rel => exact .inl ⟨k, by omega, by go_num, ⟨by rw [HT.out, HS.out]; simp⟩⟩
      case measure => simp [intOf]; omega
    ·go_wp2
     go_ret
     exact ⟨by rw [HT.out, HS.out]; simp, A2.out⟩
   ·go_wp2
    go_ret
    exact ⟨by rw [HT.out]; rfl, A2.out⟩
theorem peristyleref01_Width.calls (a0 : Int) (r : Int) (w : World) (h : peristyleref01_Width.f a0 = some r) :
    Calls Tryz.prog 73 #[.int .i64 a0] w fun e w' => e = .returned (.int .i64 r) ∧ Below w.heap.size w w' := by
 obtain rfl := Option.some.inj h
 exact peristyleref01_Width.calls0 a0 w
/-! ### peristyleref08_Width: function 50 -/
def peristyleref08_Width.l0 : Nat → List Int → Int → Int → Option (Int)
 | 0, _, _, _ => none
 | k + 1, x0, x3, x4 => if x4 < (x0.length : Int) then (if 0 ≤ x4 then ((peristyleref01_Width.f (rd x0 x4)).bind fun t258 => (peristyleref08_Width.l0 k x0 (mx x3 t258) (wrap64 (x4 + 1)))) else (none)) else (some x3)
def peristyleref08_Width.f (k : Nat) (l0 : List Int) : Option (Int) := peristyleref08_Width.l0 k l0 0 0
theorem peristyleref08_Width.l0_succ (k) (a0) (a1) (a2) : type_of% (@peristyleref08_Width.l0.eq_2 a0 a1 a2 k) := peristyleref08_Width.l0.eq_2 a0 a1 a2 k
set_option maxHeartbeats 8000000 in
set_option maxRecDepth 100000 in
theorem peristyleref08_Width.calls (k : Nat) (A0 : Option Addr) (c0 : Nat) (l0 : List Int) (r : Int) (w : World) (hr0 : Kd.C (Kd.int .i64) w A0 l0.length l0) (hc0 : l0.length ≤ c0) (h : peristyleref08_Width.f k l0 = some r) :
  Calls Tryz.prog 50 #[.slice A0 l0.length c0] w fun e w' => e = .returned (.int .i64 r) ∧ Below w.heap.size w w' := by
 have HR0 := Aside0.mk hr0
 have HC0 := Aside0.mk hc0
 clear hr0 hc0
 have HB := Aside0.mk (Below.refl w.heap.size w)
 have H := h
 clear h
 unfold peristyleref08_Width.f at H
 have H' := Aside0.mk H
 clear H
 go_enter Tryz.func50, Tryz.ntmps50
 go_wp2
 go_loopg [3, 4] k (fun kq v3 v4 w' => ∃ (x3_1 : Int) (x4_1 : Int), v3 = .int .i64 x3_1 ∧ v4 = .int .i64 x4_1 ∧ Aside0 (peristyleref08_Width.l0 kq l0 x3_1 x4_1 = some r) ∧ Aside0 (kq ≤ k) ∧ Aside0 (Below w.heap.size w w'))
 case atStart => exact ⟨(0), (0), (by rfl), (by rfl), H', ⟨Nat.le_refl _⟩, ⟨bh HB.out⟩⟩
 case round =>
  clear H'
  obtain ⟨x3_1, x4_1, rfl, rfl, HA, HK1, HB⟩ := hrel
  cases gk with
  | zero => exact absurd HA.out (by simp [peristyleref08_Width.l0])
  | succ k1 =>
   have H := HA.out
   clear HA
   simp only [peristyleref08_Width.l0] at H
   replace H := ifd H
   rcases H with ⟨-, c2b0, H⟩ | ⟨-, c2b0, H⟩
   ·replace H := ifn H
    obtain ⟨-, c3b0, H⟩ := H
    replace H := bd H
    obtain ⟨t258, A4, H⟩ := H
    obtain ⟨ji5, hji5⟩ : ∃ j_ : Int, (mx x3_1 t258) = j_ := ⟨_, rfl⟩
    replace H : (peristyleref08_Width.l0 k1 l0 ji5 (wrap64 (x4_1 + 1))) = some r := by (rw [hji5] at H; exact H)
    have hji5_ : (if x3_1 < t258 then t258 else x3_1) = ji5 := hji5
    have H' := Aside0.mk H
    clear H
    have p257 : 0 ≤ (x4_1 : Int) := ad
    have q257 : x4_1 < (l0.length : Int) := ad
    obtain ⟨ad257, e257, hx257_0⟩ := Kd.at_int HR0.out x4_1 p257 q257
    cases e257
    replace hx257_0 := cb HB.out.cell hx257_0
    replace p257 := eq_true p257
    replace q257 := eq_true q257
    go_wp2_with (((with_reducible refine gate_callee (f := 73) rfl ?_); refine gL 16 Tryz.func73 #[.int .i64 (rd l0 x4_1)] ?_; (with_reducible refine (peristyleref01_Width.calls (rd l0 x4_1) t258 _ A4.out).mono ?_); rintro e w6 ⟨rfl, hb⟩; refine ⟨_, rfl, ?_⟩; replace HB := bsa HB hb; clear hb))
    go_roundg k1
    case measure => have := HK1.out; omega
    case rel => exact ⟨(ji5), (wrap64 (x4_1 + 1)), (by rfl), (by rfl), (by exact H'), ⟨by have := HK1.out; omega⟩, ⟨bh HB.out⟩⟩
   ·obtain rfl := Option.some.inj H
    go_wp2
    go_ret
    exact ⟨er, bh HB.out⟩
/-! ### peristyleref11_width: function 23 -/
def peristyleref11_width.f (k : Nat) (a0 : Int) : Option (Int) := (peristyleref08_Width.f k (([wrap64 (a0 - 1)] : List Int))).bind fun t262 => (some t262)
set_option maxHeartbeats 8000000 in
set_option maxRecDepth 100000 in
theorem peristyleref11_width.calls (k : Nat) (a0 : Int) (r : Int) (w : World) (h : peristyleref11_width.f k a0 = some r) :
  Calls Tryz.prog 23 #[.int .i64 a0] w fun e w' => e = .returned (.int .i64 r) ∧ Below w.heap.size w w' := by
 have HB := Aside0.mk (Below.refl w.heap.size w)
 have H := h
 clear h
 unfold peristyleref11_width.f at H
 obtain ⟨y259, hy259⟩ : ∃ y_ : List Int, y_ = (([wrap64 (a0 - 1)] : List Int)) := ⟨_, rfl⟩
 replace H : ((peristyleref08_Width.f k y259).bind fun t262 => (some t262)) = some r := by (rw [hy259]; with_reducible exact H)
 have Ny259 := Aside0.mk hy259
 clear hy259
 replace H := bd H
 obtain ⟨t262, A2, H⟩ := H
 obtain rfl := Option.some.inj H
 go_enter Tryz.func23, Tryz.ntmps23
 go_wp2_with (first | ((with_reducible refine gate_dst (N := 5) rfl ?_); refine Kd.R_lit (Kd.int .i64) _ 3 ?hg (N := 5) ?hd (xs := ([wrap64 (a0 - 1)] : List Int)) (inner := [.int .i64 (wrap64 (a0 - 1))]) (ok := fun _ => True) (okp := fun _ => True) ?hr ?hp (fun _ hk => hk) trivial (Below.refl _ _) (Nat.le_refl _) (by simp) ?_; (case hd => rfl); (case hg => rfl); (case hr => (go_simp; done)); (case hp => exact (Reps.one (show Kd.M (Kd.int .i64) _ _ _ (wrap64 (a0 - 1)) [.int .i64 (wrap64 (a0 - 1))] from rfl) (Reps.none _ _))); intro v260 w3 ho4 hb hg_ hnew_; clear hg_ hnew_; (rw [← Ny259.out] at ho4); have HO261 := Aside0.mk (Kd.R_lower ho4 (below_size (bh HB.out))); replace HB := bsa HB hb; clear hb ho4; obtain ⟨Ao5, co5, eo5⟩ := Kd.R_slice HO261.out; subst eo5) | ((with_reducible refine gate_callee (f := 50) rfl ?_); refine gL 6 Tryz.func50 #[.slice Ao5 y259.length co5] ?_; (with_reducible refine (peristyleref08_Width.calls k _ _ y259 t262 _ ?side1 ?side2 A2.out).mono ?_); (case side1 => exact cx (Kd.R_reads' HO261.out).2.2); (case side2 => exact (Kd.R_reads' HO261.out).2.1); rintro e w6 ⟨rfl, hb⟩; refine ⟨_, rfl, ?_⟩; replace HO261 := rba HO261 hb; replace HB := bsa HB hb; clear hb))
 go_ret
 exact ⟨er, bh HB.out⟩
/-! ### peristyleref08_Bytes: function 47 -/
def peristyleref08_Bytes.f (a0 : Int) (a1 : Int) : Option (Int) := if a0 < 1 then (some 0) else (if a0 > 65536 then (some 0) else (if a1 < 1 then (some 0) else (if a1 > 64 then (some 0) else (some (wrap64 (Int.tdiv (wrap64 ((wrap64 (a0 * a1)) + 7)) 8))))))
set_option maxHeartbeats 8000000 in
set_option maxRecDepth 100000 in
theorem peristyleref08_Bytes.calls (a0 : Int) (a1 : Int) (r : Int) (w : World) (h : peristyleref08_Bytes.f a0 a1 = some r) :
  Calls Tryz.prog 47 #[.int .i64 a0, .int .i64 a1] w fun e w' => e = .returned (.int .i64 r) ∧ Drawn0 w w' := by
 have H := h
 clear h
 unfold peristyleref08_Bytes.f at H
 replace H := ifd H
 rcases H with ⟨-, c3b0, H⟩ | ⟨-, c3b0, H⟩
 ·obtain rfl := Option.some.inj H
  go_enter Tryz.func47, Tryz.ntmps47
  go_wp2
  go_ret
  exact ⟨by rfl, by repeat (exact Drawn0.refl _)⟩
 ·replace H := ifd H
  rcases H with ⟨-, c4b0, H⟩ | ⟨-, c4b0, H⟩
  ·obtain rfl := Option.some.inj H
   go_enter Tryz.func47, Tryz.ntmps47
   go_wp2
   go_ret
   exact ⟨by rfl, by repeat (exact Drawn0.refl _)⟩
  ·replace H := ifd H
   rcases H with ⟨-, c5b0, H⟩ | ⟨-, c5b0, H⟩
   ·obtain rfl := Option.some.inj H
    go_enter Tryz.func47, Tryz.ntmps47
    go_wp2
    go_ret
    exact ⟨by rfl, by repeat (exact Drawn0.refl _)⟩
   ·replace H := ifd H
    rcases H with ⟨-, c6b0, H⟩ | ⟨-, c6b0, H⟩
    ·obtain rfl := Option.some.inj H
     go_enter Tryz.func47, Tryz.ntmps47
     go_wp2
     go_ret
     exact ⟨by rfl, by repeat (exact Drawn0.refl _)⟩
    ·obtain rfl := Option.some.inj H
     go_enter Tryz.func47, Tryz.ntmps47
     go_wp2
     go_ret
     exact ⟨by rfl, by repeat (exact Drawn0.refl _)⟩
end Go.Proofs.YtfohecpfenegkaaGreat.Print
end
section
namespace Go.Proofs.YtfohecpfenegkaaGreat.Print
open Go.RowKit Go.Proofs.YtfohecpfenegkaaGreatW.PrintWords Go.Proofs.YtfohecpfenegkaaGreatW.PrintLast Go.Proofs.YtfohecpfenegkaaGreatW.PrintMore
attribute [local go_sem] max2_int min2_int max_two min_two max_three min_three max_four min_four   -- for this text's walks alone
set_option linter.unusedVariables false
set_option linter.unusedSimpArgs false
/-! ### peristyleref08_word: function 48 -/
def peristyleref08_word.l0 : Nat → ByteArray → Int → Int → Int → Int → Option (Int)
 | 0, _, _, _, _, _ => none
 | k + 1, x0, x1, x2, x7, x8 => if x8 < x2 then (if 0 ≤ (wrap64 (Int.tdiv (wrap64 ((wrap64 (x1 * x2)) + x8)) 8)) then (if (wrap64 (Int.tdiv (wrap64 ((wrap64 (x1 * x2)) + x8)) 8)) < (x0.size : Int) then (if 0 ≤ (Int.tmod (wrap64 ((wrap64 (x1 * x2)) + x8)) 8) then (if (Go.bits .and .i64 (shr .i64 (wrap64 (bt x0 (wrap64 (Int.tdiv (wrap64 ((wrap64 (x1 * x2)) + x8)) 8)))) (Int.tmod (wrap64 ((wrap64 (x1 * x2)) + x8)) 8)) 1) = 1 then (if 0 ≤ x8 then (peristyleref08_word.l0 k x0 x1 x2 (Go.bits .or .i64 x7 (shl .i64 1 x8)) (wrap64 (x8 + 1))) else (none)) else (peristyleref08_word.l0 k x0 x1 x2 x7 (wrap64 (x8 + 1)))) else (none)) else (none)) else (none)) else (some x7)
def peristyleref08_word.f (k : Nat) (a0 : ByteArray) (a1 : Int) (a2 : Int) : Option (Int) := peristyleref08_word.l0 k a0 a1 a2 0 0
theorem peristyleref08_word.l0_succ (k) (a0) (a1) (a2) (a3) (a4) : type_of% (@peristyleref08_word.l0.eq_2 a0 a1 a2 a3 a4 k) := peristyleref08_word.l0.eq_2 a0 a1 a2 a3 a4 k
set_option maxHeartbeats 8000000 in
set_option maxRecDepth 100000 in
theorem peristyleref08_word.calls (k : Nat) (a0 : ByteArray) (a1 : Int) (a2 : Int) (r : Int) (w : World) (h : peristyleref08_word.f k a0 a1 a2 = some r) :
  Calls Tryz.prog 48 #[.string a0, .int .i64 a1, .int .i64 a2] w fun e w' => e = .returned (.int .i64 r) ∧ Drawn0 w w' := by
 have H := h
 clear h
 unfold peristyleref08_word.f at H
 have H' := Aside0.mk H
 clear H
 go_enter Tryz.func48, Tryz.ntmps48
 go_wp2
 go_loopg [7, 8] k (fun kq v7 v8 w' => ∃ (x7_1 : Int) (x8_1 : Int), v7 = .int .i64 x7_1 ∧ v8 = .int .i64 x8_1 ∧ Aside0 (peristyleref08_word.l0 kq a0 a1 a2 x7_1 x8_1 = some r) ∧ Aside0 (kq ≤ k) ∧ Drawn0 w w')
 case atStart => exact ⟨(0), (0), (by rfl), (by rfl), H', ⟨Nat.le_refl _⟩, by repeat (exact Drawn0.refl _)⟩
 case round =>
  clear H'
  obtain ⟨x7_1, x8_1, rfl, rfl, HA, HK1, ⟨m1, rfl⟩⟩ := hrel
  cases gk with
  | zero => exact absurd HA.out (by simp [peristyleref08_word.l0])
  | succ k1 =>
   have H := HA.out
   clear HA
   simp only [peristyleref08_word.l0] at H
   replace H := ifd H
   rcases H with ⟨-, c4b0, H⟩ | ⟨-, c4b0, H⟩
   ·obtain ⟨ji5, hji5⟩ : ∃ j_ : Int, (wrap64 (Int.tdiv (wrap64 ((wrap64 (a1 * a2)) + x8_1)) 8)) = j_ := ⟨_, rfl⟩
    replace H : (if 0 ≤ (ji5) then (if (ji5) < (a0.size : Int) then (if 0 ≤ (Int.tmod (wrap64 ((wrap64 (a1 * a2)) + x8_1)) 8) then (if (Go.bits .and .i64 (shr .i64 (wrap64 (bt a0 (ji5))) (Int.tmod (wrap64 ((wrap64 (a1 * a2)) + x8_1)) 8)) 1) = 1 then (if 0 ≤ x8_1 then (peristyleref08_word.l0 k1 a0 a1 a2 (Go.bits .or .i64 x7_1 (shl .i64 1 x8_1)) (wrap64 (x8_1 + 1))) else (none)) else (peristyleref08_word.l0 k1 a0 a1 a2 x7_1 (wrap64 (x8_1 + 1)))) else (none)) else (none)) else (none)) = some r := by (rw [hji5] at H; exact H)
    have hji5w : (IntKind.i64.wrap (Int.tdiv (wrap64 ((wrap64 (a1 * a2)) + x8_1)) 8)) = ji5 := (i64_w _).trans hji5
    replace H := ifn H
    obtain ⟨-, c6b0, H⟩ := H
    replace H := ifn H
    obtain ⟨-, c7b0, H⟩ := H
    obtain ⟨ji9, hji9⟩ : ∃ j_ : Int, (Int.tmod (wrap64 ((wrap64 (a1 * a2)) + x8_1)) 8) = j_ := ⟨_, rfl⟩
    replace H : (if 0 ≤ (ji9) then (if (Go.bits .and .i64 (shr .i64 (wrap64 (bt a0 (ji5))) (ji9)) 1) = 1 then (if 0 ≤ x8_1 then (peristyleref08_word.l0 k1 a0 a1 a2 (Go.bits .or .i64 x7_1 (shl .i64 1 x8_1)) (wrap64 (x8_1 + 1))) else (none)) else (peristyleref08_word.l0 k1 a0 a1 a2 x7_1 (wrap64 (x8_1 + 1)))) else (none)) = some r := by (rw [hji9] at H; exact H)
    replace H := ifn H
    obtain ⟨c10, -, H⟩ := H
    have c10b0 := eq_true c10
    have c10b1 : decide (0 ≤ (ji9)) = true := decide_eq_true c10
    clear c10
    obtain ⟨ji11, hji11⟩ : ∃ j_ : Int, (shr .i64 (wrap64 (bt a0 (ji5))) (ji9)) = j_ := ⟨_, rfl⟩
    replace H : (if (Go.bits .and .i64 (ji11) 1) = 1 then (if 0 ≤ x8_1 then (peristyleref08_word.l0 k1 a0 a1 a2 (Go.bits .or .i64 x7_1 (shl .i64 1 x8_1)) (wrap64 (x8_1 + 1))) else (none)) else (peristyleref08_word.l0 k1 a0 a1 a2 x7_1 (wrap64 (x8_1 + 1)))) = some r := by (rw [hji11] at H; exact H)
    have hji11_ : ((wrap64 (bt a0 (ji5))) / 2 ^ min (ji9).toNat 64) = ji11 := hji11
    have hji11z : (ji9) ≤ 64 → ((wrap64 (bt a0 (ji5))) / 2 ^ (ji9).toNat) = ji11 := shr_small hji11
    replace H := ife H
    rcases H with ⟨-, c12b0, c12b1, H⟩ | ⟨c12, c12b0, c12b1, H⟩
    ·replace H := ifn H
     obtain ⟨c13, -, H⟩ := H
     have c13b0 := eq_true c13
     have c13b1 : decide (0 ≤ x8_1) = true := decide_eq_true c13
     clear c13
     obtain ⟨ji14, hji14⟩ : ∃ j_ : Int, (shl .i64 1 x8_1) = j_ := ⟨_, rfl⟩
     replace H : (peristyleref08_word.l0 k1 a0 a1 a2 (Go.bits .or .i64 x7_1 (ji14)) (wrap64 (x8_1 + 1))) = some r := by (rw [hji14] at H; exact H)
     have hji14_ : (IntKind.i64.wrap (1 * 2 ^ min x8_1.toNat 64)) = ji14 := hji14
     have hji14z : x8_1 ≤ 64 → (IntKind.i64.wrap (1 * 2 ^ x8_1.toNat)) = ji14 := shl_small hji14
     have hji14u : (IntKind.i64.wrap (2 ^ min x8_1.toNat 64)) = ji14 := by have h_ := hji14_; rw [Int.one_mul] at h_; exact h_
     have hji14v : x8_1 ≤ 64 → (IntKind.i64.wrap (2 ^ x8_1.toNat)) = ji14 := fun hle_ => by have h_ := hji14z hle_; rw [Int.one_mul] at h_; exact h_
     have hji14y : (wrap64 (1 * 2 ^ min x8_1.toNat 64)) = ji14 := (i64_w _).symm.trans hji14_
     have hji14x : x8_1 ≤ 64 → (wrap64 (1 * 2 ^ x8_1.toNat)) = ji14 := fun h_ => (i64_w _).symm.trans (hji14z h_)
     have H' := Aside0.mk H
     clear H
     have p8 : 0 ≤ ((ji5) : Int) := ad
     have q8 : (ji5) < (a0.size : Int) := ad
     have hx8 := bt_at a0 (ji5)
     replace p8 := eq_true p8
     replace q8 := eq_true q8
     go_wp2
     go_roundg k1
     case measure => have := HK1.out; omega
     case rel => exact ⟨(Go.bits .or .i64 x7_1 (ji14)), (wrap64 (x8_1 + 1)), (by rfl), (by rfl), (by exact H'), ⟨by have := HK1.out; omega⟩, by repeat (first | exact Drawn0.refl _ | apply Drawn0.step)⟩
    ·have H' := Aside0.mk H
     clear H
     have p8 : 0 ≤ ((ji5) : Int) := ad
     have q8 : (ji5) < (a0.size : Int) := ad
     have hx8 := bt_at a0 (ji5)
     replace p8 := eq_true p8
     replace q8 := eq_true q8
     go_wp2
     go_roundg k1
     case measure => have := HK1.out; omega
     case rel => exact ⟨(x7_1), (wrap64 (x8_1 + 1)), (by rfl), (by rfl), (by exact H'), ⟨by have := HK1.out; omega⟩, by repeat (first | exact Drawn0.refl _ | apply Drawn0.step)⟩
   ·obtain rfl := Option.some.inj H
    go_wp2
    go_ret
    exact ⟨by rfl, by repeat (first | exact Drawn0.refl _ | apply Drawn0.step)⟩
/-! ### peristyleref08_Put: function 49 -/
mutual
def peristyleref08_Put.j0 : Nat → List Int → Int → Bool → Option (ByteArray × Int)
 | 0, _, _, _ => none
 | k + 1, x0, x1, x26 => if x26 = true then (some ((⟨#[]⟩ : ByteArray), 1)) else ((peristyleref08_Bytes.f (x0.length : Int) x1).bind fun t264 => (if 0 ≤ t264 then (if (t264 : Int).toNat ≤ 281474976710656 then (peristyleref08_Put.l0 k x0 x1 (List.replicate (t264 : Int).toNat 0) 0) else (none)) else (none)))
def peristyleref08_Put.l0 : Nat → List Int → Int → List Int → Int → Option (ByteArray × Int)
 | 0, _, _, _, _ => none
 | k + 1, x0, x1, x6, x7 => if x7 < (x0.length : Int) then (peristyleref08_Put.l1 k x0 x1 x6 x7 0) else (some (strOfNums x6, 0))
def peristyleref08_Put.l1 : Nat → List Int → Int → List Int → Int → Int → Option (ByteArray × Int)
 | 0, _, _, _, _, _ => none
 | k + 1, x0, x1, x6, x7, x8 => if x8 < x1 then (if 0 ≤ x7 then (if x7 < (x0.length : Int) then (if 0 ≤ x8 then (if (Go.bits .and .i64 (shr .i64 (rd x0 x7) x8) 1) = 1 then (if 0 ≤ (wrap64 (Int.tdiv (wrap64 ((wrap64 (x7 * x1)) + x8)) 8)) then (if (wrap64 (Int.tdiv (wrap64 ((wrap64 (x7 * x1)) + x8)) 8)) < (x6.length : Int) then (if 0 ≤ (Int.tmod (wrap64 ((wrap64 (x7 * x1)) + x8)) 8) then (peristyleref08_Put.l1 k x0 x1 (x6.set ((wrap64 (Int.tdiv (wrap64 ((wrap64 (x7 * x1)) + x8)) 8)) : Int).toNat (Go.bits .or .u8 (rd x6 (wrap64 (Int.tdiv (wrap64 ((wrap64 (x7 * x1)) + x8)) 8))) (shl .u8 1 (Int.tmod (wrap64 ((wrap64 (x7 * x1)) + x8)) 8)))) x7 (wrap64 (x8 + 1))) else (none)) else (none)) else (none)) else (peristyleref08_Put.l1 k x0 x1 x6 x7 (wrap64 (x8 + 1)))) else (none)) else (none)) else (none)) else (peristyleref08_Put.l0 k x0 x1 x6 (wrap64 (x7 + 1)))
end
def peristyleref08_Put.f (k : Nat) (l0 : List Int) (a1 : Int) : Option (ByteArray × Int) := if a1 < 0 then (peristyleref08_Put.j0 k l0 a1 true) else (if a1 > 64 then (peristyleref08_Put.j0 k l0 a1 true) else (if (l0.length : Int) > 65536 then (peristyleref08_Put.j0 k l0 a1 true) else ((peristyleref08_Width.f k l0).bind fun t263 => (peristyleref08_Put.j0 k l0 a1 (decide (t263 > a1))))))
theorem peristyleref08_Put.j0_succ (k) (a0) (a1) (a2) : type_of% (@peristyleref08_Put.j0.eq_2 a0 a1 a2 k) := peristyleref08_Put.j0.eq_2 a0 a1 a2 k
theorem peristyleref08_Put.l0_succ (k) (a0) (a1) (a2) (a3) : type_of% (@peristyleref08_Put.l0.eq_2 a0 a1 a2 a3 k) := peristyleref08_Put.l0.eq_2 a0 a1 a2 a3 k
theorem peristyleref08_Put.l1_succ (k) (a0) (a1) (a2) (a3) (a4) : type_of% (@peristyleref08_Put.l1.eq_2 a0 a1 a2 a3 a4 k) := peristyleref08_Put.l1.eq_2 a0 a1 a2 a3 a4 k
def peristyleref08_Put.T12 : Bool × List (List Nat × List Nat) := (true, [([], []), ([], []), ([1], [1]), ([], []), ([], []), ([4], [4]), ([3, 5], [3, 5]), ([6], [6]), ([], []), ([8], [8]), ([9], [9]), ([7, 10], [7, 10]), ([0, 2, 0, 1, 2, 3, 4, 5, 6, 7, 8, 9, 10, 11], [0, 2]), ([12, 11, 0, 1, 2, 3, 4, 5, 6, 7, 8, 9, 10, 11], [11, 12])])
def peristyleref08_Put.B12 : List Nat := [0, 0, 2, 0, 0, 16, 56, 120, 0, 256, 768, 2040, 4095, 8191]
theorem peristyleref08_Put.tab12 : rtab .any (opsOf Tryz.f49 12) = peristyleref08_Put.T12 := by kernel_rfl
theorem peristyleref08_Put.bits12 : waitsOk peristyleref08_Put.T12.2 peristyleref08_Put.B12 = true := by kernel_rfl
set_option maxHeartbeats 8000000 in
set_option maxRecDepth 100000 in
theorem peristyleref08_Put.calls (k : Nat) (A0 : Option Addr) (c0 : Nat) (l0 : List Int) (a1 : Int) (r1 : ByteArray) (r2 : Int) (w : World) (hr0 : Kd.C (Kd.int .i64) w A0 l0.length l0) (hc0 : l0.length ≤ c0) (h : peristyleref08_Put.f k l0 a1 = some (r1, r2)) :
  Calls Tryz.prog 49 #[.slice A0 l0.length c0, .int .i64 a1] w fun e w' => e = .returned (.tuple #[.string r1, .int .i64 r2]) ∧ Below w.heap.size w w' := by
 have HR0 := Aside0.mk hr0
 have HC0 := Aside0.mk hc0
 clear hr0 hc0
 have HB := Aside0.mk (Below.refl w.heap.size w)
 have H := h
 clear h
 unfold peristyleref08_Put.f at H
 have HC3 := Aside0.mk H
 clear H
 go_enter Tryz.func49, Tryz.ntmps49
 go_upto_region 1 with (fail)
 go_cut [26] (fun v26 wc => ∃ (kq : Nat) (x26_2 : Bool), v26 = .bool x26_2 ∧ Aside0 (peristyleref08_Put.j0 kq l0 a1 x26_2 = some (r1, r2)) ∧ Aside0 (kq ≤ k) ∧ Aside0 (Below w.heap.size w wc))
 case first =>
  have H := HC3.out
  clear HC3
  replace H := ifd H
  rcases H with ⟨-, c4b0, H⟩ | ⟨-, c4b0, H⟩
  ·(skip)
   have H' := Aside0.mk H
   clear H
   go_wp2
   go_meet
   case rel => exact ⟨_, (true), (by rfl), H', ⟨by omega⟩, ⟨bh HB.out⟩⟩
  ·(skip)
   replace H := ifd H
   rcases H with ⟨-, c5b0, H⟩ | ⟨-, c5b0, H⟩
   ·have H' := Aside0.mk H
    clear H
    go_wp2
    go_meet
    case rel => exact ⟨_, (true), (by rfl), H', ⟨by omega⟩, ⟨bh HB.out⟩⟩
   ·replace H := ifd H
    rcases H with ⟨c6, c6b0, H⟩ | ⟨c6, c6b0, H⟩
    ·have c6b1 : decide (65536 < l0.length) = true := decide_eq_true (by omega)
     clear c6
     have H' := Aside0.mk H
     clear H
     go_wp2
     go_meet
     case rel => exact ⟨_, (true), (by rfl), H', ⟨by omega⟩, ⟨bh HB.out⟩⟩
    ·have c6b1 : decide (65536 < l0.length) = false := decide_eq_false (by omega)
     clear c6
     replace H := bd H
     obtain ⟨t263, A7, H⟩ := H
     have H' := Aside0.mk H
     clear H
     go_wp2_with ((go_at_call 50; (with_reducible refine (peristyleref08_Width.calls k _ _ l0 t263 _ ?side1 ?side2 A7.out).mono ?_); (case side1 => exact cx (Kd.C_below HR0.out HB.out)); (case side2 => exact HC0.out); rintro e w8 ⟨rfl, hb⟩; replace HB := bsa HB hb; clear hb))
     go_meet
     case rel => exact ⟨_, (decide (t263 > a1)), (by rfl), H', ⟨by omega⟩, ⟨bh HB.out⟩⟩
 case rest =>
  clear HC3
  obtain ⟨kq, x26_2, rfl, HA, HJ2, HB⟩ := hcut
  cases kq with
  | zero => exact absurd HA.out (by simp [peristyleref08_Put.j0])
  | succ kj2 =>
   have H := HA.out
   clear HA
   simp only [peristyleref08_Put.j0] at H
   replace H := ifb H
   rcases H with ⟨rfl, H⟩ | ⟨rfl, H⟩
   ·simp only [Option.some.injEq, Prod.mk.injEq] at H
    obtain ⟨rfl, rfl⟩ := H
    go_wp2
    go_ret2
    exact ⟨er, bh HB.out⟩
   ·replace H := bd H
    obtain ⟨t264, A10, H⟩ := H
    replace H := ifn H
    obtain ⟨c11, -, H⟩ := H
    have c11b0 := eq_true c11
    have c11b1 : decide (0 ≤ t264) = true := decide_eq_true c11
    clear c11
    replace H := ifn H
    obtain ⟨c12, -, H⟩ := H
    have c12b0 := eq_true c12
    have c12b1 : decide ((t264 : Int).toNat ≤ 281474976710656) = true := decide_eq_true c12
    clear c12
    obtain ⟨y265, hy265⟩ : ∃ y_ : List Int, y_ = (List.replicate (t264 : Int).toNat 0) := ⟨_, rfl⟩
    replace H : (peristyleref08_Put.l0 kj2 l0 a1 y265 0) = some (r1, r2) := by (rw [hy265]; with_reducible exact H)
    have Ny265 := Aside0.mk hy265
    clear hy265
    have H' := Aside0.mk H
    clear H
    go_wp2_with (first | ((with_reducible refine gate_callee (f := 47) rfl ?_); refine gL 30 Tryz.func47 #[.int .i64 (l0.length : Int), .int .i64 a1] ?_; (with_reducible refine (peristyleref08_Bytes.calls (l0.length : Int) a1 t264 _ A10.out).mono ?_); rintro e w' ⟨rfl, ⟨nd, rfl⟩⟩; refine ⟨_, rfl, ?_⟩) | ((with_reducible refine gate_dst (N := 31) rfl ?_); ((refine gate_guard (by rfl) ?_; dsimp only)); refine Kd.R_make (Kd.int .u8) _ 5 rfl (N := 31) rfl 76 _ _ rfl t264 rfl rfl Tryz.underlying76 (.int .u8 0) 1 info5 rfl (by decide) (by omega) 0 (ok := fun _ => True) (okp := fun _ => True) rfl (fun _ hk => hk) trivial (of_decide_eq_true (by assumption)) (Nat.le_trans (Nat.mul_le_mul_right _ (of_decide_eq_true (by assumption) : t264.toNat ≤ 281474976710656)) (by omega)) (Below.refl _ _) (Nat.le_refl _) ?_; intro v266 w13 ho14 hb hg_ hnew_; clear hg_ hnew_; (rw [← Ny265.out] at ho14); have HO267 := Aside0.mk (Kd.R_lower ho14 (below_size (bh HB.out))); replace HB := bsa HB hb; clear hb ho14))
    go_loopg [7] kj2 (fun kq v7 w' => ∃ (x6_2 : List Int) (x7_2 : Int), v7 = .int .i64 x7_2 ∧ Aside0 (peristyleref08_Put.l0 kq l0 a1 x6_2 x7_2 = some (r1, r2)) ∧ Aside0 (kq ≤ kj2) ∧ Aside0 (Kd.R (Kd.int .u8) 5 w' w.heap.size (fun _ => True) v266 x6_2) ∧ Aside0 (Below w.heap.size w w'))
    case atStart => exact ⟨(y265), (0), (by rfl), H', ⟨Nat.le_refl _⟩, ⟨by exact HO267.out⟩, ⟨bh HB.out⟩⟩
    case round =>
     clear H' c11b0 c11b1 c12b0 c12b1
     obtain ⟨x6_2, x7_2, rfl, HA, HK2, HO_6, HB⟩ := hrel
     cases gk with
     | zero => exact absurd HA.out (by simp [peristyleref08_Put.l0])
     | succ k2 =>
      have H := HA.out
      clear HA
      simp only [peristyleref08_Put.l0] at H
      replace H := ifd H
      rcases H with ⟨-, c15b0, H⟩ | ⟨-, c15b0, H⟩
      ·have H' := Aside0.mk H
       clear H
       go_wp2
       go_loopg [8] k2 (fun kq v8 w' => ∃ (x6_3 : List Int) (x8_3 : Int), v8 = .int .i64 x8_3 ∧ Aside0 (peristyleref08_Put.l1 kq l0 a1 x6_3 x7_2 x8_3 = some (r1, r2)) ∧ Aside0 (kq ≤ k2) ∧ Aside0 (Kd.R (Kd.int .u8) 5 w' w.heap.size (fun _ => True) v266 x6_3) ∧ Aside0 (Below w.heap.size w w'))
       case atStart => exact ⟨(x6_2), (0), (by rfl), H', ⟨Nat.le_refl _⟩, ⟨by exact HO_6.out⟩, ⟨bh HB.out⟩⟩
       case round =>
        clear H' c15b0
        obtain ⟨x6_3, x8_3, rfl, HA, HK3, HO_6, HB⟩ := hrel
        cases gk with
        | zero => exact absurd HA.out (by simp [peristyleref08_Put.l1])
        | succ k3 =>
         have H := HA.out
         clear HA
         simp only [peristyleref08_Put.l1] at H
         replace H := ifd H
         rcases H with ⟨-, c16b0, H⟩ | ⟨-, c16b0, H⟩
         ·replace H := ifn H
          obtain ⟨-, c17b0, H⟩ := H
          replace H := ifn H
          obtain ⟨-, c18b0, H⟩ := H
          replace H := ifn H
          obtain ⟨c19, -, H⟩ := H
          have c19b0 := eq_true c19
          have c19b1 : decide (0 ≤ x8_3) = true := decide_eq_true c19
          clear c19
          obtain ⟨ji20, hji20⟩ : ∃ j_ : Int, (shr .i64 (rd l0 x7_2) x8_3) = j_ := ⟨_, rfl⟩
          replace H : (if (Go.bits .and .i64 (ji20) 1) = 1 then (if 0 ≤ (wrap64 (Int.tdiv (wrap64 ((wrap64 (x7_2 * a1)) + x8_3)) 8)) then (if (wrap64 (Int.tdiv (wrap64 ((wrap64 (x7_2 * a1)) + x8_3)) 8)) < (x6_3.length : Int) then (if 0 ≤ (Int.tmod (wrap64 ((wrap64 (x7_2 * a1)) + x8_3)) 8) then (peristyleref08_Put.l1 k3 l0 a1 (x6_3.set ((wrap64 (Int.tdiv (wrap64 ((wrap64 (x7_2 * a1)) + x8_3)) 8)) : Int).toNat (Go.bits .or .u8 (rd x6_3 (wrap64 (Int.tdiv (wrap64 ((wrap64 (x7_2 * a1)) + x8_3)) 8))) (shl .u8 1 (Int.tmod (wrap64 ((wrap64 (x7_2 * a1)) + x8_3)) 8)))) x7_2 (wrap64 (x8_3 + 1))) else (none)) else (none)) else (none)) else (peristyleref08_Put.l1 k3 l0 a1 x6_3 x7_2 (wrap64 (x8_3 + 1)))) = some (r1, r2) := by (rw [hji20] at H; exact H)
          have hji20_ : ((rd l0 x7_2) / 2 ^ min x8_3.toNat 64) = ji20 := hji20
          have hji20z : x8_3 ≤ 64 → ((rd l0 x7_2) / 2 ^ x8_3.toNat) = ji20 := shr_small hji20
          replace H := ife H
          rcases H with ⟨-, c21b0, c21b1, H⟩ | ⟨c21, c21b0, c21b1, H⟩
          ·obtain ⟨ji22, hji22⟩ : ∃ j_ : Int, (wrap64 (Int.tdiv (wrap64 ((wrap64 (x7_2 * a1)) + x8_3)) 8)) = j_ := ⟨_, rfl⟩
           replace H : (if 0 ≤ (ji22) then (if (ji22) < (x6_3.length : Int) then (if 0 ≤ (Int.tmod (wrap64 ((wrap64 (x7_2 * a1)) + x8_3)) 8) then (peristyleref08_Put.l1 k3 l0 a1 (x6_3.set ((ji22) : Int).toNat (Go.bits .or .u8 (rd x6_3 (ji22)) (shl .u8 1 (Int.tmod (wrap64 ((wrap64 (x7_2 * a1)) + x8_3)) 8)))) x7_2 (wrap64 (x8_3 + 1))) else (none)) else (none)) else (none)) = some (r1, r2) := by (rw [hji22] at H; exact H)
           have hji22w : (IntKind.i64.wrap (Int.tdiv (wrap64 ((wrap64 (x7_2 * a1)) + x8_3)) 8)) = ji22 := (i64_w _).trans hji22
           replace H := ifn H
           obtain ⟨-, c23b0, H⟩ := H
           replace H := ifn H
           obtain ⟨-, c24b0, H⟩ := H
           obtain ⟨ji25, hji25⟩ : ∃ j_ : Int, (Int.tmod (wrap64 ((wrap64 (x7_2 * a1)) + x8_3)) 8) = j_ := ⟨_, rfl⟩
           replace H : (if 0 ≤ (ji25) then (peristyleref08_Put.l1 k3 l0 a1 (x6_3.set ((ji22) : Int).toNat (Go.bits .or .u8 (rd x6_3 (ji22)) (shl .u8 1 (ji25)))) x7_2 (wrap64 (x8_3 + 1))) else (none)) = some (r1, r2) := by (rw [hji25] at H; exact H)
           replace H := ifn H
           obtain ⟨c26, -, H⟩ := H
           have c26b0 := eq_true c26
           have c26b1 : decide (0 ≤ (ji25)) = true := decide_eq_true c26
           clear c26
           obtain ⟨ji27, hji27⟩ : ∃ j_ : Int, (shl .u8 1 (ji25)) = j_ := ⟨_, rfl⟩
           replace H : (peristyleref08_Put.l1 k3 l0 a1 (x6_3.set ((ji22) : Int).toNat (Go.bits .or .u8 (rd x6_3 (ji22)) (ji27))) x7_2 (wrap64 (x8_3 + 1))) = some (r1, r2) := by (rw [hji27] at H; exact H)
           have hji27_ : (IntKind.u8.wrap (1 * 2 ^ min (ji25).toNat 8)) = ji27 := hji27
           have hji27z : (ji25) ≤ 8 → (IntKind.u8.wrap (1 * 2 ^ (ji25).toNat)) = ji27 := shl_small hji27
           have hji27u : (IntKind.u8.wrap (2 ^ min (ji25).toNat 8)) = ji27 := by have h_ := hji27_; rw [Int.one_mul] at h_; exact h_
           have hji27v : (ji25) ≤ 8 → (IntKind.u8.wrap (2 ^ (ji25).toNat)) = ji27 := fun hle_ => by have h_ := hji27z hle_; rw [Int.one_mul] at h_; exact h_
           obtain ⟨y270, hy270⟩ : ∃ y_ : List Int, y_ = (x6_3.set ((ji22) : Int).toNat (Go.bits .or .u8 (rd x6_3 (ji22)) (ji27))) := ⟨_, rfl⟩
           replace H : (peristyleref08_Put.l1 k3 l0 a1 y270 x7_2 (wrap64 (x8_3 + 1))) = some (r1, r2) := by (rw [hy270]; with_reducible exact H)
           have Ny270 := Aside0.mk hy270
           clear hy270
           have H' := Aside0.mk H
           clear H
           have p268 : 0 ≤ (x7_2 : Int) := ad
           have q268 : x7_2 < (l0.length : Int) := ad
           obtain ⟨ad268, e268, hx268_0⟩ := Kd.at_int HR0.out x7_2 p268 q268
           cases e268
           replace hx268_0 := cb HB.out.cell hx268_0
           replace p268 := eq_true p268
           replace q268 := eq_true q268
           go_wp2
           replace HO_6 := Aside0.mk (Kd.R_drew HO_6.out)
           replace HB := Aside0.mk (below_drew1 HB.out)
           obtain ⟨Ao30, co30, eo30⟩ := Kd.R_slice HO_6.out
           (subst eo30)
           have p269 : 0 ≤ ((ji22) : Int) := ad
           have q269 : (ji22) < (x6_3.length : Int) := ad
           obtain ⟨ad269, e269, hx269_0⟩ := Kd.at_int (Kd.R_reads' HO_6.out).2.2 (ji22) p269 q269
           cases e269
           replace p269 := eq_true p269
           replace q269 := eq_true q269
           have p28 : 0 ≤ ((ji22) : Int) := ad
           have q28 : ((ji22) : Int) < ((x6_3.length : Int) : Int) := ad
           obtain ⟨go28, co28, eo28, gb28, gl28, cl28, HG28⟩ := Kd.R_form HO_6.out (by omega)
           (cases eo28)
           have GB28 := Aside0.mk gb28
           have GG28 := Aside0.mk HG28
           clear gb28 gl28 HG28
           (simp only [add_plain] at hx269_0)
           obtain ⟨hx28_0, hf28_0⟩ := Kd.R_celln 0 HO_6.out ((ji22) : Int) p28 q28
           replace p28 := eq_true p28
           replace q28 := eq_true q28
           have HP31 := Kd.R_putn HO_6.out ((ji22) : Int) (Go.bits .or .u8 (rd x6_3 (ji22)) (ji27))
           rw [← Ny270.out] at HP31
           have HQ31 := Aside0.mk HP31
           clear HP31
           refine start_ (n := 14) (S := fun w' => w'.cell? ⟨go28, ((ji22)).toNat, none⟩ = some (.int .u8 (rd x6_3 (ji22)))) (ds := [13]) #[false, false, false, false, false, false, false, false, false, false, false, false, false, false] (by kernel_rfl) rfl rfl (hx269_0) (fun hHeld => ?_); refine with_tabW peristyleref08_Put.tab12 peristyleref08_Put.bits12 (fun HT_ HW_ => ?_)
           generalize wr.drew = w29 at HO_6 HB GG28 HQ31 hf28_0 hx269_0 hx28_0 hHeld ⊢
           refine puA HT_ 0 56 (bv 14 1) ?_
           refine puA HT_ 1 57 (bv 14 3) ?_
           refine puA HT_ 2 58 (bv 14 7) ?_
           refine puA HT_ 3 59 (bv 14 15) ?_
           refine puA HT_ 4 60 (bv 14 31) ?_
           refine puA HT_ 5 61 (bv 14 63) ?_
           refine puA HT_ 6 62 (bv 14 127) ?_
           refine puA HT_ 8 64 (bv 14 383) ?_
           refine puA HT_ 9 65 (bv 14 895) ?_
           refine puA HT_ 10 66 (bv 14 1919) ?_
           refine take_ (i := 7) (N := some 63) (v := ?_) (a' := ?_) #[true, true, true, true, true, true, true, true, true, true, true, false, false, false] rfl rfl (take_ofW HT_.out HW_.out (by kernel_rfl)) (fun _ _ _ h => h) (Or.inl ⟨by rfl, ?_⟩) hHeld ?_ ?_
           rotate_left
           ·intro w' s0
            go_simp
            with_reducible rfl
           rotate_left
           ·simp only [Act.put, List.setIfInBounds_toArray, List.set_cons_zero, List.set_cons_succ, i64_w, i32_w]
            rfl
           refine puA HT_ 11 67 (bv 14 4095) ?_
           refine puA HT_ 12 68 (bv 14 8191) ?_
           refine last_ (i := 13) (N := none) #[true, true, true, true, true, true, true, true, true, true, true, true, true, true] rfl rfl (one_of HT_.out (by kernel_rfl)) (by decide) (fun K hK => ?_)
           refine skip_ (w1 := ?_) (by rfl) rfl ?_ ?_
           rotate_left
           ·go_simp
            rfl
           refine hK.out _ _ ?_
           clear hK K
           refine done_ (done_of HT_.out (by kernel_rfl)) ?_
           go_wp2
           go_roundg k3
           case measure => have := HJ2.out; have := HK2.out; have := HK3.out; omega
           case rel => exact ⟨(y270), (wrap64 (x8_3 + 1)), (by rfl), (by exact H'), ⟨by have := HJ2.out; have := HK2.out; have := HK3.out; omega⟩, ⟨by exact HQ31.out⟩, ⟨by repeat ((with_reducible first | exact HB.out | refine below_set ?_ GB28.out))⟩⟩
          ·have H' := Aside0.mk H
           clear H
           have p268 : 0 ≤ (x7_2 : Int) := ad
           have q268 : x7_2 < (l0.length : Int) := ad
           obtain ⟨ad268, e268, hx268_0⟩ := Kd.at_int HR0.out x7_2 p268 q268
           cases e268
           replace hx268_0 := cb HB.out.cell hx268_0
           replace p268 := eq_true p268
           replace q268 := eq_true q268
           go_wp2
           go_roundg k3
           case measure => have := HJ2.out; have := HK2.out; have := HK3.out; omega
           case rel => exact ⟨(x6_3), (wrap64 (x8_3 + 1)), (by rfl), (by exact H'), ⟨by have := HJ2.out; have := HK2.out; have := HK3.out; omega⟩, ⟨by exact HO_6.out⟩, ⟨bh HB.out⟩⟩
         ·have H' := Aside0.mk H
          clear H
          go_wp2
          go_roundg k3
          case measure => have := HJ2.out; have := HK2.out; have := HK3.out; omega
          case rel => exact ⟨(x6_3), (wrap64 (x7_2 + 1)), (by rfl), H', ⟨by have := HJ2.out; have := HK2.out; have := HK3.out; omega⟩, ⟨by exact HO_6.out⟩, ⟨bh HB.out⟩⟩
      ·simp only [Option.some.injEq, Prod.mk.injEq] at H
       obtain ⟨rfl, rfl⟩ := H
       have hcv32 := own_string (P := Tryz.prog) Tryz.underlying76 Tryz.underlying5 Tryz.underlying9 (Kd.own_of_R HO_6.out)
       go_wp2
       go_ret2
       exact ⟨er, bh HB.out⟩
end Go.Proofs.YtfohecpfenegkaaGreat.Print
end
section
namespace Go.Proofs.YtfohecpfenegkaaGreat.Print
open Go.RowKit Go.Proofs.YtfohecpfenegkaaGreatW.PrintWords Go.Proofs.YtfohecpfenegkaaGreatW.PrintLast Go.Proofs.YtfohecpfenegkaaGreatW.PrintMore
attribute [local go_sem] max2_int min2_int max_two min_two max_three min_three max_four min_four   -- for this text's walks alone
set_option linter.unusedVariables false
set_option linter.unusedSimpArgs false
/-! ### peristyleref08_Take: function 22 -/
mutual
def peristyleref08_Take.j0 : Nat → ByteArray → Int → Int → Bool → Option (List Int × Int)
 | 0, _, _, _, _ => none
 | k + 1, x0, x1, x2, x25 => if x25 = true then (some (([] : List Int), 1)) else ((peristyleref08_Bytes.f x1 x2).bind fun t271 => (if (x0.size : Int) = t271 then (peristyleref08_Take.l0 k x0 x1 x2 ([] : List Int) 0) else (some (([] : List Int), 20))))
def peristyleref08_Take.l0 : Nat → ByteArray → Int → Int → List Int → Int → Option (List Int × Int)
 | 0, _, _, _, _, _ => none
 | k + 1, x0, x1, x2, x8, x9 => if x9 < x1 then ((peristyleref08_word.f k x0 x9 x2).bind fun t272 => (if x8.length < 17592186044416 then (peristyleref08_Take.l0 k x0 x1 x2 (x8 ++ [t272]) (wrap64 (x9 + 1))) else (none))) else ((peristyleref08_Put.f k x8 x2).bind fun bt276 => (if bt276.1.toList = x0.toList then (some (x8, 0)) else (some (([] : List Int), 20))))
end
def peristyleref08_Take.f (k : Nat) (a0 : ByteArray) (a1 : Int) (a2 : Int) : Option (List Int × Int) := if a2 < 0 then (peristyleref08_Take.j0 k a0 a1 a2 true) else (if a2 > 64 then (peristyleref08_Take.j0 k a0 a1 a2 true) else (if a1 < 0 then (peristyleref08_Take.j0 k a0 a1 a2 true) else (peristyleref08_Take.j0 k a0 a1 a2 (decide (a1 > 65536)))))
theorem peristyleref08_Take.j0_succ (k) (a0) (a1) (a2) (a3) : type_of% (@peristyleref08_Take.j0.eq_2 a0 a1 a2 a3 k) := peristyleref08_Take.j0.eq_2 a0 a1 a2 a3 k
theorem peristyleref08_Take.l0_succ (k) (a0) (a1) (a2) (a3) (a4) : type_of% (@peristyleref08_Take.l0.eq_2 a0 a1 a2 a3 a4 k) := peristyleref08_Take.l0.eq_2 a0 a1 a2 a3 a4 k
set_option maxHeartbeats 8000000 in
set_option maxRecDepth 100000 in
theorem peristyleref08_Take.calls (k : Nat) (a0 : ByteArray) (a1 : Int) (a2 : Int) (r1 : List Int) (r2 : Int) (w : World) (h : peristyleref08_Take.f k a0 a1 a2 = some (r1, r2)) :
  Calls Tryz.prog 22 #[.string a0, .int .i64 a1, .int .i64 a2] w fun e w' => ∃ v0_ : Value, e = .returned (.tuple #[v0_, .int .i64 r2]) ∧ Kd.R (Kd.int .i64) 3 w' w.heap.size (fun _ => True) v0_ r1 ∧ Below w.heap.size w w' := by
 have HB := Aside0.mk (Below.refl w.heap.size w)
 have H := h
 clear h
 unfold peristyleref08_Take.f at H
 have HC4 := Aside0.mk H
 clear H
 go_enter Tryz.func22, Tryz.ntmps22
 go_upto_region 1 with (fail)
 go_cut [25] (fun v25 wc => ∃ (kq : Nat) (x25_3 : Bool), v25 = .bool x25_3 ∧ Aside0 (peristyleref08_Take.j0 kq a0 a1 a2 x25_3 = some (r1, r2)) ∧ Aside0 (kq ≤ k) ∧ Aside0 (Below w.heap.size w wc))
 case first =>
  have H := HC4.out
  clear HC4
  replace H := ifd H
  rcases H with ⟨-, c5b0, H⟩ | ⟨-, c5b0, H⟩
  ·(skip)
   have H' := Aside0.mk H
   clear H
   go_wp2
   go_meet
   case rel => exact ⟨_, (true), (by rfl), H', ⟨by omega⟩, ⟨bh HB.out⟩⟩
  ·(skip)
   replace H := ifd H
   rcases H with ⟨-, c6b0, H⟩ | ⟨-, c6b0, H⟩
   ·have H' := Aside0.mk H
    clear H
    go_wp2
    go_meet
    case rel => exact ⟨_, (true), (by rfl), H', ⟨by omega⟩, ⟨bh HB.out⟩⟩
   ·replace H := ifd H
    rcases H with ⟨-, c7b0, H⟩ | ⟨-, c7b0, H⟩
    ·have H' := Aside0.mk H
     clear H
     go_wp2
     go_meet
     case rel => exact ⟨_, (true), (by rfl), H', ⟨by omega⟩, ⟨bh HB.out⟩⟩
    ·have H' := Aside0.mk H
     clear H
     go_wp2
     go_meet
     case rel => exact ⟨_, (decide (a1 > 65536)), (by rfl), H', ⟨by omega⟩, ⟨bh HB.out⟩⟩
 case rest =>
  clear HC4
  obtain ⟨kq, x25_3, rfl, HA, HJ3, HB⟩ := hcut
  cases kq with
  | zero => exact absurd HA.out (by simp [peristyleref08_Take.j0])
  | succ kj3 =>
   have H := HA.out
   clear HA
   simp only [peristyleref08_Take.j0] at H
   replace H := ifb H
   rcases H with ⟨rfl, H⟩ | ⟨rfl, H⟩
   ·simp only [Option.some.injEq, Prod.mk.injEq] at H
    obtain ⟨rfl, rfl⟩ := H
    go_wp2
    go_ret2
    exact ⟨_, er, nl, bh HB.out⟩
   ·replace H := bd H
    obtain ⟨t271, A9, H⟩ := H
    replace H := ife H
    rcases H with ⟨-, c10b0, c10b1, H⟩ | ⟨c10, c10b0, c10b1, H⟩
    ·have H' := Aside0.mk H
     clear H
     go_wp2_with (((with_reducible refine gate_callee (f := 47) rfl ?_); refine gL 30 Tryz.func47 #[.int .i64 a1, .int .i64 a2] ?_; (with_reducible refine (peristyleref08_Bytes.calls a1 a2 t271 _ A9.out).mono ?_); rintro e w' ⟨rfl, ⟨nd, rfl⟩⟩; refine ⟨_, rfl, ?_⟩))
     go_loopg [8, 9] kj3 (fun kq v8 v9 w' => ∃ (x8_2 : List Int) (x9_2 : Int), v9 = .int .i64 x9_2 ∧ Aside0 (peristyleref08_Take.l0 kq a0 a1 a2 x8_2 x9_2 = some (r1, r2)) ∧ Aside0 (kq ≤ kj3) ∧ Aside0 (Kd.R (Kd.int .i64) 3 w' w.heap.size (fun _ => True) v8 x8_2) ∧ Aside0 (Below w.heap.size w w'))
     case atStart => exact ⟨(([] : List Int)), (0), (by rfl), H', ⟨Nat.le_refl _⟩, ⟨nl⟩, ⟨bh HB.out⟩⟩
     case round =>
      clear H' c10b0 c10b1
      obtain ⟨x8_2, x9_2, rfl, HA, HK2, HO_8, HB⟩ := hrel
      cases gk with
      | zero => exact absurd HA.out (by simp [peristyleref08_Take.l0])
      | succ k2 =>
       have H := HA.out
       clear HA
       simp only [peristyleref08_Take.l0] at H
       replace H := ifd H
       rcases H with ⟨-, c11b0, H⟩ | ⟨-, c11b0, H⟩
       ·replace H := bd H
        obtain ⟨t272, A12, H⟩ := H
        replace H := ifn H
        obtain ⟨c13, -, H⟩ := H
        have LMc13 := Aside0.mk c13
        clear c13
        obtain ⟨y273, hy273⟩ : ∃ y_ : List Int, y_ = (x8_2 ++ [t272]) := ⟨_, rfl⟩
        replace H : (peristyleref08_Take.l0 k2 a0 a1 a2 y273 (wrap64 (x9_2 + 1))) = some (r1, r2) := by (rw [hy273]; with_reducible exact H)
        have Ny273 := Aside0.mk hy273
        clear hy273
        have H' := Aside0.mk H
        clear H
        go_wp2_with (first | ((with_reducible refine gate_callee (f := 48) rfl ?_); refine gL 41 Tryz.func48 #[.string a0, .int .i64 x9_2, .int .i64 a2] ?_; (with_reducible refine (peristyleref08_word.calls k2 a0 x9_2 a2 t272 _ A12.out).mono ?_); rintro e w' ⟨rfl, ⟨nd, rfl⟩⟩; refine ⟨_, rfl, ?_⟩) | ((with_reducible refine gate_builtin (b := .append) (xs := #[.tmp 37, .tmp 42]) rfl ?_); at_builtin; refine Kd.R_append (Kd.int .i64) (w0 := w) w.heap.size rfl (.tmp 37) (.tmp 42) 23 3 (.int .i64 0) 8 rfl Tryz.underlying23 info3 rfl (by decide) (by omega) u8 x8_2 t272 [.int .i64 t272] (fun _ => True) (fun _ => False) rfl rfl ?aP (fun _ hk => hk.elim) ?aF ?aO ?aB ?aS ?aL ?_; (case aP => exact rfl); (case aB => exact (bh HB.out)); (case aF => exact (fun _ _ => trivial)); (case aO => exact (rx HO_8.out)); (case aS => exact (below_size (bh HB.out))); (case aL => have := LMc13.out; omega); intro v274 w14 ho hb hg hat; rw [← Ny273.out] at ho; have n0_ := Aside0.mk (hb); have n1_ := Aside0.mk (ho); clear HB HO_8; have HB := n0_; have HO275 := n1_; clear n0_ n1_ ho hb hg hat))
        go_roundg k2
        case measure => have := HJ3.out; have := HK2.out; omega
        case rel => exact ⟨(y273), (wrap64 (x9_2 + 1)), (by rfl), H', ⟨by have := HJ3.out; have := HK2.out; omega⟩, ⟨by exact HO275.out⟩, ⟨bh HB.out⟩⟩
       ·replace H := bd H
        obtain ⟨⟨t276, t277⟩, A15, H⟩ := H
        dsimp only at H
        replace H := ife H
        rcases H with ⟨-, c16b0, c16b1, H⟩ | ⟨c16, c16b0, c16b1, H⟩
        ·simp only [Option.some.injEq, Prod.mk.injEq] at H
         obtain ⟨rfl, rfl⟩ := H
         obtain ⟨Ao17, co17, eo17⟩ := Kd.R_slice HO_8.out
         subst eo17
         go_wp2_with (((with_reducible refine gate_callee (f := 49) rfl ?_); refine gL 47 Tryz.func49 #[.slice Ao17 x8_2.length co17, .int .i64 a2] ?_; (with_reducible refine (peristyleref08_Put.calls k2 _ _ x8_2 a2 t276 t277 _ ?side1 ?side2 A15.out).mono ?_); (case side1 => exact cx (Kd.R_reads' HO_8.out).2.2); (case side2 => exact (Kd.R_reads' HO_8.out).2.1); rintro e w18 ⟨rfl, hb⟩; refine ⟨_, rfl, ?_⟩; replace HO_8 := rba HO_8 hb; replace HB := bsa HB hb; clear hb))
         go_ret2
         exact ⟨_, er, by exact HO_8.out, bh HB.out⟩
        ·simp only [Option.some.injEq, Prod.mk.injEq] at H
         obtain ⟨rfl, rfl⟩ := H
         obtain ⟨Ao19, co19, eo19⟩ := Kd.R_slice HO_8.out
         subst eo19
         go_wp2_with (((with_reducible refine gate_callee (f := 49) rfl ?_); refine gL 47 Tryz.func49 #[.slice Ao19 x8_2.length co19, .int .i64 a2] ?_; (with_reducible refine (peristyleref08_Put.calls k2 _ _ x8_2 a2 t276 t277 _ ?side1 ?side2 A15.out).mono ?_); (case side1 => exact cx (Kd.R_reads' HO_8.out).2.2); (case side2 => exact (Kd.R_reads' HO_8.out).2.1); rintro e w20 ⟨rfl, hb⟩; refine ⟨_, rfl, ?_⟩; replace HO_8 := rba HO_8 hb; replace HB := bsa HB hb; clear hb))
         go_ret2
         exact ⟨_, er, nl, bh HB.out⟩
    ·simp only [Option.some.injEq, Prod.mk.injEq] at H
     obtain ⟨rfl, rfl⟩ := H
     go_wp2_with (((with_reducible refine gate_callee (f := 47) rfl ?_); refine gL 30 Tryz.func47 #[.int .i64 a1, .int .i64 a2] ?_; (with_reducible refine (peristyleref08_Bytes.calls a1 a2 t271 _ A9.out).mono ?_); rintro e w' ⟨rfl, ⟨nd, rfl⟩⟩; refine ⟨_, rfl, ?_⟩))
     go_ret2
     exact ⟨_, er, nl, bh HB.out⟩
end Go.Proofs.YtfohecpfenegkaaGreat.Print
end
section
namespace Go.Proofs.YtfohecpfenegkaaGreat.Print
open Go.RowKit Go.Proofs.YtfohecpfenegkaaGreatW.PrintWords Go.Proofs.YtfohecpfenegkaaGreatW.PrintLast Go.Proofs.YtfohecpfenegkaaGreatW.PrintMore
attribute [local go_sem] max2_int min2_int max_two min_two max_three min_three max_four min_four   -- for this text's walks alone
set_option linter.unusedVariables false
set_option linter.unusedSimpArgs false
/-! ### peristyleref11_Ints: function 51 -/
mutual
def peristyleref11_Ints.l0 : Nat → List Int → List Int → Int → Option (List Int × List Int)
 | 0, _, _, _ => none
 | k + 1, x0, x4, x6 => if x6 < (x0.length : Int) then (peristyleref11_Ints.l1 k x0 x4 x6 0) else (peristyleref11_Ints.l2 k x0 x4 ([] : List Int) 0)
def peristyleref11_Ints.l1 : Nat → List Int → List Int → Int → Int → Option (List Int × List Int)
 | 0, _, _, _, _ => none
 | k + 1, x0, x4, x6, x7 => if x7 < (x4.length : Int) then (if 0 ≤ x7 then (if 0 ≤ x6 then (if x6 < (x0.length : Int) then (if (rd x4 x7) < (rd x0 x6) then (peristyleref11_Ints.l1 k x0 x4 x6 (wrap64 (x7 + 1))) else (if (rd x4 x7) = (rd x0 x6) then (peristyleref11_Ints.l0 k x0 x4 (wrap64 (x6 + 1))) else (if x7 ≤ (x4.length : Int) then ((some (x4.take (x7 : Int).toNat : List Int)).bind fun y282 => (if ([] : List Int).length + y282.length < 17592186044416 then ((some (([] : List Int) ++ y282 : List Int)).bind fun y286 => (if y286.length < 17592186044416 then ((some (y286 ++ [rd x0 x6] : List Int)).bind fun y290 => ((some (x4.drop (x7 : Int).toNat : List Int)).bind fun y293 => (if y290.length + y293.length < 17592186044416 then (peristyleref11_Ints.l0 k x0 (y290 ++ y293) (wrap64 (x6 + 1))) else (none)))) else (none))) else (none))) else (none)))) else (none)) else (none)) else (none)) else (if 0 ≤ x7 then (if x7 ≤ (x4.length : Int) then ((some (x4.take (x7 : Int).toNat : List Int)).bind fun y300 => (if ([] : List Int).length + y300.length < 17592186044416 then ((some (([] : List Int) ++ y300 : List Int)).bind fun y304 => (if 0 ≤ x6 then (if x6 < (x0.length : Int) then (if y304.length < 17592186044416 then ((some (y304 ++ [rd x0 x6] : List Int)).bind fun y308 => ((some (x4.drop (x7 : Int).toNat : List Int)).bind fun y311 => (if y308.length + y311.length < 17592186044416 then (peristyleref11_Ints.l0 k x0 (y308 ++ y311) (wrap64 (x6 + 1))) else (none)))) else (none)) else (none)) else (none))) else (none))) else (none)) else (none))
def peristyleref11_Ints.l2 : Nat → List Int → List Int → List Int → Int → Option (List Int × List Int)
 | 0, _, _, _, _ => none
 | k + 1, x0, x4, x5, x9 => if x9 < (x0.length : Int) then (peristyleref11_Ints.l3 k x0 x4 x5 x9 0) else (some (x4, x5))
def peristyleref11_Ints.l3 : Nat → List Int → List Int → List Int → Int → Int → Option (List Int × List Int)
 | 0, _, _, _, _, _ => none
 | k + 1, x0, x4, x5, x9, x10 => if 0 ≤ x10 then (if x10 < (x4.length : Int) then (if 0 ≤ x9 then (if x9 < (x0.length : Int) then (if (rd x4 x10) = (rd x0 x9) then (if x5.length < 17592186044416 then (peristyleref11_Ints.l2 k x0 x4 (x5 ++ [x10]) (wrap64 (x9 + 1))) else (none)) else (peristyleref11_Ints.l3 k x0 x4 x5 x9 (wrap64 (x10 + 1)))) else (none)) else (none)) else (none)) else (none)
end
def peristyleref11_Ints.f (k : Nat) (l0 : List Int) : Option (List Int × List Int) := peristyleref11_Ints.l0 k l0 ([] : List Int) 0
theorem peristyleref11_Ints.l0_succ (k) (a0) (a1) (a2) : type_of% (@peristyleref11_Ints.l0.eq_2 a0 a1 a2 k) := peristyleref11_Ints.l0.eq_2 a0 a1 a2 k
theorem peristyleref11_Ints.l1_succ (k) (a0) (a1) (a2) (a3) : type_of% (@peristyleref11_Ints.l1.eq_2 a0 a1 a2 a3 k) := peristyleref11_Ints.l1.eq_2 a0 a1 a2 a3 k
theorem peristyleref11_Ints.l2_succ (k) (a0) (a1) (a2) (a3) : type_of% (@peristyleref11_Ints.l2.eq_2 a0 a1 a2 a3 k) := peristyleref11_Ints.l2.eq_2 a0 a1 a2 a3 k
theorem peristyleref11_Ints.l3_succ (k) (a0) (a1) (a2) (a3) (a4) : type_of% (@peristyleref11_Ints.l3.eq_2 a0 a1 a2 a3 a4 k) := peristyleref11_Ints.l3.eq_2 a0 a1 a2 a3 a4 k
set_option maxHeartbeats 8000000 in
set_option maxRecDepth 100000 in
theorem peristyleref11_Ints.calls (k : Nat) (A0 : Option Addr) (c0 : Nat) (l0 : List Int) (r1 : List Int) (r2 : List Int) (w : World) (hr0 : Kd.C (Kd.int .i64) w A0 l0.length l0) (hc0 : l0.length ≤ c0) (h : peristyleref11_Ints.f k l0 = some (r1, r2)) :
  Calls Tryz.prog 51 #[.slice A0 l0.length c0] w fun e w' => ∃ v0_ v1_ : Value, e = .returned (.tuple #[v0_, v1_]) ∧ Kd.R (Kd.int .i64) 3 w' w.heap.size (fun k_ => some k_ ≠ (v1_ : Value).ownBlock) v0_ r1 ∧ Kd.R (Kd.int .i64) 3 w' w.heap.size (fun k_ => some k_ ≠ (v0_ : Value).ownBlock) v1_ r2 ∧ Below w.heap.size w w' := by
 have HR0 := Aside0.mk hr0
 have HC0 := Aside0.mk hc0
 clear hr0 hc0
 have HB := Aside0.mk (Below.refl w.heap.size w)
 have H := h
 clear h
 unfold peristyleref11_Ints.f at H
 have H' := Aside0.mk H
 clear H
 go_enter Tryz.func51, Tryz.ntmps51
 go_wp2
 repeat (go_quiet (fail))
 go_loopg [4, 6] k (fun kq v4 v6 w' => ∃ (x4_1 : List Int) (x6_1 : Int), v6 = .int .i64 x6_1 ∧ Aside0 (peristyleref11_Ints.l0 kq l0 x4_1 x6_1 = some (r1, r2)) ∧ Aside0 (kq ≤ k) ∧ Aside0 (Kd.R (Kd.int .i64) 3 w' w.heap.size (fun _ => True) v4 x4_1) ∧ Aside0 (Below w.heap.size w w'))
 case atStart => exact ⟨(([] : List Int)), (0), (by rfl), H', ⟨Nat.le_refl _⟩, ⟨nl⟩, ⟨bh HB.out⟩⟩
 case round =>
  clear H'
  obtain ⟨x4_1, x6_1, rfl, HA, HK1, HO_4, HB⟩ := hrel
  cases gk with
  | zero => exact absurd HA.out (by simp [peristyleref11_Ints.l0])
  | succ k1 =>
   have H := HA.out
   clear HA
   simp only [peristyleref11_Ints.l0] at H
   replace H := ifd H
   rcases H with ⟨-, c2b0, H⟩ | ⟨-, c2b0, H⟩
   ·have H' := Aside0.mk H
    clear H
    go_wp2
    repeat (go_quiet (fail))
    go_loopg [7] k1 (fun kq v7 w' => ∃ (x7_2 : Int), v7 = .int .i64 x7_2 ∧ Aside0 (peristyleref11_Ints.l1 kq l0 x4_1 x6_1 x7_2 = some (r1, r2)) ∧ Aside0 (kq ≤ k1) ∧ Aside0 (Kd.R (Kd.int .i64) 3 w' w.heap.size (fun _ => True) u4 x4_1) ∧ Aside0 (Below w.heap.size w w'))
    case atStart => exact ⟨(0), (by rfl), H', ⟨Nat.le_refl _⟩, ⟨by exact HO_4.out⟩, ⟨bh HB.out⟩⟩
    case round =>
     clear H' c2b0
     obtain ⟨x7_2, rfl, HA, HK2, HO_4, HB⟩ := hrel
     cases gk with
     | zero => exact absurd HA.out (by simp [peristyleref11_Ints.l1])
     | succ k2 =>
      have H := HA.out
      clear HA
      simp only [peristyleref11_Ints.l1] at H
      replace H := ifd H
      rcases H with ⟨-, c3b0, H⟩ | ⟨-, c3b0, H⟩
      ·replace H := ifn H
       obtain ⟨-, c4b0, H⟩ := H
       replace H := ifn H
       obtain ⟨-, c5b0, H⟩ := H
       replace H := ifn H
       obtain ⟨-, c6b0, H⟩ := H
       replace H := ifd H
       rcases H with ⟨-, c7b0, H⟩ | ⟨-, c7b0, H⟩
       ·have H' := Aside0.mk H
        clear H
        obtain ⟨Ao8, co8, eo8⟩ := Kd.R_slice HO_4.out
        subst eo8
        have p278 : 0 ≤ (x7_2 : Int) := ad
        have q278 : x7_2 < (x4_1.length : Int) := ad
        obtain ⟨ad278, e278, hx278_0⟩ := Kd.at_int (Kd.R_reads' HO_4.out).2.2 x7_2 p278 q278
        cases e278
        replace p278 := eq_true p278
        replace q278 := eq_true q278
        have p279 : 0 ≤ (x6_1 : Int) := ad
        have q279 : x6_1 < (l0.length : Int) := ad
        obtain ⟨ad279, e279, hx279_0⟩ := Kd.at_int HR0.out x6_1 p279 q279
        cases e279
        replace hx279_0 := cb HB.out.cell hx279_0
        replace p279 := eq_true p279
        replace q279 := eq_true q279
        go_wp2
        repeat (go_quiet (fail); go_wp2)
        go_roundg k2
        case measure => have := HK1.out; have := HK2.out; omega
        case rel => exact ⟨(wrap64 (x7_2 + 1)), (by rfl), H', ⟨by have := HK1.out; have := HK2.out; omega⟩, ⟨by (with_reducible repeat (apply Kd.R_drewN)); exact HO_4.out⟩, ⟨bh HB.out⟩⟩
       ·replace H := ife H
        rcases H with ⟨-, c9b0, c9b1, H⟩ | ⟨c9, c9b0, c9b1, H⟩
        ·have H' := Aside0.mk H
         clear H
         obtain ⟨Ao10, co10, eo10⟩ := Kd.R_slice HO_4.out
         subst eo10
         have p278 : 0 ≤ (x7_2 : Int) := ad
         have q278 : x7_2 < (x4_1.length : Int) := ad
         obtain ⟨ad278, e278, hx278_0⟩ := Kd.at_int (Kd.R_reads' HO_4.out).2.2 x7_2 p278 q278
         cases e278
         replace p278 := eq_true p278
         replace q278 := eq_true q278
         have p279 : 0 ≤ (x6_1 : Int) := ad
         have q279 : x6_1 < (l0.length : Int) := ad
         obtain ⟨ad279, e279, hx279_0⟩ := Kd.at_int HR0.out x6_1 p279 q279
         cases e279
         replace hx279_0 := cb HB.out.cell hx279_0
         replace p279 := eq_true p279
         replace q279 := eq_true q279
         have p280 : 0 ≤ (x7_2 : Int) := ad
         have q280 : x7_2 < (x4_1.length : Int) := ad
         obtain ⟨ad280, e280, hx280_0⟩ := Kd.at_int (Kd.R_reads' HO_4.out).2.2 x7_2 p280 q280
         obtain rfl : ad278 = ad280 := (by injection e280)
         replace p280 := eq_true p280
         replace q280 := eq_true q280
         have p281 : 0 ≤ (x6_1 : Int) := ad
         have q281 : x6_1 < (l0.length : Int) := ad
         obtain ⟨ad281, e281, hx281_0⟩ := Kd.at_int HR0.out x6_1 p281 q281
         obtain rfl : ad279 = ad281 := (by injection e281)
         replace hx281_0 := cb HB.out.cell hx281_0
         replace p281 := eq_true p281
         replace q281 := eq_true q281
         go_wp2
         repeat (go_quiet (fail); go_wp2)
         go_roundg k2
         case measure => have := HK1.out; have := HK2.out; omega
         case rel => exact ⟨(x4_1), (wrap64 (x6_1 + 1)), (by rfl), H', ⟨by have := HK1.out; have := HK2.out; omega⟩, ⟨by (with_reducible repeat (apply Kd.R_drewN)); exact HO_4.out⟩, ⟨bh HB.out⟩⟩
        ·have c11b0 := eq_true (of_decide_eq_true (by assumption) : 0 ≤ x7_2)
         replace H := ifn H
         obtain ⟨c12, -, H⟩ := H
         have c12b0 := eq_true c12
         have c12b1 : decide (x7_2 ≤ (x4_1.length : Int)) = true := decide_eq_true c12
         clear c12
         obtain ⟨y282, hy282⟩ : ∃ y_ : List Int, y_ = (x4_1.take (x7_2 : Int).toNat) := ⟨_, rfl⟩
         replace H : (if ([] : List Int).length + y282.length < 17592186044416 then ((some (([] : List Int) ++ y282 : List Int)).bind fun y286 => (if y286.length < 17592186044416 then ((some (y286 ++ [rd l0 x6_1] : List Int)).bind fun y290 => ((some (x4_1.drop (x7_2 : Int).toNat : List Int)).bind fun y293 => (if y290.length + y293.length < 17592186044416 then (peristyleref11_Ints.l0 k2 l0 (y290 ++ y293) (wrap64 (x6_1 + 1))) else (none)))) else (none))) else (none)) = some (r1, r2) := by (have H2_ := (Option.bind_some _ _).symm.trans H; rw [hy282]; with_reducible exact H2_)
         have Ny282 := Aside0.mk hy282
         clear hy282
         replace H := ifn H
         obtain ⟨c13, -, H⟩ := H
         have LMc13 := Aside0.mk c13
         clear c13
         obtain ⟨y286, hy286⟩ : ∃ y_ : List Int, y_ = (([] : List Int) ++ y282) := ⟨_, rfl⟩
         replace H : (if y286.length < 17592186044416 then ((some (y286 ++ [rd l0 x6_1] : List Int)).bind fun y290 => ((some (x4_1.drop (x7_2 : Int).toNat : List Int)).bind fun y293 => (if y290.length + y293.length < 17592186044416 then (peristyleref11_Ints.l0 k2 l0 (y290 ++ y293) (wrap64 (x6_1 + 1))) else (none)))) else (none)) = some (r1, r2) := by (have H2_ := (Option.bind_some _ _).symm.trans H; rw [hy286]; with_reducible exact H2_)
         have Ny286 := Aside0.mk hy286
         clear hy286
         replace H := ifn H
         obtain ⟨c14, -, H⟩ := H
         have LMc14 := Aside0.mk c14
         clear c14
         obtain ⟨y290, hy290⟩ : ∃ y_ : List Int, y_ = (y286 ++ [rd l0 x6_1]) := ⟨_, rfl⟩
         replace H : ((some (x4_1.drop (x7_2 : Int).toNat : List Int)).bind fun y293 => (if y290.length + y293.length < 17592186044416 then (peristyleref11_Ints.l0 k2 l0 (y290 ++ y293) (wrap64 (x6_1 + 1))) else (none))) = some (r1, r2) := by (have H2_ := (Option.bind_some _ _).symm.trans H; rw [hy290]; with_reducible exact H2_)
         have Ny290 := Aside0.mk hy290
         clear hy290
         have c15b0 := eq_true (of_decide_eq_true (by assumption) : 0 ≤ x7_2)
         have c16b0 := eq_true (of_decide_eq_true (by assumption) : x7_2 ≤ (x4_1.length : Int))
         obtain ⟨y293, hy293⟩ : ∃ y_ : List Int, y_ = (x4_1.drop (x7_2 : Int).toNat) := ⟨_, rfl⟩
         replace H : (if y290.length + y293.length < 17592186044416 then (peristyleref11_Ints.l0 k2 l0 (y290 ++ y293) (wrap64 (x6_1 + 1))) else (none)) = some (r1, r2) := by (have H2_ := (Option.bind_some _ _).symm.trans H; rw [hy293]; with_reducible exact H2_)
         have Ny293 := Aside0.mk hy293
         clear hy293
         replace H := ifn H
         obtain ⟨c17, -, H⟩ := H
         have LMc17 := Aside0.mk c17
         clear c17
         obtain ⟨y297, hy297⟩ : ∃ y_ : List Int, y_ = (y290 ++ y293) := ⟨_, rfl⟩
         replace H : (peristyleref11_Ints.l0 k2 l0 y297 (wrap64 (x6_1 + 1))) = some (r1, r2) := by (rw [hy297]; with_reducible exact H)
         have Ny297 := Aside0.mk hy297
         clear hy297
         have H' := Aside0.mk H
         clear H
         obtain ⟨Ao18, co18, eo18⟩ := Kd.R_slice HO_4.out
         subst eo18
         have p278 : 0 ≤ (x7_2 : Int) := ad
         have q278 : x7_2 < (x4_1.length : Int) := ad
         obtain ⟨ad278, e278, hx278_0⟩ := Kd.at_int (Kd.R_reads' HO_4.out).2.2 x7_2 p278 q278
         cases e278
         replace p278 := eq_true p278
         replace q278 := eq_true q278
         have p279 : 0 ≤ (x6_1 : Int) := ad
         have q279 : x6_1 < (l0.length : Int) := ad
         obtain ⟨ad279, e279, hx279_0⟩ := Kd.at_int HR0.out x6_1 p279 q279
         cases e279
         replace hx279_0 := cb HB.out.cell hx279_0
         replace p279 := eq_true p279
         replace q279 := eq_true q279
         have p280 : 0 ≤ (x7_2 : Int) := ad
         have q280 : x7_2 < (x4_1.length : Int) := ad
         obtain ⟨ad280, e280, hx280_0⟩ := Kd.at_int (Kd.R_reads' HO_4.out).2.2 x7_2 p280 q280
         obtain rfl : ad278 = ad280 := (by injection e280)
         replace p280 := eq_true p280
         replace q280 := eq_true q280
         have p281 : 0 ≤ (x6_1 : Int) := ad
         have q281 : x6_1 < (l0.length : Int) := ad
         obtain ⟨ad281, e281, hx281_0⟩ := Kd.at_int HR0.out x6_1 p281 q281
         obtain rfl : ad279 = ad281 := (by injection e281)
         replace hx281_0 := cb HB.out.cell hx281_0
         replace p281 := eq_true p281
         replace q281 := eq_true q281
         have q19 : (x7_2 : Int) ≤ ((x4_1.length : Int) : Int) := ad
         obtain ⟨i019, hi019, _, hsz19, _⟩ := info_parts info3
         have hroom19 : x4_1.length ≤ co18 := (Kd.R_reads' HO_4.out).2.1
         have hC19 : Kd.C (Kd.int .i64) _ (some ad278) x4_1.length x4_1 := (Kd.R_reads' HO_4.out).2.2
         have hcut19 := cut_to (P := Tryz.prog) 23 3 .i64 Tryz.underlying23 hi019 (some ad278) x4_1.length co18 x7_2 (of_decide_eq_true (by assumption)) q19 hroom19
         have hr19 := Kd.C_take (m := (x7_2 : Int).toNat) hC19 (by omega)
         have hy19 : y282.length = (x7_2 : Int).toNat := (by rw [Ny282.out, List.length_take]; omega)
         rw [← Ny282.out] at hr19
         rw [← hy19] at hcut19
         have HR285 := Aside0.mk hr19
         have HC285 := Aside0.mk (show y282.length ≤ co18 from by omega)
         clear hr19 hC19 hroom19 hi019 hsz19
         have KY19 := Aside0.mk hy19
         clear hy19
         have KL19 := Aside0.mk (show (x7_2 : Int).toNat ≤ x4_1.length from by omega)
         replace q19 := eq_true q19
         go_wp2_with (fail)
         repeat (go_quiet (fail); go_wp2_with (first | ((with_reducible refine gate_builtin (b := .append) (xs := #[.tmp 49, .tmp 52]) rfl ?_); at_builtin; refine Kd.R_append_rows (Kd.int .i64) (w0 := w) w.heap.size rfl (.tmp 49) (.tmp 52) 23 3 (.int .i64 0) 8 rfl Tryz.underlying23 info3 rfl (by decide) (by omega) (.slice none 0 0) ([] : List Int) y282 _ _ _ (fun k_ => some k_ ≠ (.slice (some ad278) x4_1.length co18 : Value).ownBlock) (fun _ => False) rfl rfl ?aO ?aR (fun _ _ h => h) (fun _ h => h.elim) ?aF ?aB ?aS ?aL ?_; (case aR => repeat (exact (by repeat (exact HR285.out)))); (case aB => exact (bh HB.out)); (case aF => exact (fun k_ hk => Kd.fresh' (Kd.R_lt (rx HO_4.out)) k_ hk)); (case aO => exact ((Kd.R_nil _ _ _ _ (fun k_ => some k_ ≠ (.slice (some ad278) x4_1.length co18 : Value).ownBlock)))); (case aS => exact (below_size (bh HB.out))); (case aL => have := LMc13.out; omega); intro v287 w20 ho hb hg hat; rw [← Ny286.out] at ho; replace HB := Aside0.mk (hb); replace HR285 := Aside0.mk ((show Kd.C (Kd.int .i64) w20 (some ad278) y282.length y282 from by rw [Ny282.out]; exact Kd.C_take (m := (x7_2 : Int).toNat) ((Kd.R_reads' (Kd.R_after (Kd.R_apart_nil (rx HO_4.out)) hg hat)).2.2) KL19.out)); replace HO_4 := Aside0.mk (Kd.R_after (Kd.R_apart_nil (rx HO_4.out)) hg hat); have HO288 := Aside0.mk (ho); clear ho hb hg hat; have p289 : 0 ≤ (x6_1 : Int) := ad; have q289 : x6_1 < (l0.length : Int) := ad; obtain ⟨ad289, e289, hx289_0⟩ := Kd.at_int HR0.out x6_1 p289 q289; obtain rfl : ad279 = ad289 := (by injection e289); replace hx289_0 := cb HB.out.cell hx289_0; replace p289 := eq_true p289; replace q289 := eq_true q289) | ((with_reducible refine gate_builtin (b := .append) (xs := #[.tmp 54, .tmp 59]) rfl ?_); at_builtin; refine Kd.R_append (Kd.int .i64) (w0 := w) w.heap.size rfl (.tmp 54) (.tmp 59) 23 3 (.int .i64 0) 8 rfl Tryz.underlying23 info3 rfl (by decide) (by omega) v287 y286 (rd l0 x6_1) [.int .i64 (rd l0 x6_1)] (fun k_ => some k_ ≠ (.slice (some ad278) x4_1.length co18 : Value).ownBlock) (fun _ => False) rfl rfl ?aP (fun _ hk => hk.elim) ?aF ?aO ?aB ?aS ?aL ?_; (case aP => exact rfl); (case aB => exact (bh HB.out)); (case aF => exact (fun k_ hk => Kd.fresh' (Kd.R_lt (rx HO_4.out)) k_ hk)); (case aO => exact (rx HO288.out)); (case aS => exact (below_size (bh HB.out))); (case aL => have := LMc14.out; omega); intro v291 w21 ho hb hg hat; rw [← Ny290.out] at ho; have n0_ := Aside0.mk (Kd.R_after (ok := (fun _ => True)) (rx HO_4.out) hg hat); have n1_ := Aside0.mk (hb); have n2_ := Aside0.mk ((show Kd.C (Kd.int .i64) w21 (some ad278) y282.length y282 from by rw [Ny282.out]; exact Kd.C_take (m := (x7_2 : Int).toNat) ((Kd.R_reads' (Kd.R_after (ok := (fun _ => True)) (rx HO_4.out) hg hat)).2.2) KL19.out)); have n3_ := Aside0.mk (ho); clear HO_4 HB HR285 HO288; have HO_4 := n0_; have HB := n1_; have HR285 := n2_; have HO292 := n3_; clear n0_ n1_ n2_ n3_ ho hb hg hat; have q22 : (x7_2 : Int) ≤ ((x4_1.length : Int) : Int) := ad; obtain ⟨i022, hi022, _, hsz22, _⟩ := info_parts info3; have hroom22 : x4_1.length ≤ co18 := (Kd.R_reads' HO_4.out).2.1; have hC22 : Kd.C (Kd.int .i64) _ (some ad278) x4_1.length x4_1 := (Kd.R_reads' HO_4.out).2.2; have q022 : (0 : Int) ≤ (x7_2 : Int) := ad; have hcut22 := cut_from (P := Tryz.prog) 23 3 .i64 Tryz.underlying23 hi022 1 hsz22 (some ad278) x4_1.length co18 x7_2 q022 q22; have hr22 := Kd.C_drop (m := (x7_2 : Int).toNat) (c := co18) hC22 (by omega) hroom22; obtain ⟨A22, hA22⟩ : ∃ A1, A1 = (if co18 = (x7_2 : Int).toNat then (some ad278) else ((some ad278) : Option Addr).map (·.add ((x7_2 : Int).toNat * 1))) := ⟨_, rfl⟩; obtain ⟨c22, hc22⟩ : ∃ c1, c1 = co18 - (x7_2 : Int).toNat := ⟨_, rfl⟩; have hy22 : y293.length = x4_1.length - (x7_2 : Int).toNat := (by rw [Ny293.out, List.length_drop] <;> omega); rw [show (x4_1).drop (x7_2 : Int).toNat = y293 from Ny293.out.symm] at hr22; replace hr22 : Kd.C (Kd.int .i64) _ A22 y293.length y293 := (by rw [hA22]; exact hr22); rw [← hy22, ← hA22, ← hc22] at hcut22; have HR296 := Aside0.mk hr22; have HC296 := Aside0.mk (show y293.length ≤ c22 from by rw [hy22, hc22]; exact Nat.sub_le_sub_right hroom22 _); clear hr22 hC22 hroom22 hi022 hsz22 hc22; have KY22 := Aside0.mk hy22; have KA22 := Aside0.mk hA22; clear hy22 hA22; have KL22 := Aside0.mk (show (x7_2 : Int).toNat ≤ x4_1.length from by omega); replace q22 := eq_true q22) | ((with_reducible refine gate_builtin (b := .append) (xs := #[.tmp 61, .tmp 64]) rfl ?_); at_builtin; refine Kd.R_append_rows (Kd.int .i64) (w0 := w) w.heap.size rfl (.tmp 61) (.tmp 64) 23 3 (.int .i64 0) 8 rfl Tryz.underlying23 info3 rfl (by decide) (by omega) v291 y290 y293 _ _ _ (fun k_ => some k_ ≠ (.slice (some ad278) x4_1.length co18 : Value).ownBlock) (fun _ => False) rfl rfl ?aO ?aR (fun _ _ h => h) (fun _ h => h.elim) ?aF ?aB ?aS ?aL ?_; (case aR => repeat (exact (by repeat (exact HR296.out)))); (case aB => exact (bh HB.out)); (case aF => exact (fun k_ hk => Kd.fresh' (Kd.R_lt (rx HO_4.out)) k_ hk)); (case aO => exact (rx HO292.out)); (case aS => exact (below_size (bh HB.out))); (case aL => have := LMc17.out; omega); intro v298 w23 ho hb hg hat; rw [← Ny297.out] at ho; have n0_ := Aside0.mk (Kd.R_after (ok := (fun _ => True)) (rx HO_4.out) hg hat); have n1_ := Aside0.mk (hb); have n2_ := Aside0.mk ((show Kd.C (Kd.int .i64) w23 (some ad278) y282.length y282 from by rw [Ny282.out]; exact Kd.C_take (m := (x7_2 : Int).toNat) ((Kd.R_reads' (Kd.R_after (ok := (fun _ => True)) (rx HO_4.out) hg hat)).2.2) KL19.out)); have n3_ := Aside0.mk ((show Kd.C (Kd.int .i64) w23 A22 y293.length y293 from by rw [Ny293.out, KA22.out]; exact Kd.C_drop (m := (x7_2 : Int).toNat) (c := co18) ((Kd.R_reads' (Kd.R_after (ok := (fun _ => True)) (rx HO_4.out) hg hat)).2.2) KL22.out ((Kd.R_reads' (Kd.R_after (ok := (fun _ => True)) (rx HO_4.out) hg hat)).2.1))); have n4_ := Aside0.mk (ho); clear HO_4 HB HR285 HR296 HO292; have HO_4 := n0_; have HB := n1_; have HR285 := n2_; have HR296 := n3_; have HO299 := n4_; clear n0_ n1_ n2_ n3_ n4_ ho hb hg hat)))
         go_roundg k2
         case measure => have := HK1.out; have := HK2.out; omega
         case rel => exact ⟨(y297), (wrap64 (x6_1 + 1)), (by rfl), H', ⟨by have := HK1.out; have := HK2.out; omega⟩, ⟨by exact Kd.R_mono HO299.out (fun _ hk => trivial)⟩, ⟨bh HB.out⟩⟩
      ·replace H := ifn H
       obtain ⟨c24, -, H⟩ := H
       have c24b0 := eq_true c24
       have c24b1 : decide (0 ≤ x7_2) = true := decide_eq_true c24
       clear c24
       replace H := ifn H
       obtain ⟨c25, -, H⟩ := H
       have c25b0 := eq_true c25
       have c25b1 : decide (x7_2 ≤ (x4_1.length : Int)) = true := decide_eq_true c25
       clear c25
       obtain ⟨y300, hy300⟩ : ∃ y_ : List Int, y_ = (x4_1.take (x7_2 : Int).toNat) := ⟨_, rfl⟩
       replace H : (if ([] : List Int).length + y300.length < 17592186044416 then ((some (([] : List Int) ++ y300 : List Int)).bind fun y304 => (if 0 ≤ x6_1 then (if x6_1 < (l0.length : Int) then (if y304.length < 17592186044416 then ((some (y304 ++ [rd l0 x6_1] : List Int)).bind fun y308 => ((some (x4_1.drop (x7_2 : Int).toNat : List Int)).bind fun y311 => (if y308.length + y311.length < 17592186044416 then (peristyleref11_Ints.l0 k2 l0 (y308 ++ y311) (wrap64 (x6_1 + 1))) else (none)))) else (none)) else (none)) else (none))) else (none)) = some (r1, r2) := by (have H2_ := (Option.bind_some _ _).symm.trans H; rw [hy300]; with_reducible exact H2_)
       have Ny300 := Aside0.mk hy300
       clear hy300
       replace H := ifn H
       obtain ⟨c26, -, H⟩ := H
       have LMc26 := Aside0.mk c26
       clear c26
       obtain ⟨y304, hy304⟩ : ∃ y_ : List Int, y_ = (([] : List Int) ++ y300) := ⟨_, rfl⟩
       replace H : (if 0 ≤ x6_1 then (if x6_1 < (l0.length : Int) then (if y304.length < 17592186044416 then ((some (y304 ++ [rd l0 x6_1] : List Int)).bind fun y308 => ((some (x4_1.drop (x7_2 : Int).toNat : List Int)).bind fun y311 => (if y308.length + y311.length < 17592186044416 then (peristyleref11_Ints.l0 k2 l0 (y308 ++ y311) (wrap64 (x6_1 + 1))) else (none)))) else (none)) else (none)) else (none)) = some (r1, r2) := by (have H2_ := (Option.bind_some _ _).symm.trans H; rw [hy304]; with_reducible exact H2_)
       have Ny304 := Aside0.mk hy304
       clear hy304
       replace H := ifn H
       obtain ⟨-, c27b0, H⟩ := H
       replace H := ifn H
       obtain ⟨-, c28b0, H⟩ := H
       replace H := ifn H
       obtain ⟨c29, -, H⟩ := H
       have LMc29 := Aside0.mk c29
       clear c29
       obtain ⟨y308, hy308⟩ : ∃ y_ : List Int, y_ = (y304 ++ [rd l0 x6_1]) := ⟨_, rfl⟩
       replace H : ((some (x4_1.drop (x7_2 : Int).toNat : List Int)).bind fun y311 => (if y308.length + y311.length < 17592186044416 then (peristyleref11_Ints.l0 k2 l0 (y308 ++ y311) (wrap64 (x6_1 + 1))) else (none))) = some (r1, r2) := by (have H2_ := (Option.bind_some _ _).symm.trans H; rw [hy308]; with_reducible exact H2_)
       have Ny308 := Aside0.mk hy308
       clear hy308
       have c30b0 := eq_true (of_decide_eq_true (by assumption) : 0 ≤ x7_2)
       have c31b0 := eq_true (of_decide_eq_true (by assumption) : x7_2 ≤ (x4_1.length : Int))
       obtain ⟨y311, hy311⟩ : ∃ y_ : List Int, y_ = (x4_1.drop (x7_2 : Int).toNat) := ⟨_, rfl⟩
       replace H : (if y308.length + y311.length < 17592186044416 then (peristyleref11_Ints.l0 k2 l0 (y308 ++ y311) (wrap64 (x6_1 + 1))) else (none)) = some (r1, r2) := by (have H2_ := (Option.bind_some _ _).symm.trans H; rw [hy311]; with_reducible exact H2_)
       have Ny311 := Aside0.mk hy311
       clear hy311
       replace H := ifn H
       obtain ⟨c32, -, H⟩ := H
       have LMc32 := Aside0.mk c32
       clear c32
       obtain ⟨y315, hy315⟩ : ∃ y_ : List Int, y_ = (y308 ++ y311) := ⟨_, rfl⟩
       replace H : (peristyleref11_Ints.l0 k2 l0 y315 (wrap64 (x6_1 + 1))) = some (r1, r2) := by (rw [hy315]; with_reducible exact H)
       have Ny315 := Aside0.mk hy315
       clear hy315
       have H' := Aside0.mk H
       clear H
       obtain ⟨Ao33, co33, eo33⟩ := Kd.R_slice HO_4.out
       subst eo33
       have q34 : (x7_2 : Int) ≤ ((x4_1.length : Int) : Int) := ad
       obtain ⟨i034, hi034, _, hsz34, _⟩ := info_parts info3
       have hroom34 : x4_1.length ≤ co33 := (Kd.R_reads' HO_4.out).2.1
       have hC34 : Kd.C (Kd.int .i64) _ Ao33 x4_1.length x4_1 := (Kd.R_reads' HO_4.out).2.2
       have hcut34 := cut_to (P := Tryz.prog) 23 3 .i64 Tryz.underlying23 hi034 Ao33 x4_1.length co33 x7_2 (of_decide_eq_true (by assumption)) q34 hroom34
       have hr34 := Kd.C_take (m := (x7_2 : Int).toNat) hC34 (by omega)
       have hy34 : y300.length = (x7_2 : Int).toNat := (by rw [Ny300.out, List.length_take]; omega)
       rw [← Ny300.out] at hr34
       rw [← hy34] at hcut34
       have HR303 := Aside0.mk hr34
       have HC303 := Aside0.mk (show y300.length ≤ co33 from by omega)
       clear hr34 hC34 hroom34 hi034 hsz34
       have KY34 := Aside0.mk hy34
       clear hy34
       have KL34 := Aside0.mk (show (x7_2 : Int).toNat ≤ x4_1.length from by omega)
       replace q34 := eq_true q34
       go_wp2_with (fail)
       repeat (go_quiet (fail); go_wp2_with (first | ((with_reducible refine gate_builtin (b := .append) (xs := #[.tmp 49, .tmp 52]) rfl ?_); at_builtin; refine Kd.R_append_rows (Kd.int .i64) (w0 := w) w.heap.size rfl (.tmp 49) (.tmp 52) 23 3 (.int .i64 0) 8 rfl Tryz.underlying23 info3 rfl (by decide) (by omega) (.slice none 0 0) ([] : List Int) y300 _ _ _ (fun k_ => some k_ ≠ (.slice Ao33 x4_1.length co33 : Value).ownBlock) (fun _ => False) rfl rfl ?aO ?aR (fun _ _ h => h) (fun _ h => h.elim) ?aF ?aB ?aS ?aL ?_; (case aR => repeat (exact (by repeat (exact HR303.out)))); (case aB => exact (bh HB.out)); (case aF => exact (fun k_ hk => Kd.fresh' (Kd.R_lt (rx HO_4.out)) k_ hk)); (case aO => exact ((Kd.R_nil _ _ _ _ (fun k_ => some k_ ≠ (.slice Ao33 x4_1.length co33 : Value).ownBlock)))); (case aS => exact (below_size (bh HB.out))); (case aL => have := LMc26.out; omega); intro v305 w35 ho hb hg hat; rw [← Ny304.out] at ho; replace HB := Aside0.mk (hb); replace HR303 := Aside0.mk ((show Kd.C (Kd.int .i64) w35 Ao33 y300.length y300 from by rw [Ny300.out]; exact Kd.C_take (m := (x7_2 : Int).toNat) ((Kd.R_reads' (Kd.R_after (Kd.R_apart_nil (rx HO_4.out)) hg hat)).2.2) KL34.out)); replace HO_4 := Aside0.mk (Kd.R_after (Kd.R_apart_nil (rx HO_4.out)) hg hat); have HO306 := Aside0.mk (ho); clear ho hb hg hat; have p307 : 0 ≤ (x6_1 : Int) := ad; have q307 : x6_1 < (l0.length : Int) := ad; obtain ⟨ad307, e307, hx307_0⟩ := Kd.at_int HR0.out x6_1 p307 q307; cases e307; replace hx307_0 := cb HB.out.cell hx307_0; replace p307 := eq_true p307; replace q307 := eq_true q307) | ((with_reducible refine gate_builtin (b := .append) (xs := #[.tmp 54, .tmp 59]) rfl ?_); at_builtin; refine Kd.R_append (Kd.int .i64) (w0 := w) w.heap.size rfl (.tmp 54) (.tmp 59) 23 3 (.int .i64 0) 8 rfl Tryz.underlying23 info3 rfl (by decide) (by omega) v305 y304 (rd l0 x6_1) [.int .i64 (rd l0 x6_1)] (fun k_ => some k_ ≠ (.slice Ao33 x4_1.length co33 : Value).ownBlock) (fun _ => False) rfl rfl ?aP (fun _ hk => hk.elim) ?aF ?aO ?aB ?aS ?aL ?_; (case aP => exact rfl); (case aB => exact (bh HB.out)); (case aF => exact (fun k_ hk => Kd.fresh' (Kd.R_lt (rx HO_4.out)) k_ hk)); (case aO => exact (rx HO306.out)); (case aS => exact (below_size (bh HB.out))); (case aL => have := LMc29.out; omega); intro v309 w36 ho hb hg hat; rw [← Ny308.out] at ho; have n0_ := Aside0.mk (Kd.R_after (ok := (fun _ => True)) (rx HO_4.out) hg hat); have n1_ := Aside0.mk (hb); have n2_ := Aside0.mk ((show Kd.C (Kd.int .i64) w36 Ao33 y300.length y300 from by rw [Ny300.out]; exact Kd.C_take (m := (x7_2 : Int).toNat) ((Kd.R_reads' (Kd.R_after (ok := (fun _ => True)) (rx HO_4.out) hg hat)).2.2) KL34.out)); have n3_ := Aside0.mk (ho); clear HO_4 HB HR303 HO306; have HO_4 := n0_; have HB := n1_; have HR303 := n2_; have HO310 := n3_; clear n0_ n1_ n2_ n3_ ho hb hg hat; have q37 : (x7_2 : Int) ≤ ((x4_1.length : Int) : Int) := ad; obtain ⟨i037, hi037, _, hsz37, _⟩ := info_parts info3; have hroom37 : x4_1.length ≤ co33 := (Kd.R_reads' HO_4.out).2.1; have hC37 : Kd.C (Kd.int .i64) _ Ao33 x4_1.length x4_1 := (Kd.R_reads' HO_4.out).2.2; have q037 : (0 : Int) ≤ (x7_2 : Int) := ad; have hcut37 := cut_from (P := Tryz.prog) 23 3 .i64 Tryz.underlying23 hi037 1 hsz37 Ao33 x4_1.length co33 x7_2 q037 q37; have hr37 := Kd.C_drop (m := (x7_2 : Int).toNat) (c := co33) hC37 (by omega) hroom37; obtain ⟨A37, hA37⟩ : ∃ A1, A1 = (if co33 = (x7_2 : Int).toNat then Ao33 else (Ao33 : Option Addr).map (·.add ((x7_2 : Int).toNat * 1))) := ⟨_, rfl⟩; obtain ⟨c37, hc37⟩ : ∃ c1, c1 = co33 - (x7_2 : Int).toNat := ⟨_, rfl⟩; have hy37 : y311.length = x4_1.length - (x7_2 : Int).toNat := (by rw [Ny311.out, List.length_drop] <;> omega); rw [show (x4_1).drop (x7_2 : Int).toNat = y311 from Ny311.out.symm] at hr37; replace hr37 : Kd.C (Kd.int .i64) _ A37 y311.length y311 := (by rw [hA37]; exact hr37); rw [← hy37, ← hA37, ← hc37] at hcut37; have HR314 := Aside0.mk hr37; have HC314 := Aside0.mk (show y311.length ≤ c37 from by rw [hy37, hc37]; exact Nat.sub_le_sub_right hroom37 _); clear hr37 hC37 hroom37 hi037 hsz37 hc37; have KY37 := Aside0.mk hy37; have KA37 := Aside0.mk hA37; clear hy37 hA37; have KL37 := Aside0.mk (show (x7_2 : Int).toNat ≤ x4_1.length from by omega); replace q37 := eq_true q37) | ((with_reducible refine gate_builtin (b := .append) (xs := #[.tmp 61, .tmp 64]) rfl ?_); at_builtin; refine Kd.R_append_rows (Kd.int .i64) (w0 := w) w.heap.size rfl (.tmp 61) (.tmp 64) 23 3 (.int .i64 0) 8 rfl Tryz.underlying23 info3 rfl (by decide) (by omega) v309 y308 y311 _ _ _ (fun k_ => some k_ ≠ (.slice Ao33 x4_1.length co33 : Value).ownBlock) (fun _ => False) rfl rfl ?aO ?aR (fun _ _ h => h) (fun _ h => h.elim) ?aF ?aB ?aS ?aL ?_; (case aR => repeat (exact (by repeat (exact HR314.out)))); (case aB => exact (bh HB.out)); (case aF => exact (fun k_ hk => Kd.fresh' (Kd.R_lt (rx HO_4.out)) k_ hk)); (case aO => exact (rx HO310.out)); (case aS => exact (below_size (bh HB.out))); (case aL => have := LMc32.out; omega); intro v316 w38 ho hb hg hat; rw [← Ny315.out] at ho; have n0_ := Aside0.mk (Kd.R_after (ok := (fun _ => True)) (rx HO_4.out) hg hat); have n1_ := Aside0.mk (hb); have n2_ := Aside0.mk ((show Kd.C (Kd.int .i64) w38 Ao33 y300.length y300 from by rw [Ny300.out]; exact Kd.C_take (m := (x7_2 : Int).toNat) ((Kd.R_reads' (Kd.R_after (ok := (fun _ => True)) (rx HO_4.out) hg hat)).2.2) KL34.out)); have n3_ := Aside0.mk ((show Kd.C (Kd.int .i64) w38 A37 y311.length y311 from by rw [Ny311.out, KA37.out]; exact Kd.C_drop (m := (x7_2 : Int).toNat) (c := co33) ((Kd.R_reads' (Kd.R_after (ok := (fun _ => True)) (rx HO_4.out) hg hat)).2.2) KL37.out ((Kd.R_reads' (Kd.R_after (ok := (fun _ => True)) (rx HO_4.out) hg hat)).2.1))); have n4_ := Aside0.mk (ho); clear HO_4 HB HR303 HR314 HO310; have HO_4 := n0_; have HB := n1_; have HR303 := n2_; have HR314 := n3_; have HO317 := n4_; clear n0_ n1_ n2_ n3_ n4_ ho hb hg hat)))
       go_roundg k2
       case measure => have := HK1.out; have := HK2.out; omega
       case rel => exact ⟨(y315), (wrap64 (x6_1 + 1)), (by rfl), H', ⟨by have := HK1.out; have := HK2.out; omega⟩, ⟨by exact Kd.R_mono HO317.out (fun _ hk => trivial)⟩, ⟨bh HB.out⟩⟩
   ·have H' := Aside0.mk H
    clear H
    go_wp2
    repeat (go_quiet (fail))
    go_loopg [5, 9] k1 (fun kq v5 v9 w' => ∃ (x5_2 : List Int) (x9_2 : Int), v9 = .int .i64 x9_2 ∧ Aside0 (peristyleref11_Ints.l2 kq l0 x4_1 x5_2 x9_2 = some (r1, r2)) ∧ Aside0 (kq ≤ k1) ∧ Aside0 (Kd.R (Kd.int .i64) 3 w' w.heap.size (fun k_ => some k_ ≠ (v5 : Value).ownBlock) u4 x4_1) ∧ Aside0 (Kd.R (Kd.int .i64) 3 w' w.heap.size (fun k_ => some k_ ≠ (u4 : Value).ownBlock) v5 x5_2) ∧ Aside0 (Below w.heap.size w w'))
    case atStart => exact ⟨(([] : List Int)), (0), (by rfl), H', ⟨Nat.le_refl _⟩, ⟨by exact Kd.R_mono HO_4.out (fun _ hk => (by simp [Value.ownBlock]))⟩, ⟨nl⟩, ⟨bh HB.out⟩⟩
    case round =>
     clear H' c2b0
     obtain ⟨x5_2, x9_2, rfl, HA, HK2, HO_4, HO_5, HB⟩ := hrel
     cases gk with
     | zero => exact absurd HA.out (by simp [peristyleref11_Ints.l2])
     | succ k2 =>
      have H := HA.out
      clear HA
      simp only [peristyleref11_Ints.l2] at H
      replace H := ifd H
      rcases H with ⟨-, c39b0, H⟩ | ⟨-, c39b0, H⟩
      ·have H' := Aside0.mk H
       clear H
       go_wp2
       repeat (go_quiet (fail))
       go_loopg [10] k2 (fun kq v10 w' => ∃ (x10_3 : Int), v10 = .int .i64 x10_3 ∧ Aside0 (peristyleref11_Ints.l3 kq l0 x4_1 x5_2 x9_2 x10_3 = some (r1, r2)) ∧ Aside0 (kq ≤ k2) ∧ Aside0 (Kd.R (Kd.int .i64) 3 w' w.heap.size (fun k_ => some k_ ≠ (u5 : Value).ownBlock) u4 x4_1) ∧ Aside0 (Kd.R (Kd.int .i64) 3 w' w.heap.size (fun k_ => some k_ ≠ (u4 : Value).ownBlock) u5 x5_2) ∧ Aside0 (Below w.heap.size w w'))
       case atStart => exact ⟨(0), (by rfl), H', ⟨Nat.le_refl _⟩, ⟨by exact HO_4.out⟩, ⟨by exact HO_5.out⟩, ⟨bh HB.out⟩⟩
       case round =>
        clear H' c39b0
        obtain ⟨x10_3, rfl, HA, HK3, HO_4, HO_5, HB⟩ := hrel
        cases gk with
        | zero => exact absurd HA.out (by simp [peristyleref11_Ints.l3])
        | succ k3 =>
         have H := HA.out
         clear HA
         simp only [peristyleref11_Ints.l3] at H
         replace H := ifn H
         obtain ⟨-, c40b0, H⟩ := H
         replace H := ifn H
         obtain ⟨-, c41b0, H⟩ := H
         replace H := ifn H
         obtain ⟨-, c42b0, H⟩ := H
         replace H := ifn H
         obtain ⟨-, c43b0, H⟩ := H
         replace H := ife H
         rcases H with ⟨-, c44b0, c44b1, H⟩ | ⟨c44, c44b0, c44b1, H⟩
         ·replace H := ifn H
          obtain ⟨c45, -, H⟩ := H
          have LMc45 := Aside0.mk c45
          clear c45
          obtain ⟨y320, hy320⟩ : ∃ y_ : List Int, y_ = (x5_2 ++ [x10_3]) := ⟨_, rfl⟩
          replace H : (peristyleref11_Ints.l2 k3 l0 x4_1 y320 (wrap64 (x9_2 + 1))) = some (r1, r2) := by (rw [hy320]; with_reducible exact H)
          have Ny320 := Aside0.mk hy320
          clear hy320
          have H' := Aside0.mk H
          clear H
          obtain ⟨Ao46, co46, eo46⟩ := Kd.R_slice HO_4.out
          subst eo46
          have p318 : 0 ≤ (x10_3 : Int) := ad
          have q318 : x10_3 < (x4_1.length : Int) := ad
          obtain ⟨ad318, e318, hx318_0⟩ := Kd.at_int (Kd.R_reads' HO_4.out).2.2 x10_3 p318 q318
          cases e318
          replace p318 := eq_true p318
          replace q318 := eq_true q318
          have p319 : 0 ≤ (x9_2 : Int) := ad
          have q319 : x9_2 < (l0.length : Int) := ad
          obtain ⟨ad319, e319, hx319_0⟩ := Kd.at_int HR0.out x9_2 p319 q319
          cases e319
          replace hx319_0 := cb HB.out.cell hx319_0
          replace p319 := eq_true p319
          replace q319 := eq_true q319
          go_wp2_with (fail)
          repeat (go_quiet (fail); go_wp2_with (((with_reducible refine gate_builtin (b := .append) (xs := #[.tmp 83, .tmp 85]) rfl ?_); at_builtin; refine Kd.R_append (Kd.int .i64) (w0 := w) w.heap.size rfl (.tmp 83) (.tmp 85) 23 3 (.int .i64 0) 8 rfl Tryz.underlying23 info3 rfl (by decide) (by omega) u5 x5_2 x10_3 [.int .i64 x10_3] (fun k_ => some k_ ≠ (.slice (some ad318) x4_1.length co46 : Value).ownBlock) (fun _ => False) rfl rfl ?aP (fun _ hk => hk.elim) ?aF ?aO ?aB ?aS ?aL ?_; (case aP => exact rfl); (case aB => exact (bh HB.out)); (case aF => exact (fun k_ hk => Kd.fresh' (Kd.R_lt (rx HO_4.out)) k_ hk)); (case aO => exact (rx HO_5.out)); (case aS => exact (below_size (bh HB.out))); (case aL => have := LMc45.out; omega); intro v321 w47 ho hb hg hat; rw [← Ny320.out] at ho; have n0_ := Aside0.mk (Kd.R_after (ok := (fun _ => True)) (by (with_reducible repeat (apply Kd.R_drewN)); exact Kd.R_mono HO_4.out (fun _ hk => ⟨trivial, hk⟩)) hg hat); have n1_ := Aside0.mk (hb); have n2_ := Aside0.mk (ho); clear HO_4 HB HO_5; have HO_4 := n0_; have HB := n1_; have HO322 := n2_; clear n0_ n1_ n2_ ho hb hg hat)))
          go_roundg k3
          case measure => have := HK1.out; have := HK2.out; have := HK3.out; omega
          case rel => exact ⟨(y320), (wrap64 (x9_2 + 1)), (by rfl), H', ⟨by have := HK1.out; have := HK2.out; have := HK3.out; omega⟩, ⟨by exact Kd.R_mono HO_4.out (fun _ hk => hk.2)⟩, ⟨by exact HO322.out⟩, ⟨bh HB.out⟩⟩
         ·have H' := Aside0.mk H
          clear H
          obtain ⟨Ao48, co48, eo48⟩ := Kd.R_slice HO_4.out
          subst eo48
          have p318 : 0 ≤ (x10_3 : Int) := ad
          have q318 : x10_3 < (x4_1.length : Int) := ad
          obtain ⟨ad318, e318, hx318_0⟩ := Kd.at_int (Kd.R_reads' HO_4.out).2.2 x10_3 p318 q318
          cases e318
          replace p318 := eq_true p318
          replace q318 := eq_true q318
          have p319 : 0 ≤ (x9_2 : Int) := ad
          have q319 : x9_2 < (l0.length : Int) := ad
          obtain ⟨ad319, e319, hx319_0⟩ := Kd.at_int HR0.out x9_2 p319 q319
          cases e319
          replace hx319_0 := cb HB.out.cell hx319_0
          replace p319 := eq_true p319
          replace q319 := eq_true q319
          go_wp2
          repeat (go_quiet (fail); go_wp2)
          go_roundg k3
          case measure => have := HK1.out; have := HK2.out; have := HK3.out; omega
          case rel => exact ⟨(wrap64 (x10_3 + 1)), (by rfl), H', ⟨by have := HK1.out; have := HK2.out; have := HK3.out; omega⟩, ⟨by (with_reducible repeat (apply Kd.R_drewN)); exact HO_4.out⟩, ⟨by (with_reducible repeat (apply Kd.R_drewN)); exact HO_5.out⟩, ⟨bh HB.out⟩⟩
      ·simp only [Option.some.injEq, Prod.mk.injEq] at H
       obtain ⟨rfl, rfl⟩ := H
       go_wp2
       repeat (go_quiet (fail))
       go_ret2
       exact ⟨_, _, er, by exact HO_4.out, by exact HO_5.out, bh HB.out⟩
/-! ### peristyleref11_packed: function 52 -/
def peristyleref11_packed.f (k : Nat) (l0 : List Int) : Option (ByteArray) := (peristyleref08_Width.f k l0).bind fun t323 => ((peristyleref08_Put.f k l0 t323).bind fun bt324 => (some bt324.1))
set_option maxHeartbeats 8000000 in
set_option maxRecDepth 100000 in
theorem peristyleref11_packed.calls (k : Nat) (A0 : Option Addr) (c0 : Nat) (l0 : List Int) (r : ByteArray) (w : World) (hr0 : Kd.C (Kd.int .i64) w A0 l0.length l0) (hc0 : l0.length ≤ c0) (h : peristyleref11_packed.f k l0 = some r) :
  Calls Tryz.prog 52 #[.slice A0 l0.length c0] w fun e w' => e = .returned (.string r) ∧ Below w.heap.size w w' := by
 have HR0 := Aside0.mk hr0
 have HC0 := Aside0.mk hc0
 clear hr0 hc0
 have HB := Aside0.mk (Below.refl w.heap.size w)
 have H := h
 clear h
 unfold peristyleref11_packed.f at H
 replace H := bd H
 obtain ⟨t323, A2, H⟩ := H
 replace H := bd H
 obtain ⟨⟨t324, t325⟩, A3, H⟩ := H
 dsimp only at H
 obtain rfl := Option.some.inj H
 go_enter Tryz.func52, Tryz.ntmps52
 go_wp2_with (first | ((with_reducible refine gate_callee (f := 50) rfl ?_); refine gL 8 Tryz.func50 #[.slice A0 l0.length c0] ?_; (with_reducible refine (peristyleref08_Width.calls k _ _ l0 t323 _ ?side1 ?side2 A2.out).mono ?_); (case side1 => exact cx HR0.out); (case side2 => exact HC0.out); rintro e w4 ⟨rfl, hb⟩; refine ⟨_, rfl, ?_⟩; replace HB := bsa HB hb; clear hb) | ((with_reducible refine gate_callee (f := 49) rfl ?_); refine gL 9 Tryz.func49 #[.slice A0 l0.length c0, .int .i64 t323] ?_; (with_reducible refine (peristyleref08_Put.calls k _ _ l0 t323 t324 t325 _ ?side1 ?side2 A3.out).mono ?_); (case side1 => exact cx (Kd.C_below HR0.out HB.out)); (case side2 => exact HC0.out); rintro e w5 ⟨rfl, hb⟩; refine ⟨_, rfl, ?_⟩; replace HB := bsa HB hb; clear hb))
 go_ret
 exact ⟨er, bh HB.out⟩
end Go.Proofs.YtfohecpfenegkaaGreat.Print
end
section
namespace Go.Proofs.YtfohecpfenegkaaGreat.Print
open Go.RowKit Go.Proofs.YtfohecpfenegkaaGreatW.PrintWords Go.Proofs.YtfohecpfenegkaaGreatW.PrintLast Go.Proofs.YtfohecpfenegkaaGreatW.PrintMore
attribute [local go_sem] max2_int min2_int max_two min_two max_three min_three max_four min_four   -- for this text's walks alone
set_option linter.unusedVariables false
set_option linter.unusedSimpArgs false
/-! ### peristyleref11_PutInts: function 24 -/
def peristyleref11_PutInts.l0 : Nat → List Int → List Int → ByteArray → Int → Option (ByteArray × Int)
 | 0, _, _, _, _ => none
 | k + 1, x4, x5, x6, x7 => if x7 < (x4.length : Int) then (if 0 ≤ x7 then ((peristyleref02_Put.f k (rd x4 x7)).bind fun t334 => (if x6.size + t334.size ≤ 9223372036854775807 then (peristyleref11_PutInts.l0 k x4 x5 (x6 ++ t334) (wrap64 (x7 + 1))) else (none))) else (none)) else ((peristyleref11_packed.f k x5).bind fun t335 => (if x6.size + t335.size ≤ 9223372036854775807 then (some (x6 ++ t335, 0)) else (none)))
def peristyleref11_PutInts.f (k : Nat) (l0 : List Int) : Option (ByteArray × Int) := if (l0.length : Int) > 65536 then (some ((⟨#[]⟩ : ByteArray), 1)) else (if (l0.length : Int) = 0 then (some ((⟨#[]⟩ : ByteArray), 0)) else ((peristyleref11_Ints.f k l0).bind fun bt326 => ((peristyleref02_Put.f k (bt326.1.length : Int)).bind fun t332 => (peristyleref11_PutInts.l0 k bt326.1 bt326.2 t332 0))))
theorem peristyleref11_PutInts.l0_succ (k) (a0) (a1) (a2) (a3) : type_of% (@peristyleref11_PutInts.l0.eq_2 a0 a1 a2 a3 k) := peristyleref11_PutInts.l0.eq_2 a0 a1 a2 a3 k
set_option maxHeartbeats 8000000 in
set_option maxRecDepth 100000 in
theorem peristyleref11_PutInts.calls (k : Nat) (A0 : Option Addr) (c0 : Nat) (l0 : List Int) (r1 : ByteArray) (r2 : Int) (w : World) (hr0 : Kd.C (Kd.int .i64) w A0 l0.length l0) (hc0 : l0.length ≤ c0) (h : peristyleref11_PutInts.f k l0 = some (r1, r2)) :
  Calls Tryz.prog 24 #[.slice A0 l0.length c0] w fun e w' => e = .returned (.tuple #[.string r1, .int .i64 r2]) ∧ Below w.heap.size w w' := by
 have HR0 := Aside0.mk hr0
 have HC0 := Aside0.mk hc0
 clear hr0 hc0
 have HB := Aside0.mk (Below.refl w.heap.size w)
 have H := h
 clear h
 unfold peristyleref11_PutInts.f at H
 replace H := ifd H
 rcases H with ⟨c2, c2b0, H⟩ | ⟨c2, c2b0, H⟩
 ·have c2b1 : decide (65536 < l0.length) = true := decide_eq_true (by omega)
  clear c2
  simp only [Option.some.injEq, Prod.mk.injEq] at H
  obtain ⟨rfl, rfl⟩ := H
  go_enter Tryz.func24, Tryz.ntmps24
  go_wp2
  go_ret2
  exact ⟨er, bh HB.out⟩
 ·have c2b1 : decide (65536 < l0.length) = false := decide_eq_false (by omega)
  clear c2
  replace H := ife H
  rcases H with ⟨-, c3b0, c3b1, H⟩ | ⟨c3, c3b0, c3b1, H⟩
  ·simp only [Option.some.injEq, Prod.mk.injEq] at H
   obtain ⟨rfl, rfl⟩ := H
   go_enter Tryz.func24, Tryz.ntmps24
   go_wp2
   go_ret2
   exact ⟨er, bh HB.out⟩
  ·have c3b2 : ¬ (l0 = []) := fun h_ => c3 (by rw [h_]; rfl)
   replace H := bd H
   obtain ⟨⟨t326, t327⟩, A4, H⟩ := H
   dsimp only at H
   replace H := bd H
   obtain ⟨t332, A5, H⟩ := H
   have H' := Aside0.mk H
   clear H
   go_enter Tryz.func24, Tryz.ntmps24
   go_wp2_with (first | ((with_reducible refine gate_callee (f := 51) rfl ?_); refine gL 16 Tryz.func51 #[.slice A0 l0.length c0] ?_; (with_reducible refine (peristyleref11_Ints.calls k _ _ l0 t326 t327 _ ?side1 ?side2 A4.out).mono ?_); (case side1 => exact cx HR0.out); (case side2 => exact HC0.out); rintro e w6 ⟨v328, v330, rfl, ho0, ho1, hb⟩; refine ⟨_, rfl, ?_⟩; have HO329 := Aside0.mk (Kd.R_lower ho0 (below_size (bh HB.out))); have HO331 := Aside0.mk (Kd.R_lower ho1 (below_size (bh HB.out))); replace HB := bsa HB hb; clear hb ho0 ho1; obtain ⟨Ao7, co7, eo7⟩ := Kd.R_slice HO329.out; subst eo7) | ((with_reducible refine gate_callee (f := 46) rfl ?_); refine gL 21 Tryz.func46 #[.int .i64 (t326.length : Int)] ?_; (with_reducible refine (peristyleref02_Put.calls k (t326.length : Int) t332 _ A5.out).mono ?_); rintro e w8 ⟨rfl, hb⟩; refine ⟨_, rfl, ?_⟩; replace HO329 := rba HO329 hb; replace HO331 := rba HO331 hb; replace HB := bsa HB hb; clear hb))
   go_loopg [6, 7] k (fun kq v6 v7 w' => ∃ (x6_1 : ByteArray) (x7_1 : Int), v6 = .string x6_1 ∧ v7 = .int .i64 x7_1 ∧ Aside0 (peristyleref11_PutInts.l0 kq t326 t327 x6_1 x7_1 = some (r1, r2)) ∧ Aside0 (kq ≤ k) ∧ Aside0 (Kd.R (Kd.int .i64) 3 w' w.heap.size (fun k_ => some k_ ≠ (v330 : Value).ownBlock) (.slice Ao7 t326.length co7) t326) ∧ Aside0 (Kd.R (Kd.int .i64) 3 w' w.heap.size (fun k_ => some k_ ≠ ((.slice Ao7 t326.length co7) : Value).ownBlock) v330 t327) ∧ Aside0 (Below w.heap.size w w'))
   case atStart => exact ⟨(t332), (0), (by rfl), (by rfl), H', ⟨Nat.le_refl _⟩, ⟨by exact HO329.out⟩, ⟨by exact HO331.out⟩, ⟨bh HB.out⟩⟩
   case round =>
    clear H' c2b0 c2b1 c3 c3b0 c3b1 c3b2
    obtain ⟨x6_1, x7_1, rfl, rfl, HA, HK1, HO_4, HO_5, HB⟩ := hrel
    cases gk with
    | zero => exact absurd HA.out (by simp [peristyleref11_PutInts.l0])
    | succ k1 =>
     have H := HA.out
     clear HA
     simp only [peristyleref11_PutInts.l0] at H
     replace H := ifd H
     rcases H with ⟨-, c9b0, H⟩ | ⟨-, c9b0, H⟩
     ·replace H := ifn H
      obtain ⟨-, c10b0, H⟩ := H
      replace H := bd H
      obtain ⟨t334, A11, H⟩ := H
      replace H := ifn H
      obtain ⟨c12, -, H⟩ := H
      have c12b0 := eq_true c12
      have c12b1 : decide (x6_1.size + t334.size ≤ 9223372036854775807) = true := decide_eq_true c12
      have c12b2 : (9223372036854775807 < x6_1.size + t334.size) = False := eq_false (Nat.not_lt.2 c12)
      have H' := Aside0.mk H
      clear H
      have p333 : 0 ≤ (x7_1 : Int) := ad
      have q333 : x7_1 < (t326.length : Int) := ad
      obtain ⟨ad333, e333, hx333_0⟩ := Kd.at_int (Kd.R_reads' HO_4.out).2.2 x7_1 p333 q333
      cases e333
      replace p333 := eq_true p333
      replace q333 := eq_true q333
      go_wp2_with (((with_reducible refine gate_callee (f := 46) rfl ?_); refine gL 33 Tryz.func46 #[.int .i64 (rd t326 x7_1)] ?_; (with_reducible refine (peristyleref02_Put.calls k1 (rd t326 x7_1) t334 _ A11.out).mono ?_); rintro e w13 ⟨rfl, hb⟩; refine ⟨_, rfl, ?_⟩; replace HO_4 := rba HO_4 hb; replace HO_5 := rba HO_5 hb; replace HB := bsa HB hb; clear hb))
      go_roundg k1
      case measure => have := HK1.out; omega
      case rel => exact ⟨(x6_1 ++ t334), (wrap64 (x7_1 + 1)), (by rfl), (by rfl), H', ⟨by have := HK1.out; omega⟩, ⟨by exact HO_4.out⟩, ⟨by exact HO_5.out⟩, ⟨bh HB.out⟩⟩
     ·replace H := bd H
      obtain ⟨t335, A14, H⟩ := H
      replace H := ifn H
      obtain ⟨c15, -, H⟩ := H
      have c15b0 := eq_true c15
      have c15b1 : decide (x6_1.size + t335.size ≤ 9223372036854775807) = true := decide_eq_true c15
      have c15b2 : (9223372036854775807 < x6_1.size + t335.size) = False := eq_false (Nat.not_lt.2 c15)
      simp only [Option.some.injEq, Prod.mk.injEq] at H
      obtain ⟨rfl, rfl⟩ := H
      obtain ⟨Ao16, co16, eo16⟩ := Kd.R_slice HO_5.out
      subst eo16
      go_wp2_with (((with_reducible refine gate_callee (f := 52) rfl ?_); refine gL 37 Tryz.func52 #[.slice Ao16 t327.length co16] ?_; (with_reducible refine (peristyleref11_packed.calls k1 _ _ t327 t335 _ ?side1 ?side2 A14.out).mono ?_); (case side1 => exact cx (Kd.R_reads' HO_5.out).2.2); (case side2 => exact (Kd.R_reads' HO_5.out).2.1); rintro e w17 ⟨rfl, hb⟩; refine ⟨_, rfl, ?_⟩; replace HO_4 := rba HO_4 hb; replace HO_5 := rba HO_5 hb; replace HB := bsa HB hb; clear hb))
      go_ret2
      exact ⟨er, bh HB.out⟩
end Go.Proofs.YtfohecpfenegkaaGreat.Print
end
