-- Functions and laws: texts of the session's own and of the kit's print program, joined; what nothing names is left out.
import Derived.Test.YtjgmdjieandemaaGreatJA
import Derived.Test.YtjgmdjieandemaaGreatJW
import Derived.Test.YtjgmdjieandemaaGreatJR
section
namespace Go.Proofs.YtjgmdjieandemaaGreat.Print
open Go.RowKit Go.Proofs.YtjgmdjieandemaaGreatW.PrintWords Go.Proofs.YtjgmdjieandemaaGreatW.PrintLast Go.Proofs.YtjgmdjieandemaaGreatW.PrintMore
attribute [local go_sem] max2_int min2_int max_two min_two max_three min_three max_four min_four   -- for this text's walks alone
set_option linter.unusedVariables false
set_option linter.unusedSimpArgs false

/-! ### poslist_List_Has: function 34 -/
def poslist_List_Has.f (k : Nat) (a0_0 : Int) (l0_1 : List (S64)) (l0_2 : List Int) (l0_3 : List Int) (a1 : Int) : Option (Bool) := if a0_0 = 2 then ((words_Has.f l0_2 a1).bind fun t221 => (some t221)) else (if a0_0 = 3 then ((slices_BinarySearch_int_int.f k l0_3 a1).bind fun bt222 => (some bt222.2)) else ((span_Has.f k l0_1 a1).bind fun t224 => (some t224)))
theorem poslist_List_Has.mono : ∀ a0 a1 a2 a3 a4 k, LeO (poslist_List_Has.f k a0 a1 a2 a3 a4) (poslist_List_Has.f (k + 1) a0 a1 a2 a3 a4) := by
 intro a0 a1 a2 a3 a4 k
 unfold poslist_List_Has.f
 repeat' first | (with_reducible exact slices_BinarySearch_int_int.mono _ _ _) | (with_reducible exact span_Has.mono _ _ _) | (with_reducible exact LeO.refl _) | (with_reducible refine LeO.ite ?_ ?_) | (with_reducible refine LeO.bind ?_ (fun _ => ?_))
set_option maxHeartbeats 8000000 in
set_option maxRecDepth 100000 in
theorem poslist_List_Has.calls (k : Nat) (a0_0 : Int) (A0_1 : Option Addr) (c0_1 : Nat) (l0_1 : List (S64)) (A0_2 : Option Addr) (c0_2 : Nat) (l0_2 : List Int) (A0_3 : Option Addr) (c0_3 : Nat) (l0_3 : List Int) (a1 : Int) (r : Bool) (w : World) (hr0_1 : Kd.C k64 w A0_1 l0_1.length l0_1) (hc0_1 : l0_1.length ≤ c0_1) (hr0_2 : Kd.C (Kd.int .i64) w A0_2 l0_2.length l0_2) (hc0_2 : l0_2.length ≤ c0_2) (hr0_3 : Kd.C (Kd.int .i64) w A0_3 l0_3.length l0_3) (hc0_3 : l0_3.length ≤ c0_3) (h : poslist_List_Has.f k a0_0 l0_1 l0_2 l0_3 a1 = some r) :
  Calls Tryz.prog 34 #[.agg #[.int .i64 a0_0, .slice A0_1 l0_1.length c0_1, .slice A0_2 l0_2.length c0_2, .slice A0_3 l0_3.length c0_3], .int .i64 a1] w fun e w' => e = .returned (.bool r) ∧ Below w.heap.size w w' := by
 have hu27 := Tryz.underlying27
 have HR0_1 := Aside0.mk hr0_1
 have HC0_1 := Aside0.mk hc0_1
 clear hr0_1 hc0_1
 have HR0_2 := Aside0.mk hr0_2
 have HC0_2 := Aside0.mk hc0_2
 clear hr0_2 hc0_2
 have HR0_3 := Aside0.mk hr0_3
 have HC0_3 := Aside0.mk hc0_3
 clear hr0_3 hc0_3
 have HB := Aside0.mk (Below.refl w.heap.size w)
 have H := h
 clear h
 unfold poslist_List_Has.f at H
 replace H := ife H
 rcases H with ⟨-, c3b0, c3b1, H⟩ | ⟨c3, c3b0, c3b1, H⟩
 ·replace H := bd H
  obtain ⟨t221, A4, H⟩ := H
  obtain rfl := Option.some.inj H
  go_enter Tryz.func34, Tryz.ntmps34
  go_wp2_with (first | ((with_reducible refine gate_dst (N := 2) rfl ?_); refine boxE HB 2 27 #[.int .i64 a0_0, .slice A0_1 l0_1.length c0_1, .slice A0_2 l0_2.length c0_2, .slice A0_3 l0_3.length c0_3] ?_; clear HB; intro gb220 w5 BK220 GW220 hg hb HB; have GE220 := GW220; clear hb hg; obtain ⟨hcz6_0, hcz6_1, hcz6_2, hcz6_3, hfz6_0, hfz6_1, hfz6_2, hfz6_3⟩ := b4 BK220) | ((with_reducible refine gate_callee (f := 71) rfl ?_); refine gL 14 Tryz.func71 #[.slice A0_2 l0_2.length c0_2, .int .i64 a1] ?_; (with_reducible refine (words_Has.calls _ _ l0_2 a1 t221 _ ?side1 ?side2 A4.out).mono ?_); (case side1 => exact cx (Kd.C_below HR0_2.out HB.out)); (case side2 => exact HC0_2.out); rintro e w' ⟨rfl, ⟨nd, rfl⟩⟩; refine ⟨_, rfl, ?_⟩))
  go_ret
  exact ⟨er, bh HB.out⟩
 ·replace H := ife H
  rcases H with ⟨-, c7b0, c7b1, H⟩ | ⟨c7, c7b0, c7b1, H⟩
  ·replace H := bd H
   obtain ⟨⟨t222, t223⟩, A8, H⟩ := H
   dsimp only at H
   obtain rfl := Option.some.inj H
   go_enter Tryz.func34, Tryz.ntmps34
   go_wp2_with (first | ((with_reducible refine gate_dst (N := 2) rfl ?_); refine boxE HB 2 27 #[.int .i64 a0_0, .slice A0_1 l0_1.length c0_1, .slice A0_2 l0_2.length c0_2, .slice A0_3 l0_3.length c0_3] ?_; clear HB; intro gb220 w9 BK220 GW220 hg hb HB; have GE220 := GW220; clear hb hg; obtain ⟨hcz10_0, hcz10_1, hcz10_2, hcz10_3, hfz10_0, hfz10_1, hfz10_2, hfz10_3⟩ := b4 BK220) | ((with_reducible refine gate_callee (f := 69) rfl ?_); refine gL 21 Tryz.func69 #[.slice A0_3 l0_3.length c0_3, .int .i64 a1] ?_; (with_reducible refine (slices_BinarySearch_int_int.calls k _ _ l0_3 a1 t222 t223 _ ?side1 ?side2 A8.out).mono ?_); (case side1 => exact cx (Kd.C_below HR0_3.out HB.out)); (case side2 => exact HC0_3.out); rintro e w' ⟨rfl, ⟨nd, rfl⟩⟩; refine ⟨_, rfl, ?_⟩))
   go_ret
   exact ⟨er, bh HB.out⟩
  ·replace H := bd H
   obtain ⟨t224, A11, H⟩ := H
   obtain rfl := Option.some.inj H
   go_enter Tryz.func34, Tryz.ntmps34
   go_wp2_with (first | ((with_reducible refine gate_dst (N := 2) rfl ?_); refine boxE HB 2 27 #[.int .i64 a0_0, .slice A0_1 l0_1.length c0_1, .slice A0_2 l0_2.length c0_2, .slice A0_3 l0_3.length c0_3] ?_; clear HB; intro gb220 w12 BK220 GW220 hg hb HB; have GE220 := GW220; clear hb hg; obtain ⟨hcz13_0, hcz13_1, hcz13_2, hcz13_3, hfz13_0, hfz13_1, hfz13_2, hfz13_3⟩ := b4 BK220) | ((with_reducible refine gate_callee (f := 72) rfl ?_); refine gL 28 Tryz.func72 #[.slice A0_1 l0_1.length c0_1, .int .i64 a1] ?_; (with_reducible refine (span_Has.calls k _ _ l0_1 a1 t224 _ ?side1 ?side2 A11.out).mono ?_); (case side1 => exact cx (Kd.C_below HR0_1.out HB.out)); (case side2 => exact HC0_1.out); rintro e w14 ⟨rfl, hb⟩; refine ⟨_, rfl, ?_⟩; replace BK220 := bba BK220 hb; replace HB := bsa HB hb; clear hb))
   go_ret
   exact ⟨er, bh HB.out⟩

/-! ### bits_Width: function 111 -/
def bits_Width.l0 : Nat → Int → Int → Int → Option (Int)
 | 0, _, _, _ => none
 | k + 1, x3, x4, x5 => if x5 > 0 then (if 0 ≤ x5 then (if (shr .u64 x3 x5) > 0 then (bits_Width.l0 k (shr .u64 x3 x5) (wrap64 (x4 + x5)) (wrap64 (Int.tdiv x5 2))) else (bits_Width.l0 k x3 x4 (wrap64 (Int.tdiv x5 2)))) else (none)) else (some (wrap64 (x4 + (wrap64 (x3)))))
def bits_Width.f (k : Nat) (a0 : Int) : Option (Int) := bits_Width.l0 k (IntKind.u64.wrap (a0)) 0 32
theorem bits_Width.l0_succ (k) (a0) (a1) (a2) : type_of% (@bits_Width.l0.eq_2 a0 a1 a2 k) := bits_Width.l0.eq_2 a0 a1 a2 k
theorem bits_Width.mono_l : ∀ k, (∀ y0 y1 y2, LeO (bits_Width.l0 k y0 y1 y2) (bits_Width.l0 (k + 1) y0 y1 y2))
 | 0 => fun _ _ _ r h => by simp [bits_Width.l0] at h
 | k + 1 => by
  have ih0 := bits_Width.mono_l k
  ·intro y0 y1 y2
   unfold bits_Width.l0
   repeat' first | (with_reducible exact ih0 _ _ _) | (with_reducible exact LeO.refl _) | (with_reducible refine LeO.ite ?_ ?_)
theorem bits_Width.mono : ∀ a0 k, LeO (bits_Width.f k a0) (bits_Width.f (k + 1) a0) := by
 intro a0 k
 have ih0 := bits_Width.mono_l k
 unfold bits_Width.f
 repeat' (with_reducible exact ih0 _ _ _)
set_option maxHeartbeats 8000000 in
set_option maxRecDepth 100000 in
theorem bits_Width.calls (k : Nat) (a0 : Int) (r : Int) (w : World) (h : bits_Width.f k a0 = some r) :
  Calls Tryz.prog 111 #[.int .i64 a0] w fun e w' => e = .returned (.int .i64 r) ∧ Drawn0 w w' := by
 have H := h
 clear h
 unfold bits_Width.f at H
 have H' := Aside0.mk H
 clear H
 go_enter Tryz.func111, Tryz.ntmps111
 go_wp2
 go_loopg [3, 4, 5] k (fun kq v3 v4 v5 w' => ∃ (x3_1 : Int) (x4_1 : Int) (x5_1 : Int), v3 = .int .u64 x3_1 ∧ v4 = .int .i64 x4_1 ∧ v5 = .int .i64 x5_1 ∧ Aside0 (bits_Width.l0 kq x3_1 x4_1 x5_1 = some r) ∧ Aside0 (kq ≤ k) ∧ Drawn0 w w')
 case atStart => exact ⟨(IntKind.u64.wrap (a0)), (0), (32), (by rfl), (by rfl), (by rfl), H', ⟨Nat.le_refl _⟩, by repeat (exact Drawn0.refl _)⟩
 case round =>
  clear H'
  obtain ⟨x3_1, x4_1, x5_1, rfl, rfl, rfl, HA, HK1, ⟨m1, rfl⟩⟩ := hrel
  cases gk with
  | zero => exact absurd HA.out (by simp [bits_Width.l0])
  | succ k1 =>
   have H := HA.out
   clear HA
   simp only [bits_Width.l0] at H
   replace H := ifd H
   rcases H with ⟨-, c2b0, H⟩ | ⟨-, c2b0, H⟩
   ·replace H := ifn H
    obtain ⟨c3, -, H⟩ := H
    have c3b0 := eq_true c3
    have c3b1 : decide (0 ≤ x5_1) = true := decide_eq_true c3
    clear c3
    obtain ⟨ji4, hji4⟩ : ∃ j_ : Int, (shr .u64 x3_1 x5_1) = j_ := ⟨_, rfl⟩
    replace H : (if (ji4) > 0 then (bits_Width.l0 k1 ji4 (wrap64 (x4_1 + x5_1)) (wrap64 (Int.tdiv x5_1 2))) else (bits_Width.l0 k1 x3_1 x4_1 (wrap64 (Int.tdiv x5_1 2)))) = some r := by (rw [hji4] at H; exact H)
    have hji4_ : (x3_1 / 2 ^ min x5_1.toNat 64) = ji4 := hji4
    have hji4z : x5_1 ≤ 64 → (x3_1 / 2 ^ x5_1.toNat) = ji4 := shr_small hji4
    replace H := ifd H
    rcases H with ⟨-, c5b0, H⟩ | ⟨-, c5b0, H⟩
    ·have c6b0 := eq_true (of_decide_eq_true (by assumption) : 0 ≤ x5_1)
     have H' := Aside0.mk H
     clear H
     go_wp2
     go_roundg k1
     case measure => have := HK1.out; omega
     case rel => exact ⟨(ji4), (wrap64 (x4_1 + x5_1)), (wrap64 (Int.tdiv x5_1 2)), (by rfl), (by rfl), (by rfl), (by exact H'), ⟨by have := HK1.out; omega⟩, by repeat (first | exact Drawn0.refl _ | apply Drawn0.step)⟩
    ·have H' := Aside0.mk H
     clear H
     go_wp2
     go_roundg k1
     case measure => have := HK1.out; omega
     case rel => exact ⟨(x3_1), (x4_1), (wrap64 (Int.tdiv x5_1 2)), (by rfl), (by rfl), (by rfl), (by exact H'), ⟨by have := HK1.out; omega⟩, by repeat (first | exact Drawn0.refl _ | apply Drawn0.step)⟩
   ·obtain rfl := Option.some.inj H
    go_wp2
    go_ret
    exact ⟨by rfl, by repeat (first | exact Drawn0.refl _ | apply Drawn0.step)⟩

/-! ### bits_Next: function 94 -/
def bits_Next.f (k : Nat) (a0 : Int) (a1 : Int) : Option (Int) := if (mx a1 0) ≥ 64 then (some (-1)) else (if (shl .u64 (shr .u64 (IntKind.u64.wrap (a0)) (mx a1 0)) (mx a1 0)) = 0 then (some (-1)) else ((bits_Width.f k (wrap64 (Go.bits .and .u64 (shl .u64 (shr .u64 (IntKind.u64.wrap (a0)) (mx a1 0)) (mx a1 0)) (IntKind.u64.wrap (-(shl .u64 (shr .u64 (IntKind.u64.wrap (a0)) (mx a1 0)) (mx a1 0))))))).bind fun t225 => (some (wrap64 (t225 - 1)))))
theorem bits_Next.mono : ∀ a0 a1 k, LeO (bits_Next.f k a0 a1) (bits_Next.f (k + 1) a0 a1) := by
 intro a0 a1 k
 unfold bits_Next.f
 repeat' first | (with_reducible exact bits_Width.mono _ _) | (with_reducible exact LeO.refl _) | (with_reducible refine LeO.ite ?_ ?_) | (with_reducible refine LeO.bind ?_ (fun _ => ?_))
set_option maxHeartbeats 8000000 in
set_option maxRecDepth 100000 in
theorem bits_Next.calls (k : Nat) (a0 : Int) (a1 : Int) (r : Int) (w : World) (h : bits_Next.f k a0 a1 = some r) :
  Calls Tryz.prog 94 #[.int .i64 a0, .int .i64 a1] w fun e w' => e = .returned (.int .i64 r) ∧ Below w.heap.size w w' := by
 have HB := Aside0.mk (Below.refl w.heap.size w)
 have H := h
 clear h
 unfold bits_Next.f at H
 obtain ⟨ji3, hji3⟩ : ∃ j_ : Int, (mx a1 0) = j_ := ⟨_, rfl⟩
 replace H : (if (ji3) ≥ 64 then (some (-1)) else (if (shl .u64 (shr .u64 (IntKind.u64.wrap (a0)) (ji3)) (ji3)) = 0 then (some (-1)) else ((bits_Width.f k (wrap64 (Go.bits .and .u64 (shl .u64 (shr .u64 (IntKind.u64.wrap (a0)) (ji3)) (ji3)) (IntKind.u64.wrap (-(shl .u64 (shr .u64 (IntKind.u64.wrap (a0)) (ji3)) (ji3))))))).bind fun t225 => (some (wrap64 (t225 - 1)))))) = some r := by (rw [hji3] at H; exact H)
 ((have hji3l : 0 ≤ ji3 := by (rw [← hji3]; unfold mx; (repeat' split) <;> omega)))
 ((have hji3m : 0 ≤ ji3 := by omega))
 have hji3_ : (if a1 < 0 then 0 else a1) = ji3 := hji3
 replace H := ifd H
 rcases H with ⟨-, c4b0, H⟩ | ⟨-, c4b0, H⟩
 ·obtain rfl := Option.some.inj H
  go_enter Tryz.func94, Tryz.ntmps94
  go_wp2
  go_ret
  exact ⟨by rfl, bh HB.out⟩
 ·obtain ⟨ji5, hji5⟩ : ∃ j_ : Int, (shr .u64 (IntKind.u64.wrap (a0)) (ji3)) = j_ := ⟨_, rfl⟩
  replace H : (if (shl .u64 (ji5) (ji3)) = 0 then (some (-1)) else ((bits_Width.f k (wrap64 (Go.bits .and .u64 (shl .u64 (ji5) (ji3)) (IntKind.u64.wrap (-(shl .u64 (ji5) (ji3))))))).bind fun t225 => (some (wrap64 (t225 - 1))))) = some r := by (rw [hji5] at H; exact H)
  have hji5_ : ((IntKind.u64.wrap (a0)) / 2 ^ min (ji3).toNat 64) = ji5 := hji5
  have hji5z : (ji3) ≤ 64 → ((IntKind.u64.wrap (a0)) / 2 ^ (ji3).toNat) = ji5 := shr_small hji5
  obtain ⟨ji6, hji6⟩ : ∃ j_ : Int, (shl .u64 (ji5) (ji3)) = j_ := ⟨_, rfl⟩
  replace H : (if (ji6) = 0 then (some (-1)) else ((bits_Width.f k (wrap64 (Go.bits .and .u64 (ji6) (IntKind.u64.wrap (-(ji6)))))).bind fun t225 => (some (wrap64 (t225 - 1))))) = some r := by (rw [hji6] at H; exact H)
  have hji6_ : (IntKind.u64.wrap ((ji5) * 2 ^ min (ji3).toNat 64)) = ji6 := hji6
  have hji6z : (ji3) ≤ 64 → (IntKind.u64.wrap ((ji5) * 2 ^ (ji3).toNat)) = ji6 := shl_small hji6
  replace H := ife H
  rcases H with ⟨-, c7b0, c7b1, H⟩ | ⟨c7, c7b0, c7b1, H⟩
  ·obtain rfl := Option.some.inj H
   go_enter Tryz.func94, Tryz.ntmps94
   go_wp2
   go_ret
   exact ⟨by rfl, bh HB.out⟩
  ·replace H := bd H
   obtain ⟨t225, A8, H⟩ := H
   obtain rfl := Option.some.inj H
   go_enter Tryz.func94, Tryz.ntmps94
   go_wp2_with (((with_reducible refine gate_callee (f := 111) rfl ?_); refine gL 23 Tryz.func111 #[.int .i64 (wrap64 (Go.bits .and .u64 (ji6) (IntKind.u64.wrap (-(ji6)))))] ?_; (with_reducible refine (bits_Width.calls k (wrap64 (Go.bits .and .u64 (ji6) (IntKind.u64.wrap (-(ji6))))) t225 _ A8.out).mono ?_); rintro e w' ⟨rfl, ⟨nd, rfl⟩⟩; refine ⟨_, rfl, ?_⟩))
   go_ret
   exact ⟨by rfl, bh HB.out⟩

/-! ### poslist_List_Places_1: function 93 -/
mutual
def poslist_List_Places_1.l0 : Nat → List Int → Int → Int → Option (List (Int))
 | 0, _, _, _ => none
 | k + 1, x18, x19, x20 => if x20 < x19 then (if 0 ≤ x20 then (if x20 < (x18.length : Int) then ((bits_Next.f k (rd x18 x20) 0).bind fun t228 => (poslist_List_Places_1.l1 k x20 (rd x18 x20) t228 x18 x19 x20)) else (none)) else (none)) else (some [])
def poslist_List_Places_1.l1 : Nat → Int → Int → Int → List Int → Int → Int → Option (List (Int))
 | 0, _, _, _, _, _, _ => none
 | k + 1, x14, x15, x16, x18, x19, x20 => if x16 ≥ 0 then (((bits_Next.f k x15 (wrap64 (x16 + 1))).bind fun t229 => (poslist_List_Places_1.l1 k x14 x15 t229 x18 x19 x20)).bind fun lr_ => (some ((wrap64 ((wrap64 (64 * x14)) + x16)) :: lr_))) else (poslist_List_Places_1.l0 k x18 x19 (wrap64 (x20 + 1)))
end
def poslist_List_Places_1.f (k : Nat) (a0_0 : Int) (l0_1 : List (S64)) (l0_2 : List Int) (l0_3 : List Int) : Option (List (Int)) := poslist_List_Places_1.l0 k l0_2 (l0_2.length : Int) 0
theorem poslist_List_Places_1.l0_succ (k) (a0) (a1) (a2) : type_of% (@poslist_List_Places_1.l0.eq_2 a0 a1 a2 k) := poslist_List_Places_1.l0.eq_2 a0 a1 a2 k
theorem poslist_List_Places_1.l1_succ (k) (a0) (a1) (a2) (a3) (a4) (a5) : type_of% (@poslist_List_Places_1.l1.eq_2 a0 a1 a2 a3 a4 a5 k) := poslist_List_Places_1.l1.eq_2 a0 a1 a2 a3 a4 a5 k
theorem poslist_List_Places_1.mono_l : ∀ k, (∀ y0 y1 y2, LeO (poslist_List_Places_1.l0 k y0 y1 y2) (poslist_List_Places_1.l0 (k + 1) y0 y1 y2)) ∧ (∀ y0 y1 y2 y3 y4 y5, LeO (poslist_List_Places_1.l1 k y0 y1 y2 y3 y4 y5) (poslist_List_Places_1.l1 (k + 1) y0 y1 y2 y3 y4 y5))
 | 0 => ⟨fun _ _ _ r h => by simp [poslist_List_Places_1.l0] at h, fun _ _ _ _ _ _ r h => by simp [poslist_List_Places_1.l1] at h⟩
 | k + 1 => by
  obtain ⟨ih0, ih1⟩ := poslist_List_Places_1.mono_l k
  refine ⟨?_, ?_⟩
  ·intro y0 y1 y2
   unfold poslist_List_Places_1.l0
   repeat' first | (with_reducible exact ih1 _ _ _ _ _ _) | (with_reducible exact bits_Next.mono _ _ _) | (with_reducible exact LeO.refl _) | (with_reducible refine LeO.ite ?_ ?_) | (with_reducible refine LeO.bind ?_ (fun _ => ?_))
  ·intro y0 y1 y2 y3 y4 y5
   unfold poslist_List_Places_1.l1
   repeat' first | (with_reducible exact ih0 _ _ _) | (with_reducible exact ih1 _ _ _ _ _ _) | (with_reducible exact bits_Next.mono _ _ _) | (with_reducible exact LeO.refl _) | (with_reducible refine LeO.ite ?_ ?_) | (with_reducible refine LeO.bind ?_ (fun _ => ?_))
theorem poslist_List_Places_1.mono : ∀ a0 a1 a2 a3 k, LeO (poslist_List_Places_1.f k a0 a1 a2 a3) (poslist_List_Places_1.f (k + 1) a0 a1 a2 a3) := by
 intro a0 a1 a2 a3 k
 obtain ⟨ih0, ih1⟩ := poslist_List_Places_1.mono_l k
 unfold poslist_List_Places_1.f
 repeat' (with_reducible exact ih0 _ _ _)
set_option maxHeartbeats 8000000 in
set_option maxRecDepth 100000 in
theorem poslist_List_Places_1.iter (k : Nat) (a0_0 : Int) (A0_1 : Option Addr) (c0_1 : Nat) (l0_1 : List (S64)) (A0_2 : Option Addr) (c0_2 : Nat) (l0_2 : List Int) (A0_3 : Option Addr) (c0_3 : Nat) (l0_3 : List Int) (xs : List (Int)) (w W0 : World) (gb226 : Nat) (hr0_1 : Kd.C k64 w A0_1 l0_1.length l0_1) (hc0_1 : l0_1.length ≤ c0_1) (hr0_2 : Kd.C (Kd.int .i64) w A0_2 l0_2.length l0_2) (hc0_2 : l0_2.length ≤ c0_2) (hr0_3 : Kd.C (Kd.int .i64) w A0_3 l0_3.length l0_3) (hc0_3 : l0_3.length ≤ c0_3) (hB0 : Below w.heap.size w W0) (hg0 : W0.heap[gb226]? = some (.cells #[.int .i64 a0_0, .slice A0_1 l0_1.length c0_1, .slice A0_2 l0_2.length c0_2, .slice A0_3 l0_3.length c0_3] 27 (0, 0))) (he0 : w.heap.size ≤ gb226)  (h : poslist_List_Places_1.f k a0_0 l0_1 l0_2 l0_3 = some xs) :
  XR.Iter Tryz.prog (fun x : Int => #[.int .i64 x]) w (fun k_ => k_ = gb226) 93 #[.pointer (some ⟨gb226, 0, none⟩)] xs W0 := by
 intro n_ l_ J_ Jx_ W_ hWs_ hWf_ hJs_ hJxs_ hJB_ hY_ h0_
 refine callsIn_wide.2 ?_
 have hu27 := Tryz.underlying27
 have HR0_1 := Aside0.mk hr0_1
 have HC0_1 := Aside0.mk hc0_1
 clear hr0_1 hc0_1
 have HR0_2 := Aside0.mk hr0_2
 have HC0_2 := Aside0.mk hc0_2
 clear hr0_2 hc0_2
 have HR0_3 := Aside0.mk hr0_3
 have HC0_3 := Aside0.mk hc0_3
 clear hr0_3 hc0_3
 have H : (poslist_List_Places_1.l0 k l0_2 (l0_2.length : Int) 0) = some xs := h
 clear h
 have H' := Aside0.mk H
 clear H
 have BK226 := Aside0.mk ((hWf_ _ (Array.getElem?_eq_some_iff.1 hg0).1 rfl).trans hg0)
 have GE226 := Aside0.mk he0
 have GW226 := Aside0.mk he0
 have HB := Aside0.mk (XR.b2_refl (hJB_ _ _ _ h0_))
 obtain ⟨G_, HJ_⟩ : ∃ G', Aside0 (J_ G' [] W_) := ⟨_, ⟨h0_⟩⟩
 have HX_ := Aside0.mk (show xs = [] ++ xs from rfl)
 go_enter Tryz.func93, Tryz.ntmps93
 obtain ⟨hcz3_0, hcz3_1, hcz3_2, hcz3_3, hfz3_0, hfz3_1, hfz3_2, hfz3_3⟩ := b4 BK226
 go_wp2
 go_loopg [9] k (fun kq v20 w' => ∃ (G_ : Nat → Prop) (pre_ r : List (Int)) (x20_1 : Int), v20 = .int .i64 x20_1 ∧ Aside0 (poslist_List_Places_1.l0 kq l0_2 (l0_2.length : Int) x20_1 = some r) ∧ Aside0 (xs = pre_ ++ r) ∧ Aside0 (J_ G_ pre_ w') ∧ Aside0 (kq ≤ k) ∧ Aside0 (w'.heap[gb226]? = some (.cells #[.int .i64 a0_0, (.slice A0_1 l0_1.length c0_1), (.slice A0_2 l0_2.length c0_2), (.slice A0_3 l0_3.length c0_3)] 27 (0, 0))) ∧ Aside0 (Below w.heap.size w w'))
 case atStart => exact ⟨XR.grow G_ W_ _, [], xs, (0), (by rfl), H', ⟨HX_.out⟩, ⟨hJs_ _ _ _ _ HJ_.out (XR.B2.two (w := w) (by repeat ((with_reducible exact HB.out))))⟩, ⟨Nat.le_refl _⟩, ⟨bx BK226.out⟩, ⟨XR.B2.one (w1 := W_) (by repeat ((with_reducible exact HB.out)))⟩⟩
 case round =>
  clear H' hcz3_0 hcz3_1 hcz3_2 hcz3_3 hfz3_0 hfz3_1 hfz3_2 hfz3_3
  obtain ⟨G_, pre_, r, x20_1, rfl, HA, HX_, HJ_, HK1, BK226, HB⟩ := hrel
  have HB := Aside0.mk (XR.b2_refl HB.out)
  cases gk with
  | zero => exact absurd HA.out (by simp [poslist_List_Places_1.l0])
  | succ k1 =>
   have H := HA.out
   clear HA
   simp only [poslist_List_Places_1.l0] at H
   replace H := ifd H
   rcases H with ⟨-, c4b0, H⟩ | ⟨-, c4b0, H⟩
   ·replace H := ifn H
    obtain ⟨-, c5b0, H⟩ := H
    replace H := ifn H
    obtain ⟨-, c6b0, H⟩ := H
    replace H := bd H
    obtain ⟨t228, A7, H⟩ := H
    have H' := Aside0.mk H
    clear H
    have p227 : 0 ≤ (x20_1 : Int) := ad
    have q227 : x20_1 < (l0_2.length : Int) := ad
    obtain ⟨ad227, e227, hx227_0⟩ := Kd.at_int HR0_2.out x20_1 p227 q227
    cases e227
    replace hx227_0 := cb HB.out.cell hx227_0
    replace p227 := eq_true p227
    replace q227 := eq_true q227
    go_wp2_with (((with_reducible refine gate_callee (f := 94) rfl ?_); refine gL 15 Tryz.func94 #[.int .i64 (rd l0_2 x20_1), .int .i64 0] ?_; (with_reducible refine (bits_Next.calls k1 (rd l0_2 x20_1) 0 t228 _ A7.out).mono ?_); rintro e w8 ⟨rfl, hb⟩; refine ⟨_, rfl, ?_⟩; replace BK226 := bba BK226 hb; replace HB := Aside0.mk (XR.b2_step (by repeat ((with_reducible exact HB.out))) hb); clear hb))
    go_loopg [5] k1 (fun kq v16 w' => ∃ (G_ : Nat → Prop) (pre_ r : List (Int)) (x16_2 : Int), v16 = .int .i64 x16_2 ∧ Aside0 (poslist_List_Places_1.l1 kq x20_1 (rd l0_2 x20_1) x16_2 l0_2 (l0_2.length : Int) x20_1 = some r) ∧ Aside0 (xs = pre_ ++ r) ∧ Aside0 (J_ G_ pre_ w') ∧ Aside0 (kq ≤ k1) ∧ Aside0 (w'.heap[gb226]? = some (.cells #[.int .i64 a0_0, (.slice A0_1 l0_1.length c0_1), (.slice (some ad227) l0_2.length c0_2), (.slice A0_3 l0_3.length c0_3)] 27 (0, 0))) ∧ Aside0 (Below w.heap.size w w'))
    case atStart => exact ⟨XR.grow G_ wr _, pre_, r, (t228), (by rfl), H', ⟨HX_.out⟩, ⟨hJs_ _ _ _ _ HJ_.out (XR.B2.two (w := w) (by repeat ((with_reducible exact HB.out))))⟩, ⟨Nat.le_refl _⟩, ⟨bx BK226.out⟩, ⟨XR.B2.one (w1 := wr) (by repeat ((with_reducible exact HB.out)))⟩⟩
    case round =>
     clear H' c4b0 c5b0 c6b0 hx227_0 p227 q227
     obtain ⟨G_, pre_, r, x16_2, rfl, HA, HX_, HJ_, HK2, BK226, HB⟩ := hrel
     have HB := Aside0.mk (XR.b2_refl HB.out)
     cases gk with
     | zero => exact absurd HA.out (by simp [poslist_List_Places_1.l1])
     | succ k2 =>
      have H := HA.out
      clear HA
      simp only [poslist_List_Places_1.l1] at H
      replace H := ifd H
      rcases H with ⟨-, c9b0, H⟩ | ⟨-, c9b0, H⟩
      ·replace H := Option.bind_eq_some_iff.mp H
       obtain ⟨r2_, H, hr2_⟩ := H
       replace hr2_ : (wrap64 ((wrap64 (64 * x20_1)) + x16_2)) :: r2_ = r := Option.some.inj hr2_
       have HR2_ := Aside0.mk hr2_
       clear hr2_
       replace H := bd H
       obtain ⟨t229, A11, H⟩ := H
       have H' := Aside0.mk H
       clear H
       go_upto_region 6 with (go_in)
       refine (wpIn_wide (n := n_)).1 ?_
       obtain ⟨fn_, tm_, as_, bd_, hy_, hR_⟩ := hY_ pre_ (wrap64 ((wrap64 (64 * x20_1)) + x16_2)) r2_ _ _ (by rw [HX_.out, ← HR2_.out]) (hJs_ _ _ _ _ HJ_.out (XR.B2.two (w := w) HB.out))
       gi_wp2
       refine ⟨fun hd_ => (by cases hd_), hR_.mono ?_⟩
       rintro e_ w12 (⟨rfl, hJ3_, hsz_, hkp_⟩ | ⟨rfl, hx3_⟩)
       rotate_left
       ·gi_wp2
        go_wp2
        refine bodyPost_ret (results_none rfl _ _ _) rfl ?_
        exact ⟨⟨_, rfl⟩, .inr ⟨pre_ ++ [(wrap64 ((wrap64 (64 * x20_1)) + x16_2))], ⟨r2_, by rw [HX_.out, ← HR2_.out]; simp⟩, hx3_⟩⟩
       have lt226_ := blk_lt BK226.out
       replace BK226 := Aside0.mk ((hkp_ _ lt226_ (.inl rfl)).trans BK226.out)
       replace HB := Aside0.mk (XR.b2_refl (hJB_ _ _ _ hJ3_))
       obtain ⟨G_, HJ_⟩ : ∃ G', Aside0 (J_ G' (pre_ ++ [(wrap64 ((wrap64 (64 * x20_1)) + x16_2))]) w12) := ⟨_, ⟨hJ3_⟩⟩
       have HX_ := Aside0.mk (show xs = (pre_ ++ [(wrap64 ((wrap64 (64 * x20_1)) + x16_2))]) ++ r2_ by rw [HX_.out, ← HR2_.out]; simp)
       clear hJ3_ hkp_
       gi_wp2
       go_wp2_with (((with_reducible refine gate_callee (f := 94) rfl ?_); refine gL 21 Tryz.func94 #[.int .i64 (rd l0_2 x20_1), .int .i64 (wrap64 (x16_2 + 1))] ?_; (with_reducible refine (bits_Next.calls k2 (rd l0_2 x20_1) (wrap64 (x16_2 + 1)) t229 _ A11.out).mono ?_); rintro e w13 ⟨rfl, hb⟩; refine ⟨_, rfl, ?_⟩; replace BK226 := bba BK226 hb; replace HB := Aside0.mk (XR.b2_step (by repeat ((with_reducible exact HB.out))) hb); clear hb))
       go_roundg k2
       case measure => have := HK1.out; have := HK2.out; omega
       case rel => exact ⟨XR.grow G_ w12 _, (pre_ ++ [(wrap64 ((wrap64 (64 * x20_1)) + x16_2))]), r2_, (t229), (by rfl), H', ⟨HX_.out⟩, ⟨hJs_ _ _ _ _ HJ_.out (XR.B2.two (w := w) (by repeat ((with_reducible exact HB.out))))⟩, ⟨by have := HK1.out; have := HK2.out; omega⟩, ⟨bx BK226.out⟩, ⟨XR.B2.one (w1 := w12) (by repeat ((with_reducible exact HB.out)))⟩⟩
      ·have H' := Aside0.mk H
       clear H
       go_wp2
       go_roundg k2
       case measure => have := HK1.out; have := HK2.out; omega
       case rel => exact ⟨XR.grow G_ wr _, pre_, r, (wrap64 (x20_1 + 1)), (by rfl), H', ⟨HX_.out⟩, ⟨hJs_ _ _ _ _ HJ_.out (XR.B2.two (w := w) (by repeat ((with_reducible exact HB.out))))⟩, ⟨by have := HK1.out; have := HK2.out; omega⟩, ⟨bx BK226.out⟩, ⟨XR.B2.one (w1 := wr) (by repeat ((with_reducible exact HB.out)))⟩⟩
   ·obtain rfl : [] = r := Option.some.inj H
    go_wp2
    go_end0
    exact ⟨⟨_, rfl⟩, .inl ⟨_, by have hx_ := HX_.out; rw [List.append_nil] at hx_; rw [hx_]; exact hJs_ _ _ _ _ HJ_.out (XR.B2.two (w := w) (by repeat ((with_reducible exact HB.out))))⟩⟩

/-! ### slices_Values_int_int_1: function 112 -/
def slices_Values_int_int_1.l0 : Nat → List Int → Int → Int → Option (List (Int))
 | 0, _, _, _ => none
 | k + 1, x16, x17, x18 => if x18 < x17 then (if 0 ≤ x18 then (if x18 < (x16.length : Int) then ((slices_Values_int_int_1.l0 k x16 x17 (wrap64 (x18 + 1))).bind fun lr_ => (some ((rd x16 x18) :: lr_))) else (none)) else (none)) else (some [])
def slices_Values_int_int_1.f (k : Nat) (l0 : List Int) : Option (List (Int)) := slices_Values_int_int_1.l0 k l0 (l0.length : Int) 0
theorem slices_Values_int_int_1.l0_succ (k) (a0) (a1) (a2) : type_of% (@slices_Values_int_int_1.l0.eq_2 a0 a1 a2 k) := slices_Values_int_int_1.l0.eq_2 a0 a1 a2 k
theorem slices_Values_int_int_1.mono_l : ∀ k, (∀ y0 y1 y2, LeO (slices_Values_int_int_1.l0 k y0 y1 y2) (slices_Values_int_int_1.l0 (k + 1) y0 y1 y2))
 | 0 => fun _ _ _ r h => by simp [slices_Values_int_int_1.l0] at h
 | k + 1 => by
  have ih0 := slices_Values_int_int_1.mono_l k
  ·intro y0 y1 y2
   unfold slices_Values_int_int_1.l0
   repeat' first | (with_reducible exact ih0 _ _ _) | (with_reducible exact LeO.refl _) | (with_reducible refine LeO.ite ?_ ?_) | (with_reducible refine LeO.bind ?_ (fun _ => ?_))
theorem slices_Values_int_int_1.mono : ∀ a0 k, LeO (slices_Values_int_int_1.f k a0) (slices_Values_int_int_1.f (k + 1) a0) := by
 intro a0 k
 have ih0 := slices_Values_int_int_1.mono_l k
 unfold slices_Values_int_int_1.f
 repeat' (with_reducible exact ih0 _ _ _)
set_option maxHeartbeats 8000000 in
set_option maxRecDepth 100000 in
theorem slices_Values_int_int_1.iter (k : Nat) (A0 : Option Addr) (c0 : Nat) (l0 : List Int) (xs : List (Int)) (w W0 : World) (gb230 : Nat) (hr0 : Kd.C (Kd.int .i64) w A0 l0.length l0) (hc0 : l0.length ≤ c0) (hB0 : Below w.heap.size w W0) (hg0 : W0.heap[gb230]? = some (.cells #[.slice A0 l0.length c0] 25 (0, 0))) (he0 : w.heap.size ≤ gb230)  (h : slices_Values_int_int_1.f k l0 = some xs) :
  XR.Iter Tryz.prog (fun x : Int => #[.int .i64 x]) w (fun k_ => k_ = gb230) 112 #[.pointer (some ⟨gb230, 0, none⟩)] xs W0 := by
 intro n_ l_ J_ Jx_ W_ hWs_ hWf_ hJs_ hJxs_ hJB_ hY_ h0_
 refine callsIn_wide.2 ?_
 have HR0 := Aside0.mk hr0
 have HC0 := Aside0.mk hc0
 clear hr0 hc0
 have H : (slices_Values_int_int_1.l0 k l0 (l0.length : Int) 0) = some xs := h
 clear h
 have H' := Aside0.mk H
 clear H
 have BK230 := Aside0.mk ((hWf_ _ (Array.getElem?_eq_some_iff.1 hg0).1 rfl).trans hg0)
 have GE230 := Aside0.mk he0
 have GW230 := Aside0.mk he0
 have HB := Aside0.mk (XR.b2_refl (hJB_ _ _ _ h0_))
 obtain ⟨G_, HJ_⟩ : ∃ G', Aside0 (J_ G' [] W_) := ⟨_, ⟨h0_⟩⟩
 have HX_ := Aside0.mk (show xs = [] ++ xs from rfl)
 go_enter Tryz.func112, Tryz.ntmps112
 obtain ⟨hcz3_0, hfz3_0⟩ := b1 BK230
 go_wp2
 go_loopg [7] k (fun kq v18 w' => ∃ (G_ : Nat → Prop) (pre_ r : List (Int)) (x18_1 : Int), v18 = .int .i64 x18_1 ∧ Aside0 (slices_Values_int_int_1.l0 kq l0 (l0.length : Int) x18_1 = some r) ∧ Aside0 (xs = pre_ ++ r) ∧ Aside0 (J_ G_ pre_ w') ∧ Aside0 (kq ≤ k) ∧ Aside0 (w'.heap[gb230]? = some (.cells #[(.slice A0 l0.length c0)] 25 (0, 0))) ∧ Aside0 (Below w.heap.size w w'))
 case atStart => exact ⟨XR.grow G_ W_ _, [], xs, (0), (by rfl), H', ⟨HX_.out⟩, ⟨hJs_ _ _ _ _ HJ_.out (XR.B2.two (w := w) (by repeat ((with_reducible exact HB.out))))⟩, ⟨Nat.le_refl _⟩, ⟨bx BK230.out⟩, ⟨XR.B2.one (w1 := W_) (by repeat ((with_reducible exact HB.out)))⟩⟩
 case round =>
  clear H' hcz3_0 hfz3_0
  obtain ⟨G_, pre_, r, x18_1, rfl, HA, HX_, HJ_, HK1, BK230, HB⟩ := hrel
  have HB := Aside0.mk (XR.b2_refl HB.out)
  cases gk with
  | zero => exact absurd HA.out (by simp [slices_Values_int_int_1.l0])
  | succ k1 =>
   have H := HA.out
   clear HA
   simp only [slices_Values_int_int_1.l0] at H
   replace H := ifd H
   rcases H with ⟨-, c4b0, H⟩ | ⟨-, c4b0, H⟩
   ·replace H := ifn H
    obtain ⟨-, c5b0, H⟩ := H
    replace H := ifn H
    obtain ⟨-, c6b0, H⟩ := H
    replace H := Option.bind_eq_some_iff.mp H
    obtain ⟨r2_, H, hr2_⟩ := H
    replace hr2_ : (rd l0 x18_1) :: r2_ = r := Option.some.inj hr2_
    have HR2_ := Aside0.mk hr2_
    clear hr2_
    have H' := Aside0.mk H
    clear H
    have p231 : 0 ≤ (x18_1 : Int) := ad
    have q231 : x18_1 < (l0.length : Int) := ad
    obtain ⟨ad231, e231, hx231_0⟩ := Kd.at_int HR0.out x18_1 p231 q231
    cases e231
    replace hx231_0 := cb HB.out.cell hx231_0
    replace p231 := eq_true p231
    replace q231 := eq_true q231
    go_upto_region 3 with (go_in)
    refine (wpIn_wide (n := n_)).1 ?_
    obtain ⟨fn_, tm_, as_, bd_, hy_, hR_⟩ := hY_ pre_ (rd l0 x18_1) r2_ _ _ (by rw [HX_.out, ← HR2_.out]) (hJs_ _ _ _ _ HJ_.out (XR.B2.two (w := w) HB.out))
    gi_wp2
    refine ⟨fun hd_ => (by cases hd_), hR_.mono ?_⟩
    rintro e_ w8 (⟨rfl, hJ3_, hsz_, hkp_⟩ | ⟨rfl, hx3_⟩)
    rotate_left
    ·gi_wp2
     go_wp2
     refine bodyPost_ret (results_none rfl _ _ _) rfl ?_
     exact ⟨⟨_, rfl⟩, .inr ⟨pre_ ++ [(rd l0 x18_1)], ⟨r2_, by rw [HX_.out, ← HR2_.out]; simp⟩, hx3_⟩⟩
    have lt230_ := blk_lt BK230.out
    replace BK230 := Aside0.mk ((hkp_ _ lt230_ (.inl rfl)).trans BK230.out)
    replace HB := Aside0.mk (XR.b2_refl (hJB_ _ _ _ hJ3_))
    obtain ⟨G_, HJ_⟩ : ∃ G', Aside0 (J_ G' (pre_ ++ [(rd l0 x18_1)]) w8) := ⟨_, ⟨hJ3_⟩⟩
    have HX_ := Aside0.mk (show xs = (pre_ ++ [(rd l0 x18_1)]) ++ r2_ by rw [HX_.out, ← HR2_.out]; simp)
    clear hJ3_ hkp_
    gi_wp2
    go_wp2_with (go_in)
    go_roundg k1
    case measure => have := HK1.out; omega
    case rel => exact ⟨XR.grow G_ w8 _, (pre_ ++ [(rd l0 x18_1)]), r2_, (wrap64 (x18_1 + 1)), (by rfl), H', ⟨HX_.out⟩, ⟨hJs_ _ _ _ _ HJ_.out (XR.B2.two (w := w) (by repeat ((with_reducible exact HB.out))))⟩, ⟨by have := HK1.out; omega⟩, ⟨bx BK230.out⟩, ⟨XR.B2.one (w1 := w8) (by repeat ((with_reducible exact HB.out)))⟩⟩
   ·obtain rfl : [] = r := Option.some.inj H
    go_wp2
    go_end0
    exact ⟨⟨_, rfl⟩, .inl ⟨_, by have hx_ := HX_.out; rw [List.append_nil] at hx_; rw [hx_]; exact hJs_ _ _ _ _ HJ_.out (XR.B2.two (w := w) (by repeat ((with_reducible exact HB.out))))⟩⟩

/-! ### slices_Values_int_int: function 95 (a contract of the session's own) -/
set_option maxHeartbeats 8000000 in
set_option maxRecDepth 100000 in
theorem slices_Values_int_int.calls (k : Nat) (A0 : Option Addr) (c0 : Nat) (l0 : List Int) (xs : List Int) (w0 w : World) (hb0 : Below w0.heap.size w0 w) (hr0 : Kd.C (Kd.int .i64) w0 A0 l0.length l0) (hc0 : l0.length ≤ c0) (h : slices_Values_int_int_1.f k l0 = some xs) :
    Calls Tryz.prog 95 #[.slice A0 l0.length c0] w fun e w' => ∃ gb : Nat, e = .returned (.func (.func 112) #[] #[.pointer (some ⟨gb, 0, none⟩)]) ∧ w.heap.size ≤ gb ∧ gb < w'.heap.size ∧ XR.Iter Tryz.prog (fun x : Int => #[.int .i64 x]) w0 (fun k_ => k_ = gb) 112 #[.pointer (some ⟨gb, 0, none⟩)] xs w' ∧ Below w.heap.size w w' := by
 have hmf : ∀ (fn : Fn) (first cap : Array Value) (w : World), (Instr.makeFunc fn first cap).run Tryz.prog w = .ok (.func fn first cap) w := fun _ _ _ _ => rfl
 have HB := Aside0.mk (Below.refl w.heap.size w)
 have H0 := Aside0.mk (And.intro hb0 (And.intro hr0 (And.intro hc0 h)))
 clear hb0 hr0 hc0 h
 go_enter Tryz.func95, Tryz.ntmps95
 go_wp2_with (((with_reducible refine gate_dst (N := 1) rfl ?_); refine box_event ?hg (N := 1) ?hd (cs := #[.slice A0 l0.length c0]) (t := 25) ?hr ?_; (case hd => rfl); (case hg => rfl); (case hr => (go_simp; done)); intro g1 hg w2 hbox hb; have n0_ := Aside0.mk (below_step HB.out hb); have n1_ := Aside0.mk (hbox); have n2_ := Aside0.mk ((by rw [hg]; exact below_size HB.out : w.heap.size ≤ g1)); clear HB; have HB := n0_; have BK1 := n1_; have GE1 := n2_; clear n0_ n1_ n2_ hb hbox hg))
 go_ret
 obtain ⟨hb0, hr0, hc0, h⟩ := H0.out
 exact ⟨_, rfl, GE1.out, blk_lt BK1.out, slices_Values_int_int_1.iter k A0 c0 l0 xs w0 _ g1 hr0 hc0 (below_step hb0 HB.out) BK1.out (by have := hb0.size; have := GE1.out; omega) h, HB.out⟩

end Go.Proofs.YtjgmdjieandemaaGreat.Print
end
section
namespace Go.Proofs.YtjgmdjieandemaaGreat.Print
open Go.RowKit Go.Proofs.YtjgmdjieandemaaGreatW.PrintWords Go.Proofs.YtjgmdjieandemaaGreatW.PrintLast Go.Proofs.YtjgmdjieandemaaGreatW.PrintMore
attribute [local go_sem] max2_int min2_int max_two min_two max_three min_three max_four min_four   -- for this text's walks alone
set_option linter.unusedVariables false
set_option linter.unusedSimpArgs false

/-! ### poslist_List_Places_2: function 96 -/
mutual
def poslist_List_Places_2.l0 : Nat → List (S64) → Int → Int → Option (List (Int))
 | 0, _, _, _ => none
 | k + 1, x18, x19, x20 => if x20 < x19 then (if 0 ≤ x20 then (if x20 < (x18.length : Int) then (poslist_List_Places_2.l1 k ((rd_T64 x18 x20).f0) x18 x19 x20 ((rd_T64 x18 x20).f0) ((rd_T64 x18 x20).f1)) else (none)) else (none)) else (some [])
def poslist_List_Places_2.l1 : Nat → Int → List (S64) → Int → Int → Int → Int → Option (List (Int))
 | 0, _, _, _, _, _, _ => none
 | k + 1, x16, x18, x19, x20, x235000, x235001 => if x16 < x235001 then ((poslist_List_Places_2.l1 k (wrap64 (x16 + 1)) x18 x19 x20 x235000 x235001).bind fun lr_ => (some (x16 :: lr_))) else (poslist_List_Places_2.l0 k x18 x19 (wrap64 (x20 + 1)))
end
def poslist_List_Places_2.f (k : Nat) (a0_0 : Int) (l0_1 : List (S64)) (l0_2 : List Int) (l0_3 : List Int) : Option (List (Int)) := poslist_List_Places_2.l0 k l0_1 (l0_1.length : Int) 0
theorem poslist_List_Places_2.l0_succ (k) (a0) (a1) (a2) : type_of% (@poslist_List_Places_2.l0.eq_2 a0 a1 a2 k) := poslist_List_Places_2.l0.eq_2 a0 a1 a2 k
theorem poslist_List_Places_2.l1_succ (k) (a0) (a1) (a2) (a3) (a4) (a5) : type_of% (@poslist_List_Places_2.l1.eq_2 a0 a1 a2 a3 a4 a5 k) := poslist_List_Places_2.l1.eq_2 a0 a1 a2 a3 a4 a5 k
theorem poslist_List_Places_2.mono_l : ∀ k, (∀ y0 y1 y2, LeO (poslist_List_Places_2.l0 k y0 y1 y2) (poslist_List_Places_2.l0 (k + 1) y0 y1 y2)) ∧ (∀ y0 y1 y2 y3 y4 y5, LeO (poslist_List_Places_2.l1 k y0 y1 y2 y3 y4 y5) (poslist_List_Places_2.l1 (k + 1) y0 y1 y2 y3 y4 y5))
 | 0 => ⟨fun _ _ _ r h => by simp [poslist_List_Places_2.l0] at h, fun _ _ _ _ _ _ r h => by simp [poslist_List_Places_2.l1] at h⟩
 | k + 1 => by
  obtain ⟨ih0, ih1⟩ := poslist_List_Places_2.mono_l k
  refine ⟨?_, ?_⟩
  ·intro y0 y1 y2
   unfold poslist_List_Places_2.l0
   repeat' first | (with_reducible exact ih1 _ _ _ _ _ _) | (with_reducible exact LeO.refl _) | (with_reducible refine LeO.ite ?_ ?_)
  ·intro y0 y1 y2 y3 y4 y5
   unfold poslist_List_Places_2.l1
   repeat' first | (with_reducible exact ih0 _ _ _) | (with_reducible exact ih1 _ _ _ _ _ _) | (with_reducible exact LeO.refl _) | (with_reducible refine LeO.ite ?_ ?_) | (with_reducible refine LeO.bind ?_ (fun _ => ?_))
theorem poslist_List_Places_2.mono : ∀ a0 a1 a2 a3 k, LeO (poslist_List_Places_2.f k a0 a1 a2 a3) (poslist_List_Places_2.f (k + 1) a0 a1 a2 a3) := by
 intro a0 a1 a2 a3 k
 obtain ⟨ih0, ih1⟩ := poslist_List_Places_2.mono_l k
 unfold poslist_List_Places_2.f
 repeat' (with_reducible exact ih0 _ _ _)
set_option maxHeartbeats 8000000 in
set_option maxRecDepth 100000 in
theorem poslist_List_Places_2.iter (k : Nat) (a0_0 : Int) (A0_1 : Option Addr) (c0_1 : Nat) (l0_1 : List (S64)) (A0_2 : Option Addr) (c0_2 : Nat) (l0_2 : List Int) (A0_3 : Option Addr) (c0_3 : Nat) (l0_3 : List Int) (xs : List (Int)) (w W0 : World) (gb232 : Nat) (hr0_1 : Kd.C k64 w A0_1 l0_1.length l0_1) (hc0_1 : l0_1.length ≤ c0_1) (hr0_2 : Kd.C (Kd.int .i64) w A0_2 l0_2.length l0_2) (hc0_2 : l0_2.length ≤ c0_2) (hr0_3 : Kd.C (Kd.int .i64) w A0_3 l0_3.length l0_3) (hc0_3 : l0_3.length ≤ c0_3) (hB0 : Below w.heap.size w W0) (hg0 : W0.heap[gb232]? = some (.cells #[.int .i64 a0_0, .slice A0_1 l0_1.length c0_1, .slice A0_2 l0_2.length c0_2, .slice A0_3 l0_3.length c0_3] 27 (0, 0))) (he0 : w.heap.size ≤ gb232)  (h : poslist_List_Places_2.f k a0_0 l0_1 l0_2 l0_3 = some xs) :
  XR.Iter Tryz.prog (fun x : Int => #[.int .i64 x]) w (fun k_ => k_ = gb232) 96 #[.pointer (some ⟨gb232, 0, none⟩)] xs W0 := by
 intro n_ l_ J_ Jx_ W_ hWs_ hWf_ hJs_ hJxs_ hJB_ hY_ h0_
 refine callsIn_wide.2 ?_
 have hu27 := Tryz.underlying27
 have hu64 := Tryz.underlying64
 have HR0_1 := Aside0.mk hr0_1
 have HC0_1 := Aside0.mk hc0_1
 clear hr0_1 hc0_1
 have HR0_2 := Aside0.mk hr0_2
 have HC0_2 := Aside0.mk hc0_2
 clear hr0_2 hc0_2
 have HR0_3 := Aside0.mk hr0_3
 have HC0_3 := Aside0.mk hc0_3
 clear hr0_3 hc0_3
 have H : (poslist_List_Places_2.l0 k l0_1 (l0_1.length : Int) 0) = some xs := h
 clear h
 have H' := Aside0.mk H
 clear H
 have BK232 := Aside0.mk ((hWf_ _ (Array.getElem?_eq_some_iff.1 hg0).1 rfl).trans hg0)
 have GE232 := Aside0.mk he0
 have GW232 := Aside0.mk he0
 have HB := Aside0.mk (XR.b2_refl (hJB_ _ _ _ h0_))
 obtain ⟨G_, HJ_⟩ : ∃ G', Aside0 (J_ G' [] W_) := ⟨_, ⟨h0_⟩⟩
 have HX_ := Aside0.mk (show xs = [] ++ xs from rfl)
 go_enter Tryz.func96, Tryz.ntmps96
 obtain ⟨hcz3_0, hcz3_1, hcz3_2, hcz3_3, hfz3_0, hfz3_1, hfz3_2, hfz3_3⟩ := b4 BK232
 go_wp2
 go_loopg [9] k (fun kq v20 w' => ∃ (G_ : Nat → Prop) (pre_ r : List (Int)) (x20_1 : Int), v20 = .int .i64 x20_1 ∧ Aside0 (poslist_List_Places_2.l0 kq l0_1 (l0_1.length : Int) x20_1 = some r) ∧ Aside0 (xs = pre_ ++ r) ∧ Aside0 (J_ G_ pre_ w') ∧ Aside0 (kq ≤ k) ∧ Aside0 (w'.heap[gb232]? = some (.cells #[.int .i64 a0_0, (.slice A0_1 l0_1.length c0_1), (.slice A0_2 l0_2.length c0_2), (.slice A0_3 l0_3.length c0_3)] 27 (0, 0))) ∧ Aside0 (Below w.heap.size w w'))
 case atStart => exact ⟨XR.grow G_ W_ _, [], xs, (0), (by rfl), H', ⟨HX_.out⟩, ⟨hJs_ _ _ _ _ HJ_.out (XR.B2.two (w := w) (by repeat ((with_reducible exact HB.out))))⟩, ⟨Nat.le_refl _⟩, ⟨bx BK232.out⟩, ⟨XR.B2.one (w1 := W_) (by repeat ((with_reducible exact HB.out)))⟩⟩
 case round =>
  clear H' hcz3_0 hcz3_1 hcz3_2 hcz3_3 hfz3_0 hfz3_1 hfz3_2 hfz3_3
  obtain ⟨G_, pre_, r, x20_1, rfl, HA, HX_, HJ_, HK1, BK232, HB⟩ := hrel
  have HB := Aside0.mk (XR.b2_refl HB.out)
  cases gk with
  | zero => exact absurd HA.out (by simp [poslist_List_Places_2.l0])
  | succ k1 =>
   have H := HA.out
   clear HA
   simp only [poslist_List_Places_2.l0] at H
   replace H := ifd H
   rcases H with ⟨-, c4b0, H⟩ | ⟨-, c4b0, H⟩
   ·replace H := ifn H
    obtain ⟨-, c5b0, H⟩ := H
    replace H := ifn H
    obtain ⟨-, c6b0, H⟩ := H
    have H' := Aside0.mk H
    clear H
    have p233 : 0 ≤ (x20_1 : Int) := ad
    have q233 : x20_1 < (l0_1.length : Int) := ad
    obtain ⟨ad233, e233, hx233_0, hx233_1⟩ := at_T64 HR0_1.out x20_1 p233 q233
    cases e233
    replace hx233_0 := cb HB.out.cell hx233_0
    replace hx233_1 := cb HB.out.cell hx233_1
    replace p233 := eq_true p233
    replace q233 := eq_true q233
    go_wp2_with (((with_reducible refine gate_dst (N := 4) rfl ?_); refine box_event ?hg (N := 4) ?hd (cs := #[.int .i64 0, .int .i64 0]) (t := 64) ?hr ?_; (case hd => rfl); (case hg => rfl); (case hr => (go_simp; done)); intro gb234 hg w7 hbox hb; have BK234 := Aside0.mk (hbox); have GW234 := Aside0.mk ((by rw [hg]; exact (XR.b2_size (by repeat ((with_reducible exact HB.out)))) : w.heap.size ≤ gb234 ∧ wr.heap.size ≤ gb234)); have GE234 := Aside0.mk ((by rw [hg]; exact (XR.b2_size (by repeat ((with_reducible exact HB.out)))) : w.heap.size ≤ gb234 ∧ wr.heap.size ≤ gb234)); replace HB := Aside0.mk (XR.b2_step (by repeat ((with_reducible exact HB.out))) hb); obtain ⟨NB232_234, NB234_232⟩ := bnm BK232 hg; replace BK232 := bba BK232 hb; clear hb hbox hg; have hnb8 := NB234_232.out; have hnc8 := NB232_234.out; obtain ⟨hcz9_0, hcz9_1, hfz9_0, hfz9_1⟩ := b2 BK234))
    go_loopg [5] k1 (fun kq v16 w' => ∃ (G_ : Nat → Prop) (pre_ r : List (Int)) (x16_2 : Int), v16 = .int .i64 x16_2 ∧ Aside0 (poslist_List_Places_2.l1 kq x16_2 l0_1 (l0_1.length : Int) x20_1 ((rd_T64 l0_1 x20_1).f0) ((rd_T64 l0_1 x20_1).f1) = some r) ∧ Aside0 (xs = pre_ ++ r) ∧ Aside0 (J_ G_ pre_ w') ∧ Aside0 (kq ≤ k1) ∧ Aside0 (w'.heap[gb232]? = some (.cells #[.int .i64 a0_0, (.slice (some ad233) l0_1.length c0_1), (.slice A0_2 l0_2.length c0_2), (.slice A0_3 l0_3.length c0_3)] 27 (0, 0))) ∧ Aside0 (w'.heap[gb234]? = some (.cells #[.int .i64 ((rd_T64 l0_1 x20_1).f0), .int .i64 ((rd_T64 l0_1 x20_1).f1)] 64 (0, 0))) ∧ Aside0 (G_ gb234) ∧ Aside0 (Below w.heap.size w w'))
    case atStart => exact ⟨XR.grow G_ wr _, pre_, r, ((rd_T64 l0_1 x20_1).f0), (by rfl), H', ⟨HX_.out⟩, ⟨hJs_ _ _ _ _ HJ_.out (XR.B2.two (w := w) (by repeat ((with_reducible first | exact HB.out | refine XR.b2_set ?_ GE234.out))))⟩, ⟨Nat.le_refl _⟩, ⟨bx BK232.out⟩, ⟨by refine blk_put (cs := #[.int .i64 ((rd_T64 l0_1 x20_1).f0), .int .i64 0]) ?_ 1 _ rfl; refine blk_put (cs := #[.int .i64 0, .int .i64 0]) ?_ 0 _ rfl; exact BK234.out⟩, ⟨.inr ⟨GE234.out.2, blk_lt (g := gb234) (o := .cells #[.int .i64 ((rd_T64 l0_1 x20_1).f0), .int .i64 ((rd_T64 l0_1 x20_1).f1)] 64 (0, 0)) (by refine blk_put (cs := #[.int .i64 ((rd_T64 l0_1 x20_1).f0), .int .i64 0]) ?_ 1 _ rfl; refine blk_put (cs := #[.int .i64 0, .int .i64 0]) ?_ 0 _ rfl; exact BK234.out)⟩⟩, ⟨XR.B2.one (w1 := wr) (by repeat ((with_reducible first | exact HB.out | refine XR.b2_set ?_ GE234.out)))⟩⟩
    case round =>
     clear H' c4b0 c5b0 c6b0 hcz9_0 hcz9_1 hfz9_0 hfz9_1 hx233_0 hx233_1 p233 q233
     obtain ⟨G_, pre_, r, x16_2, rfl, HA, HX_, HJ_, HK2, BK232, BK234, HG234, HB⟩ := hrel
     have HB := Aside0.mk (XR.b2_refl HB.out)
     cases gk with
     | zero => exact absurd HA.out (by simp [poslist_List_Places_2.l1])
     | succ k2 =>
      have H := HA.out
      clear HA
      simp only [poslist_List_Places_2.l1] at H
      replace H := ifd H
      rcases H with ⟨-, c10b0, H⟩ | ⟨-, c10b0, H⟩
      ·replace H := Option.bind_eq_some_iff.mp H
       obtain ⟨r2_, H, hr2_⟩ := H
       replace hr2_ : x16_2 :: r2_ = r := Option.some.inj hr2_
       have HR2_ := Aside0.mk hr2_
       clear hr2_
       have H' := Aside0.mk H
       clear H
       have hnb12 := NB234_232.out
       have hnc12 := NB232_234.out
       obtain ⟨hcz13_0, hcz13_1, hfz13_0, hfz13_1⟩ := b2 BK234
       go_upto_region 6 with (go_in)
       refine (wpIn_wide (n := n_)).1 ?_
       obtain ⟨fn_, tm_, as_, bd_, hy_, hR_⟩ := hY_ pre_ x16_2 r2_ _ _ (by rw [HX_.out, ← HR2_.out]) (hJs_ _ _ _ _ HJ_.out (XR.B2.two (w := w) HB.out))
       gi_wp2
       refine ⟨fun hd_ => (by cases hd_), hR_.mono ?_⟩
       rintro e_ w14 (⟨rfl, hJ3_, hsz_, hkp_⟩ | ⟨rfl, hx3_⟩)
       rotate_left
       ·gi_wp2
        go_wp2
        refine bodyPost_ret (results_none rfl _ _ _) rfl ?_
        exact ⟨⟨_, rfl⟩, .inr ⟨pre_ ++ [x16_2], ⟨r2_, by rw [HX_.out, ← HR2_.out]; simp⟩, hx3_⟩⟩
       have lt234_ := blk_lt BK234.out
       have lt232_ := blk_lt BK232.out
       replace BK232 := Aside0.mk ((hkp_ _ lt232_ (.inl rfl)).trans BK232.out)
       replace BK234 := Aside0.mk ((hkp_ _ lt234_ (.inr (.inl HG234.out))).trans BK234.out)
       replace HB := Aside0.mk (XR.b2_refl (hJB_ _ _ _ hJ3_))
       obtain ⟨G_, HJ_, HG234⟩ : ∃ G', Aside0 (J_ G' (pre_ ++ [x16_2]) w14) ∧ Aside0 (G' gb234) := ⟨_, ⟨hJ3_⟩, ⟨.inl HG234.out⟩⟩
       have HX_ := Aside0.mk (show xs = (pre_ ++ [x16_2]) ++ r2_ by rw [HX_.out, ← HR2_.out]; simp)
       clear hJ3_ hkp_
       gi_wp2
       go_wp2_with (go_in)
       go_roundg k2
       case measure => have := HK1.out; have := HK2.out; omega
       case rel => exact ⟨XR.grow G_ w14 _, (pre_ ++ [x16_2]), r2_, (wrap64 (x16_2 + 1)), (by rfl), H', ⟨HX_.out⟩, ⟨hJs_ _ _ _ _ HJ_.out (XR.B2.two (w := w) (by repeat ((with_reducible exact HB.out))))⟩, ⟨by have := HK1.out; have := HK2.out; omega⟩, ⟨bx BK232.out⟩, ⟨bx BK234.out⟩, ⟨.inl HG234.out⟩, ⟨XR.B2.one (w1 := w14) (by repeat ((with_reducible exact HB.out)))⟩⟩
      ·have H' := Aside0.mk H
       clear H
       have hnb15 := NB234_232.out
       have hnc15 := NB232_234.out
       obtain ⟨hcz16_0, hcz16_1, hfz16_0, hfz16_1⟩ := b2 BK234
       go_wp2
       go_roundg k2
       case measure => have := HK1.out; have := HK2.out; omega
       case rel => exact ⟨XR.grow G_ wr _, pre_, r, (wrap64 (x20_1 + 1)), (by rfl), H', ⟨HX_.out⟩, ⟨hJs_ _ _ _ _ HJ_.out (XR.B2.two (w := w) (by repeat ((with_reducible exact HB.out))))⟩, ⟨by have := HK1.out; have := HK2.out; omega⟩, ⟨bx BK232.out⟩, ⟨XR.B2.one (w1 := wr) (by repeat ((with_reducible exact HB.out)))⟩⟩
   ·obtain rfl : [] = r := Option.some.inj H
    go_wp2
    go_end0
    exact ⟨⟨_, rfl⟩, .inl ⟨_, by have hx_ := HX_.out; rw [List.append_nil] at hx_; rw [hx_]; exact hJs_ _ _ _ _ HJ_.out (XR.B2.two (w := w) (by repeat ((with_reducible exact HB.out))))⟩⟩

/-! ### poslist_List_Places: function 65 (a contract of the session's own) -/
def poslist_List_Places.f (k : Nat) (a0_0 : Int) (l0_1 : List (S64)) (l0_2 : List Int) (l0_3 : List Int) : Option (List Int) := if a0_0 = 2 then poslist_List_Places_1.f k a0_0 l0_1 l0_2 l0_3 else if a0_0 = 3 then slices_Values_int_int_1.f k l0_3 else poslist_List_Places_2.f k a0_0 l0_1 l0_2 l0_3
theorem poslist_List_Places.mono : ∀ a0 a1 a2 a3 k, LeO (poslist_List_Places.f k a0 a1 a2 a3) (poslist_List_Places.f (k + 1) a0 a1 a2 a3) := by
 intro a0 a1 a2 a3 k
 unfold poslist_List_Places.f
 exact LeO.ite (poslist_List_Places_1.mono _ _ _ _ _) (LeO.ite (slices_Values_int_int_1.mono _ _) (poslist_List_Places_2.mono _ _ _ _ _))
set_option maxHeartbeats 8000000 in
set_option maxRecDepth 100000 in
theorem poslist_List_Places.calls (k : Nat) (a0_0 : Int) (A0_1 : Option Addr) (c0_1 : Nat) (l0_1 : List (S64)) (A0_2 : Option Addr) (c0_2 : Nat) (l0_2 : List Int) (A0_3 : Option Addr) (c0_3 : Nat) (l0_3 : List Int) (xs : List Int) (w0 w : World) (hb0 : Below w0.heap.size w0 w) (hr0_1 : Kd.C k64 w0 A0_1 l0_1.length l0_1) (hc0_1 : l0_1.length ≤ c0_1) (hr0_2 : Kd.C (Kd.int .i64) w0 A0_2 l0_2.length l0_2) (hc0_2 : l0_2.length ≤ c0_2) (hr0_3 : Kd.C (Kd.int .i64) w0 A0_3 l0_3.length l0_3) (hc0_3 : l0_3.length ≤ c0_3) (h : poslist_List_Places.f k a0_0 l0_1 l0_2 l0_3 = some xs) :
    Calls Tryz.prog 65 #[.agg #[.int .i64 a0_0, .slice A0_1 l0_1.length c0_1, .slice A0_2 l0_2.length c0_2, .slice A0_3 l0_3.length c0_3]] w fun e w' => ∃ gf gb : Nat, e = .returned (.func (.func gf) #[] #[.pointer (some ⟨gb, 0, none⟩)]) ∧ (∀ args W, (callFunc gf args).run Tryz.prog W = .ok (.enter gf args) W) ∧ w.heap.size ≤ gb ∧ gb < w'.heap.size ∧ XR.Iter Tryz.prog (fun x : Int => #[.int .i64 x]) w0 (fun k_ => k_ = gb) gf #[.pointer (some ⟨gb, 0, none⟩)] xs w' ∧ Below w.heap.size w w' := by
 have hmf : ∀ (fn : Fn) (first cap : Array Value) (w : World), (Instr.makeFunc fn first cap).run Tryz.prog w = .ok (.func fn first cap) w := fun _ _ _ _ => rfl
 have hu27 := Tryz.underlying27
 have HR0_1 := Aside0.mk hr0_1
 have HC0_1 := Aside0.mk hc0_1
 clear hr0_1 hc0_1
 have HR0_2 := Aside0.mk hr0_2
 have HC0_2 := Aside0.mk hc0_2
 clear hr0_2 hc0_2
 have HR0_3 := Aside0.mk hr0_3
 have HC0_3 := Aside0.mk hc0_3
 clear hr0_3 hc0_3
 have HB := Aside0.mk (Below.refl w.heap.size w)
 have H0 := Aside0.mk (And.intro hb0 trivial)
 clear hb0
 have H := h
 clear h
 unfold poslist_List_Places.f at H
 by_cases c2 : a0_0 = 2
 ·rw [if_pos c2] at H
  have c2b0 : (a0_0 == 2) = true := beq_iff_eq.mpr c2
  clear c2
  have H1 := Aside0.mk H
  clear H
  go_enter Tryz.func65, Tryz.ntmps65
  go_wp2_with (((with_reducible refine gate_dst (N := 1) rfl ?_); refine box_event ?hg (N := 1) ?hd (cs := #[.int .i64 a0_0, .slice A0_1 l0_1.length c0_1, .slice A0_2 l0_2.length c0_2, .slice A0_3 l0_3.length c0_3]) (t := 27) ?hr ?_; (case hd => rfl); (case hg => rfl); (case hr => (go_simp; done)); intro g1 hg w2 hbox hb; have n0_ := Aside0.mk (below_step HB.out hb); have n1_ := Aside0.mk (hbox); have n2_ := Aside0.mk ((by rw [hg]; exact below_size HB.out : w.heap.size ≤ g1)); clear HB; have HB := n0_; have BK1 := n1_; have GE1 := n2_; clear n0_ n1_ n2_ hb hbox hg; obtain ⟨hc10, hc11, hc12, hc13, hf10, hf11, hf12, hf13⟩ := b4 BK1))
  go_ret
  exact ⟨93, _, rfl, enters_of Tryz.func93 (by kernel_rfl) rfl, GE1.out, blk_lt BK1.out, poslist_List_Places_1.iter k a0_0 A0_1 c0_1 l0_1 A0_2 c0_2 l0_2 A0_3 c0_3 l0_3 xs w0 _ g1 HR0_1.out HC0_1.out HR0_2.out HC0_2.out HR0_3.out HC0_3.out (below_step H0.out.1 HB.out) BK1.out (by have := H0.out.1.size; have := GE1.out; omega) H1.out, HB.out⟩
 rw [if_neg c2] at H
 have c2b0 : (a0_0 == 2) = false := beq_eq_false_iff_ne.mpr c2
 clear c2
 replace H := ife H
 rcases H with ⟨-, c3b0, -, H⟩ | ⟨-, c3b0, -, H⟩
 ·have H1 := Aside0.mk H
  clear H
  go_enter Tryz.func65, Tryz.ntmps65
  go_wp2_with (first | ((with_reducible refine gate_dst (N := 1) rfl ?_); refine box_event ?hg (N := 1) ?hd (cs := #[.int .i64 a0_0, .slice A0_1 l0_1.length c0_1, .slice A0_2 l0_2.length c0_2, .slice A0_3 l0_3.length c0_3]) (t := 27) ?hr ?_; (case hd => rfl); (case hg => rfl); (case hr => (go_simp; done)); intro g1 hg w2 hbox hb; have n0_ := Aside0.mk (below_step HB.out hb); have n1_ := Aside0.mk (hbox); have n2_ := Aside0.mk ((by rw [hg]; exact below_size HB.out : w.heap.size ≤ g1)); clear HB; have HB := n0_; have BK1 := n1_; have GE1 := n2_; clear n0_ n1_ n2_ hb hbox hg; obtain ⟨hc10, hc11, hc12, hc13, hf10, hf11, hf12, hf13⟩ := b4 BK1) | (go_at_call 95; (with_reducible refine (slices_Values_int_int.calls k _ _ l0_3 xs w0 _ (below_step H0.out.1 HB.out) HR0_3.out HC0_3.out H1.out).mono ?_); have HB0 := Aside0.mk (below_size HB.out); rintro e w3 ⟨gb, rfl, hgb, hlt, hit, hb⟩; have n0_ := Aside0.mk (below_step HB.out hb); clear HB; have HB := n0_; clear n0_ hb))
  go_ret
  exact ⟨112, _, rfl, enters_of Tryz.func112 (by kernel_rfl) rfl, by have := HB0.out; omega, hlt, hit, HB.out⟩
 ·have H1 := Aside0.mk H
  clear H
  go_enter Tryz.func65, Tryz.ntmps65
  go_wp2_with (((with_reducible refine gate_dst (N := 1) rfl ?_); refine box_event ?hg (N := 1) ?hd (cs := #[.int .i64 a0_0, .slice A0_1 l0_1.length c0_1, .slice A0_2 l0_2.length c0_2, .slice A0_3 l0_3.length c0_3]) (t := 27) ?hr ?_; (case hd => rfl); (case hg => rfl); (case hr => (go_simp; done)); intro g1 hg w2 hbox hb; have n0_ := Aside0.mk (below_step HB.out hb); have n1_ := Aside0.mk (hbox); have n2_ := Aside0.mk ((by rw [hg]; exact below_size HB.out : w.heap.size ≤ g1)); clear HB; have HB := n0_; have BK1 := n1_; have GE1 := n2_; clear n0_ n1_ n2_ hb hbox hg; obtain ⟨hc10, hc11, hc12, hc13, hf10, hf11, hf12, hf13⟩ := b4 BK1))
  go_ret
  exact ⟨96, _, rfl, enters_of Tryz.func96 (by kernel_rfl) rfl, GE1.out, blk_lt BK1.out, poslist_List_Places_2.iter k a0_0 A0_1 c0_1 l0_1 A0_2 c0_2 l0_2 A0_3 c0_3 l0_3 xs w0 _ g1 HR0_1.out HC0_1.out HR0_2.out HC0_2.out HR0_3.out HC0_3.out (below_step H0.out.1 HB.out) BK1.out (by have := H0.out.1.size; have := GE1.out; omega) H1.out, HB.out⟩

/-! ### poslist_best: function 64 -/
def poslist_best.f (k : Nat) (l0 : List (S64)) : Option (Int × (List (S64)) × List Int × List Int) := (poslist_Best.f k l0).bind fun bt236 => (some (bt236.1, bt236.2.1, bt236.2.2.1, bt236.2.2.2.1))
theorem poslist_best.mono : ∀ a0 k, LeO (poslist_best.f k a0) (poslist_best.f (k + 1) a0) := by
 intro a0 k
 unfold poslist_best.f
 repeat' first | (with_reducible exact poslist_Best.mono _ _) | (with_reducible exact LeO.refl _) | (with_reducible refine LeO.bind ?_ (fun _ => ?_))
set_option maxHeartbeats 8000000 in
set_option maxRecDepth 100000 in
theorem poslist_best.calls (k : Nat) (A0 : Option Addr) (c0 : Nat) (l0 : List (S64)) (r1 : Int) (r2 : List (S64)) (r3 : List Int) (r4 : List Int) (w : World) (hr0 : Kd.C k64 w A0 l0.length l0) (hc0 : l0.length ≤ c0) (h : poslist_best.f k l0 = some (r1, r2, r3, r4)) :
  Calls Tryz.prog 64 #[.slice A0 l0.length c0] w fun e w' => ∃ v1_ v2_ v3_ : Value, e = .returned (.agg #[.int .i64 r1, v1_, v2_, v3_]) ∧ Kd.R k64 64 w' w.heap.size (fun _ => True) v1_ r2 ∧ Kd.R (Kd.int .i64) 3 w' w.heap.size (fun k_ => some k_ ≠ (v3_ : Value).ownBlock) v2_ r3 ∧ Kd.R (Kd.int .i64) 3 w' w.heap.size (fun k_ => some k_ ≠ (v2_ : Value).ownBlock) v3_ r4 ∧ Below w.heap.size w w' := by
 have hu27 := Tryz.underlying27
 have HR0 := Aside0.mk hr0
 have HC0 := Aside0.mk hc0
 clear hr0 hc0
 have HB := Aside0.mk (Below.refl w.heap.size w)
 have H := h
 clear h
 unfold poslist_best.f at H
 replace H := bd H
 obtain ⟨⟨t236, t237, t240, t243, t246⟩, A2, H⟩ := H
 dsimp only at H
 simp only [Option.some.injEq, Prod.mk.injEq] at H
 obtain ⟨rfl, rfl, rfl, rfl⟩ := H
 go_enter Tryz.func64, Tryz.ntmps64
 go_wp2_with (first | ((with_reducible refine gate_dst (N := 2) rfl ?_); refine boxE HB 2 27 #[.int .i64 0, .slice none 0 0, .slice none 0 0, .slice none 0 0] ?_; clear HB; intro gb235 w3 BK235 GW235 hg hb HB; have GE235 := GW235; clear hb hg) | ((with_reducible refine gate_callee (f := 12) rfl ?_); refine gL 7 Tryz.func12 #[.slice A0 l0.length c0] ?_; (with_reducible refine (poslist_Best.calls k _ _ l0 t236 t237 t240 t243 t246 _ ?side1 ?side2 A2.out).mono ?_); (case side1 => exact cx (Kd.C_below HR0.out HB.out)); (case side2 => exact HC0.out); rintro e w4 ⟨v238, v241, v244, rfl, ho0, ho1, ho2, hb⟩; refine ⟨_, rfl, ?_⟩; have HO239 := Aside0.mk (Kd.R_lower ho0 (below_size (bh HB.out))); have HO242 := Aside0.mk (Kd.R_lower ho1 (below_size (bh HB.out))); have HO245 := Aside0.mk (Kd.R_lower ho2 (below_size (bh HB.out))); replace BK235 := bba BK235 hb; replace HB := bsa HB hb; clear hb ho0 ho1 ho2) | ((with_reducible refine gate_dst (N := 3) rfl ?_); refine box_event ?hg (N := 3) ?hd (cs := #[.int .i64 0, .slice none 0 0, .slice none 0 0, .slice none 0 0]) (t := 27) ?hr ?_; (case hd => rfl); (case hg => rfl); (case hr => (go_simp; done)); intro gb247 hg w5 hbox hb; replace HO239 := rba HO239 hb; replace HO242 := rba HO242 hb; replace HO245 := rba HO245 hb; have BK247 := Aside0.mk (hbox); have GW247 := bza HB hg; have GE247 := bza HB hg; replace HB := bsa HB hb; obtain ⟨NB235_247, NB247_235⟩ := bnm BK235 hg; replace BK235 := bba BK235 hb; clear hb hbox hg; have hnb6 := NB247_235.out; have hnc6 := NB235_247.out; obtain ⟨hcz7_0, hcz7_1, hcz7_2, hcz7_3, hfz7_0, hfz7_1, hfz7_2, hfz7_3⟩ := b4 BK247; obtain ⟨Ao8, co8, eo8⟩ := Kd.R_slice HO239.out; subst eo8; obtain ⟨Ao9, co9, eo9⟩ := Kd.R_slice HO242.out; subst eo9; obtain ⟨Ao10, co10, eo10⟩ := Kd.R_slice HO245.out; subst eo10) | ((with_reducible refine gate_store (t := 27) (p := 3) rfl ?_); refine stE 27 3 ((((w5.setCell ⟨gb247, 0, none⟩ (.int .i64 t236)).setCell ⟨gb247, 1, none⟩ (.slice Ao8 t237.length co8)).setCell ⟨gb247, 2, none⟩ (.slice Ao9 t240.length co9)).setCell ⟨gb247, 3, none⟩ (.slice Ao10 t243.length co10)) ?_; intro w11 hw; have n0_ := rsm (fun _ => True) HO239 hw (fun _ hk => trivial); have n1_ := rst HO242 hw; have n2_ := rst HO245 hw; have n3_ : Aside0 (w11.heap[gb235]? = some (.cells #[.int .i64 0, .slice none 0 0, .slice none 0 0, .slice none 0 0] 27 (0, 0))) := ⟨(by rw [hw]; exact (bx BK235.out))⟩; have n4_ := sps #[.int .i64 t236, .slice Ao8 t237.length co8, .slice Ao9 t240.length co9, .slice Ao10 t243.length co10] BK247 hw (.p (.p (.p (.p .nil)))); have n5_ := bhw HB hw; clear hw HO239 HO242 HO245 BK235 BK247 HB; have HO239 := n0_; have HO242 := n1_; have HO245 := n2_; have BK235 := n3_; have BK247 := n4_; have HB := n5_; clear n0_ n1_ n2_ n3_ n4_ n5_; obtain ⟨hcz12_0, hcz12_1, hcz12_2, hcz12_3, hfz12_0, hfz12_1, hfz12_2, hfz12_3⟩ := b4 BK247; obtain ⟨hcz13_0, hcz13_1, hcz13_2, hcz13_3, hfz13_0, hfz13_1, hfz13_2, hfz13_3⟩ := b4 BK235) | ((with_reducible refine gate_store (t := 27) (p := 2) rfl ?_); refine stE 27 2 ((((w11.setCell ⟨gb235, 0, none⟩ (.int .i64 t236)).setCell ⟨gb235, 1, none⟩ (.slice Ao8 t237.length co8)).setCell ⟨gb235, 2, none⟩ (.slice Ao9 t240.length co9)).setCell ⟨gb235, 3, none⟩ (.slice Ao10 t243.length co10)) ?_; intro w14 hw; have n0_ := rsm (fun _ => True) HO239 hw (fun _ hk => trivial); have n1_ := rst HO242 hw; have n2_ := rst HO245 hw; have n3_ := sps #[.int .i64 t236, .slice Ao8 t237.length co8, .slice Ao9 t240.length co9, .slice Ao10 t243.length co10] BK235 hw (.p (.p (.p (.p .nil)))); have n4_ : Aside0 (w14.heap[gb247]? = some (.cells #[.int .i64 t236, .slice Ao8 t237.length co8, .slice Ao9 t240.length co9, .slice Ao10 t243.length co10] 27 (0, 0))) := ⟨(by rw [hw]; exact (bx BK247.out))⟩; have n5_ := bhw HB hw; clear hw HO239 HO242 HO245 BK235 BK247 HB; have HO239 := n0_; have HO242 := n1_; have HO245 := n2_; have BK235 := n3_; have BK247 := n4_; have HB := n5_; clear n0_ n1_ n2_ n3_ n4_ n5_))
 refine bodyPost_ret (results_cell_row rfl _ _ gb235 27 #[.int .i64 t236, .slice Ao8 t237.length co8, .slice Ao9 t240.length co9, .slice Ao10 t243.length co10] (0, 0) _ rfl (bx BK235.out) Tryz.underlying27 rfl (by kernel_rfl)) rfl ?_
 exact ⟨_, _, _, er, by exact HO239.out, by exact HO242.out, by exact HO245.out, bh HB.out⟩

/-! ### poslist_List_kept: function 54 (a contract of the session's own) -/
section
attribute [local go_sem] Oper.semAt_some
def poslist_List_kept.go (p : Int → Option Bool) : List Int → List Int → Option (List Int)
  | [], o => some o
  | x :: xs, o => (p x).bind fun t => if t = true then (if o.length < 1000000000000 then poslist_List_kept.go p xs (o ++ [x]) else none) else poslist_List_kept.go p xs o
def poslist_List_kept.f (p : Int → Option Bool) (k : Nat) (a0_0 : Int) (l0_1 : List (S64)) (l0_2 : List Int) (l0_3 : List Int) : Option (Int × (List (S64)) × List Int × List Int) := (poslist_List_Places.f k a0_0 l0_1 l0_2 l0_3).bind fun xs => (poslist_List_kept.go p xs []).bind fun o => (span_Of.f k o).bind fun z => poslist_best.f k z.1
theorem poslist_List_kept.go_snoc (p : Int → Option Bool) : ∀ (pre : List Int) (x : Int) (o : List Int), poslist_List_kept.go p (pre ++ [x]) o = (poslist_List_kept.go p pre o).bind fun o1 => (p x).bind fun t => if t = true then (if o1.length < 1000000000000 then some (o1 ++ [x]) else none) else some o1 := by
 intro pre
 induction pre with
 | nil => intro x o; rfl
 | cons y ys ih =>
   intro x o
   simp only [List.cons_append, poslist_List_kept.go]
   rw [Option.bind_assoc]
   congr 1; funext t; split
   ·split
    ·exact ih x _
    ·rfl
   ·exact ih x o
theorem poslist_List_kept.go_pre (p : Int → Option Bool) : ∀ (pre rest : List Int) (o r : List Int), poslist_List_kept.go p (pre ++ rest) o = some r → ∃ o1, poslist_List_kept.go p pre o = some o1 := by
 intro pre
 induction pre with
 | nil => intro rest o r h; exact ⟨o, rfl⟩
 | cons y ys ih =>
   intro rest o r h
   simp only [List.cons_append, poslist_List_kept.go] at h ⊢
   obtain ⟨t, ht, h⟩ := Option.bind_eq_some_iff.mp h
   rw [ht]; simp only [Option.bind_some]
   cases t with
   | true =>
     simp only [if_true] at h ⊢
     by_cases hc : o.length < 1000000000000
     ·rw [if_pos hc] at h ⊢; exact ih rest _ r h
     ·rw [if_neg hc] at h; cases h
   | false =>
     simp only [Bool.false_eq_true, if_false] at h ⊢
     exact ih rest o r h
theorem poslist_List_kept.go_mono {p q : Int → Option Bool} (h : ∀ x, LeO (p x) (q x)) : ∀ (xs o : List Int), LeO (poslist_List_kept.go p xs o) (poslist_List_kept.go q xs o)
  | [], o => LeO.refl _
  | x :: xs, o => LeO.bind (h x) (fun t => LeO.ite (LeO.ite (poslist_List_kept.go_mono h xs _) (LeO.refl _)) (poslist_List_kept.go_mono h xs o))
theorem poslist_List_kept.mono {p q : Int → Option Bool} (h : ∀ x, LeO (p x) (q x)) : ∀ a0 a1 a2 a3 k, LeO (poslist_List_kept.f p k a0 a1 a2 a3) (poslist_List_kept.f q (k + 1) a0 a1 a2 a3) :=
  fun a0 a1 a2 a3 k => LeO.bind (poslist_List_Places.mono _ _ _ _ _) (fun xs => LeO.bind (poslist_List_kept.go_mono h xs []) (fun o => LeO.bind (span_Of.mono _ _) (fun z => poslist_best.mono _ _)))
set_option maxHeartbeats 8000000 in
set_option maxRecDepth 100000 in
theorem poslist_List_kept.calls (gf : Nat) (fi ca : Array Value) (p : Int → Option Bool) (k : Nat) (a0_0 : Int) (A0_1 : Option Addr) (c0_1 : Nat) (l0_1 : List (S64)) (A0_2 : Option Addr) (c0_2 : Nat) (l0_2 : List Int) (A0_3 : Option Addr) (c0_3 : Nat) (l0_3 : List Int) (r1 : Int) (r2 : List (S64)) (r3 : List Int) (r4 : List Int) (w : World) (hr0_1 : Kd.C k64 w A0_1 l0_1.length l0_1) (hc0_1 : l0_1.length ≤ c0_1) (hr0_2 : Kd.C (Kd.int .i64) w A0_2 l0_2.length l0_2) (hc0_2 : l0_2.length ≤ c0_2) (hr0_3 : Kd.C (Kd.int .i64) w A0_3 l0_3.length l0_3) (hc0_3 : l0_3.length ≤ c0_3)
    (heg : ∀ args W, (callFunc gf args).run Tryz.prog W = .ok (.enter gf args) W) (his : ∀ (X : World) (at_ : Int) (t : Bool), Below w.heap.size w X → p at_ = some t → Calls Tryz.prog gf (fi.push (.int .i64 at_) ++ ca) X fun e X' => e = .returned (.bool t) ∧ Below X.heap.size X X') (h : poslist_List_kept.f p k a0_0 l0_1 l0_2 l0_3 = some (r1, r2, r3, r4)) :
    Calls Tryz.prog 54 #[.agg #[.int .i64 a0_0, .slice A0_1 l0_1.length c0_1, .slice A0_2 l0_2.length c0_2, .slice A0_3 l0_3.length c0_3], .func (.func gf) fi ca] w fun e w' => ∃ v1_ v2_ v3_ : Value, e = .returned (.agg #[.int .i64 r1, v1_, v2_, v3_]) ∧ Kd.R k64 64 w' w.heap.size (fun _ => True) v1_ r2 ∧ Kd.R (Kd.int .i64) 3 w' w.heap.size (fun k_ => some k_ ≠ (v3_ : Value).ownBlock) v2_ r3 ∧ Kd.R (Kd.int .i64) 3 w' w.heap.size (fun k_ => some k_ ≠ (v2_ : Value).ownBlock) v3_ r4 ∧ Below w.heap.size w w' := by
 have hu27 := Tryz.underlying27
 have HR0_1 := Aside0.mk hr0_1
 have HC0_1 := Aside0.mk hc0_1
 clear hr0_1 hc0_1
 have HR0_2 := Aside0.mk hr0_2
 have HC0_2 := Aside0.mk hc0_2
 clear hr0_2 hc0_2
 have HR0_3 := Aside0.mk hr0_3
 have HC0_3 := Aside0.mk hc0_3
 clear hr0_3 hc0_3
 have HB := Aside0.mk (Below.refl w.heap.size w)
 obtain ⟨xs, A3_, H⟩ := Option.bind_eq_some_iff.mp (show ((poslist_List_Places.f k a0_0 l0_1 l0_2 l0_3).bind fun xs => (poslist_List_kept.go p xs []).bind fun o => (span_Of.f k o).bind fun z => poslist_best.f k z.1) = some (r1, r2, r3, r4) from h)
 clear h
 obtain ⟨o, A4_, H⟩ := Option.bind_eq_some_iff.mp H
 obtain ⟨z, A5_, H⟩ := Option.bind_eq_some_iff.mp H
 have H3 := Aside0.mk A3_
 have H4 := Aside0.mk A4_
 have H5 := Aside0.mk A5_
 have H6 := Aside0.mk H
 clear A3_ A4_ A5_ H
 refine (callsIn_wide (n := 4)).1 ?_
 refine callsIn_of_wp_marks Tryz.func54 rfl trivial ?_ rfl
 simp only [Tryz.ntmps54, List.size_toArray, List.length_cons, List.length_nil, Nat.reduceAdd, Nat.reduceSub, Array.replicate_succ, Array.replicate_zero, List.push_toArray, List.append_toArray, List.nil_append, List.cons_append]
 refine wpIn_wide.2 ?_
 go_wp2_with (first | ((with_reducible refine gate_dst (N := 2) rfl ?_); refine box_event ?hg (N := 2) ?hd (cs := #[.int .i64 a0_0, .slice A0_1 l0_1.length c0_1, .slice A0_2 l0_2.length c0_2, .slice A0_3 l0_3.length c0_3]) (t := 27) ?hr ?_; (case hd => rfl); (case hg => rfl); (case hr => (go_simp; done)); intro gl hg w2 hbox hb; have n0_ := Aside0.mk (below_step HB.out hb); have n1_ := Aside0.mk (hbox); have n2_ := Aside0.mk ((by rw [hg]; exact below_size HB.out : w.heap.size ≤ gl)); clear HB; have HB := n0_; have BKl := n1_; have GEl := n2_; clear n0_ n1_ n2_ hb hbox hg) | ((with_reducible refine gate_dst (N := 3) rfl ?_); refine box_event ?hg (N := 3) ?hd (cs := #[.func (.func gf) fi ca]) (t := 58) ?hr ?_; (case hd => rfl); (case hg => rfl); (case hr => (go_simp; done)); intro gp hg w3 hbox hb; have n0_ := Aside0.mk (below_step HB.out hb); have n1_ := Aside0.mk (blk_below BKl.out hb); have n2_ := Aside0.mk (hbox); have n3_ := Aside0.mk ((by rw [hg]; exact below_size HB.out : w.heap.size ≤ gp)); have n4_ := Aside0.mk ((by rw [hg]; exact Nat.ne_of_lt (blk_lt BKl.out) : gl ≠ gp)); have n5_ := Aside0.mk ((by rw [hg]; exact (Nat.ne_of_lt (blk_lt BKl.out)).symm : gp ≠ gl)); clear HB BKl; have HB := n0_; have BKl := n1_; have BKp := n2_; have GEp := n3_; have NBlp := n4_; have NBpl := n5_; clear n0_ n1_ n2_ n3_ n4_ n5_ hb hbox hg) | ((with_reducible refine gate_dst (N := 4) rfl ?_); refine box_event ?hg (N := 4) ?hd (cs := #[.int .i64 0, .slice none 0 0, .slice none 0 0, .slice none 0 0]) (t := 27) ?hr ?_; (case hd => rfl); (case hg => rfl); (case hr => (go_simp; done)); intro g4 hg w4 hbox hb; have n0_ := Aside0.mk (below_step HB.out hb); have n1_ := Aside0.mk (blk_below BKl.out hb); have n2_ := Aside0.mk (blk_below BKp.out hb); have n3_ := Aside0.mk (hbox); have n4_ := Aside0.mk ((by rw [hg]; exact below_size HB.out : w.heap.size ≤ g4)); have n5_ := Aside0.mk ((by rw [hg]; exact Nat.ne_of_lt (blk_lt BKl.out) : gl ≠ g4)); have n6_ := Aside0.mk ((by rw [hg]; exact (Nat.ne_of_lt (blk_lt BKl.out)).symm : g4 ≠ gl)); have n7_ := Aside0.mk ((by rw [hg]; exact Nat.ne_of_lt (blk_lt BKp.out) : gp ≠ g4)); have n8_ := Aside0.mk ((by rw [hg]; exact (Nat.ne_of_lt (blk_lt BKp.out)).symm : g4 ≠ gp)); clear HB BKl BKp; have HB := n0_; have BKl := n1_; have BKp := n2_; have BK4 := n3_; have GE4 := n4_; have NBl4 := n5_; have NB4l := n6_; have NBp4 := n7_; have NB4p := n8_; clear n0_ n1_ n2_ n3_ n4_ n5_ n6_ n7_ n8_ hb hbox hg) | ((with_reducible refine gate_dst (N := 5) rfl ?_); refine box_event ?hg (N := 5) ?hd (cs := #[.slice none 0 0]) (t := 25) ?hr ?_; (case hd => rfl); (case hg => rfl); (case hr => (go_simp; done)); intro gu hg w5 hbox hb; have n0_ := Aside0.mk (below_step HB.out hb); have n1_ := Aside0.mk (blk_below BKl.out hb); have n2_ := Aside0.mk (blk_below BKp.out hb); have n3_ := Aside0.mk (blk_below BK4.out hb); have n4_ := Aside0.mk (hbox); have n5_ := Aside0.mk ((by rw [hg]; exact below_size HB.out : w.heap.size ≤ gu)); have n6_ := Aside0.mk ((by rw [hg]; exact Nat.ne_of_lt (blk_lt BKl.out) : gl ≠ gu)); have n7_ := Aside0.mk ((by rw [hg]; exact (Nat.ne_of_lt (blk_lt BKl.out)).symm : gu ≠ gl)); have n8_ := Aside0.mk ((by rw [hg]; exact Nat.ne_of_lt (blk_lt BKp.out) : gp ≠ gu)); have n9_ := Aside0.mk ((by rw [hg]; exact (Nat.ne_of_lt (blk_lt BKp.out)).symm : gu ≠ gp)); have n10_ := Aside0.mk ((by rw [hg]; exact Nat.ne_of_lt (blk_lt BK4.out) : g4 ≠ gu)); have n11_ := Aside0.mk ((by rw [hg]; exact (Nat.ne_of_lt (blk_lt BK4.out)).symm : gu ≠ g4)); clear HB BKl BKp BK4; have HB := n0_; have BKl := n1_; have BKp := n2_; have BK4 := n3_; have BKu := n4_; have GEu := n5_; have NBlu := n6_; have NBul := n7_; have NBpu := n8_; have NBup := n9_; have NB4u := n10_; have NBu4 := n11_; clear n0_ n1_ n2_ n3_ n4_ n5_ n6_ n7_ n8_ n9_ n10_ n11_ hb hbox hg; have hlu6 := Aside0.mk (blk_lt BKu.out); obtain ⟨hcl0, hcl1, hcl2, hcl3, hfl0, hfl1, hfl2, hfl3⟩ := b4 BKl) | (go_at_call 65; (with_reducible refine (poslist_List_Places.calls k _ _ _ _ _ _ _ _ _ _ xs w _ HB.out ?a1 ?b1 ?a2 ?b2 ?a3 ?b3 H3.out).mono ?_); (case a1 => exact HR0_1.out); (case b1 => exact HC0_1.out); (case a2 => exact HR0_2.out); (case b2 => exact HC0_2.out); (case a3 => exact HR0_3.out); (case b3 => exact HC0_3.out); rintro e w7 ⟨gI, gi, rfl, hen, hgi, hlti, hit, hb⟩; have n0_ := Aside0.mk (below_step HB.out hb); have n1_ := Aside0.mk (blk_below BKl.out hb); have n2_ := Aside0.mk (blk_below BKp.out hb); have n3_ := Aside0.mk (blk_below BK4.out hb); have n4_ := Aside0.mk (blk_below BKu.out hb); clear HB BKl BKp BK4 BKu; have HB := n0_; have BKl := n1_; have BKp := n2_; have BK4 := n3_; have BKu := n4_; clear n0_ n1_ n2_ n3_ n4_ hb))
 refine (wpIn_wide (n := 4)).1 ?_
 refine XR.wp_range (α := Int) (w0 := w) (by decide) (gf := gI) (lb := #[.pointer (some ⟨gi, 0, none⟩)]) rfl hen hit
   (by rintro k_ rfl; exact hlti) (fun _ => rfl)
   (fun G_ pre X => ∃ (o1 : List Int) (v : Value), poslist_List_kept.go p pre [] = some o1 ∧ X.heap[gu]? = some (.cells #[v] 25 (0, 0)) ∧ Kd.R (Kd.int .i64) 3 X w.heap.size (fun k_ => w.heap.size ≤ k_ ∧ (k_ ≠ gl ∧ k_ ≠ gp ∧ k_ ≠ g4 ∧ k_ ≠ gu ∧ k_ ≠ gi ∧ k_ ≠ w7.heap.size ∧ k_ ≠ w7.heap.size + 1 ∧ ¬ G_ k_)) v o1 ∧ X.heap[gp]? = some (.cells #[.func (.func gf) fi ca] 58 (0, 0)) ∧ X.heap[g4]? = some (.cells #[.int .i64 0, .slice none 0 0, .slice none 0 0, .slice none 0 0] 27 (0, 0)) ∧ Below w.heap.size w X)
   (fun _ _ _ => False)
   ?hI ?hIG (fun _ _ _ _ h _ => h) ?hIB ?hIp (fun _ _ _ _ _ h _ _ _ => h) ?h0
   (fun Y x a' Z => a' = { tmps := #[.agg #[.int .i64 a0_0, .slice A0_1 l0_1.length c0_1, .slice A0_2 l0_2.length c0_2, .slice A0_3 l0_3.length c0_3], .func (.func gf) fi ca, .pointer (some ⟨gl, 0, none⟩), .pointer (some ⟨gp, 0, none⟩), .pointer (some ⟨g4, 0, none⟩), .pointer (some ⟨gu, 0, none⟩), .int .i64 x, undef, undef, .agg #[.int .i64 a0_0, .slice A0_1 l0_1.length c0_1, .slice A0_2 l0_2.length c0_2, .slice A0_3 l0_3.length c0_3], .func (.func gI) #[] #[.pointer (some ⟨gi, 0, none⟩)], .int .i64 x, undef, undef, undef, undef, undef, undef, undef, undef, undef, undef, undef, undef, undef, undef], defers := [] })
   ?hAx ?assign ?body ?done ?stop
 case hI =>
   rintro G_ pre X Y ⟨o1, v, hg, ho, hr, hfp, hf4, hb⟩ hXY
   exact ⟨o1, v, hg, blk_below ho hXY, Kd.R_below hr hXY, blk_below hfp hXY, blk_below hf4 hXY,  below_step hb hXY⟩
 case hIG =>
   rintro G_ G2_ pre X ⟨o1, v, hg, ho, hr, hfp, hf4, hb⟩ hG
   refine ⟨o1, v, hg, ho, Kd.R_mono (Kd.R_tight rfl hr) (fun k_ hk => ?_), hfp, hf4,  hb⟩
   have hq := hr.1 k_ hk.symm
   have hlt := Kd.R_lt hr k_ hk.symm
   exact ⟨hq.1, hq.2.1, hq.2.2.1, hq.2.2.2.1, hq.2.2.2.2.1, hq.2.2.2.2.2.1, hq.2.2.2.2.2.2.1, hq.2.2.2.2.2.2.2.1, fun h2 => (hG k_ h2).elim hq.2.2.2.2.2.2.2.2 (fun z => by omega)⟩
 case hIB =>
   rintro G_ pre X ⟨o1, v, hg, ho, hr, hfp, hf4, hb⟩
   exact hb
 case hIp =>
   rintro G_ pre X l o2 ⟨o1, v, hg, ho, hr, hfp, hf4, hb⟩ hl hl2 hlt
   have hnl : l ≠ gl := by have := blk_lt BKl.out; omega
   have hnp : l ≠ gp := by have := blk_lt BKp.out; omega
   have hn4 : l ≠ g4 := by have := blk_lt BK4.out; omega
   have hnu : l ≠ gu := by have := blk_lt BKu.out; omega
   refine ⟨o1, v, hg, (World.putObj_heap_other (Ne.symm hnu)).trans ho, ?_, (World.putObj_heap_other (Ne.symm hnp)).trans hfp, (World.putObj_heap_other (Ne.symm hn4)).trans hf4,  XR.below_putObj hb (by have := HB.out.size; omega) hlt o2⟩
   exact Kd.R_step hr (fun k_ hk _ => World.putObj_heap_other (by have h5 := hk.2.2.2.2.2.2.1; have h6 := hk.2.2.2.2.2.2.2.1; omega))
 case h0 => exact ⟨[], _, rfl, BKu.out, Kd.R_nil _ _ _ _ _, BKp.out, BK4.out,  HB.out⟩
 case hAx =>
   rintro Y x a' Z l o2 rfl hl hl2 hlt
   rfl
 case assign =>
   intro G_ pre x Y hI hsz
   gi_wp2
   exact ⟨Below.refl _ Y, trivial⟩
 case body =>
   rintro G_ pre x rest Y Z a' hx hGY ⟨o1, v, hg, ho, hr, hfp, hf4, hb⟩ hsX hYZ rfl
   have hlu : gu < w7.heap.size := blk_lt BKu.out
   have hll : gl < w7.heap.size := blk_lt BKl.out
   have hlp : gp < w7.heap.size := blk_lt BKp.out
   have hl4 : g4 < w7.heap.size := blk_lt BK4.out
   have hli : gi < w7.heap.size := hlti
   have NBui : gu ≠ gi := by have := hgi; have := hlu6.out; omega
   have hsn := poslist_List_kept.go_snoc p pre x []
   rw [hg] at hsn
   simp only [Option.bind_some] at hsn
   obtain ⟨o2, ho2⟩ := poslist_List_kept.go_pre p (pre ++ [x]) rest [] _ (by have h4 := H4.out; rw [hx] at h4; simpa using h4)
   rw [ho2] at hsn
   obtain ⟨t, ht, hs⟩ := Option.bind_eq_some_iff.mp hsn.symm
   have c1 : Z.cell? ⟨gp, 0, none⟩ = some (.func (.func gf) fi ca) := (blk_cell hfp 0).trans rfl
   cases t with
   | false =>
     simp only [Bool.false_eq_true, if_false, Option.some.injEq] at hs
     subst hs
     gi_wp2_with ((refine ⟨trivial, ?_⟩; refine (CallsIn.inRound (w7.heap.size + 1) (callsIn_wide.2 (his Z x false hb ht))).mono ?_; rintro e w9 ⟨rfl, hb9⟩))
     exact ⟨⟨_, v, ho2, blk_below ho hb9, Kd.R_below hr hb9, blk_below hfp hb9, blk_below hf4 hb9, below_step hb hb9⟩, hb9.size, fun k_ hk _ => hb9.block k_ hk⟩
   | true =>
     simp only [if_true] at hs
     have hcap : o1.length < 1000000000000 := by
       by_cases hc : o1.length < 1000000000000
       ·exact hc
       ·rw [if_neg hc] at hs; cases hs
     rw [if_pos hcap] at hs
     obtain rfl := Option.some.inj hs
     have hgo2 := ho2
     gi_wp2_with (first | (refine ⟨trivial, ?_⟩; refine (CallsIn.inRound (w7.heap.size + 1) (callsIn_wide.2 (his Z x true hb ht))).mono ?_; rintro e w9 ⟨rfl, hb9⟩; have d6 : w9.cell? ⟨gu, 0, none⟩ = some v := (blk_cell (blk_below ho hb9) 0).trans rfl; have hfp9 := blk_below hfp hb9; have hf49 := blk_below hf4 hb9; have ho9 := blk_below ho hb9; have hsW : Z.heap.size ≤ w9.heap.size := hb9.size) | (refine XR.listIn_out (N := 15) rfl ?a2 ?a3 ?a4 ?_; (case a2 => rfl); (case a3 => rintro ⟨_, _, h_⟩; exact h_); (case a4 => rfl)))
     go_wp2_with (((with_reducible refine gate_builtin (b := .append) (xs := #[.tmp 15, .tmp 17]) rfl ?_); at_builtin; refine Kd.R_append (Kd.int .i64) (w0 := w) w.heap.size rfl (.tmp 15) (.tmp 17) 25 3 (.int .i64 0) 8 rfl Tryz.underlying25 info3 rfl (by decide) (by omega) v o1 x [.int .i64 x] (fun k_ => w.heap.size ≤ k_ ∧ (k_ ≠ gl ∧ k_ ≠ gp ∧ k_ ≠ g4 ∧ k_ ≠ gu ∧ k_ ≠ gi ∧ k_ ≠ w7.heap.size ∧ k_ ≠ w7.heap.size + 1 ∧ ¬ G_ k_)) (fun _ => False) rfl rfl ?aP (fun _ hk => hk.elim) ?aF ?aO ?aB ?aS ?aL ?_; (case aP => exact rfl); (case aF => intro k_ hk; have h7 := below_size hb; have h8 := hsW; exact ⟨by omega, by omega, by omega, by omega, by omega, by omega, by omega, by omega, fun h2 => by have := hGY k_ h2; omega⟩); (case aO => exact (Kd.R_below hr hb9)); (case aB => exact (below_step hb hb9)); (case aS => exact below_size (below_step hb hb9)); (case aL => omega); intro v1 w10 hr10 hb10 hk10 _; have hne : ∀ k_, some k_ = v.ownBlock → w.heap.size ≤ k_ ∧ (k_ ≠ gl ∧ k_ ≠ gp ∧ k_ ≠ g4 ∧ k_ ≠ gu ∧ k_ ≠ gi ∧ k_ ≠ w7.heap.size ∧ k_ ≠ w7.heap.size + 1 ∧ ¬ G_ k_) := fun k_ e_ => hr.1 k_ e_.symm; have ho10 := blk_grown ho9 hk10 (fun e_ => (hne _ e_).2.2.2.2.1 rfl); have hfp10 := blk_grown hfp9 hk10 (fun e_ => (hne _ e_).2.2.1 rfl); have hf410 := blk_grown hf49 hk10 (fun e_ => (hne _ e_).2.2.2.1 rfl); obtain ⟨Av, cv, rfl⟩ := Kd.R_slice hr10; have e6 : w10.cell? ⟨gu, 0, none⟩ = some v := (blk_cell ho10 0).trans rfl; have e7 := blk_frozen ho10 0))
     have hr11 : Kd.R (Kd.int .i64) 3 w10 w.heap.size (fun k_ => w.heap.size ≤ k_ ∧ (k_ ≠ gl ∧ k_ ≠ gp ∧ k_ ≠ g4 ∧ k_ ≠ gu ∧ k_ ≠ gi ∧ k_ ≠ w7.heap.size ∧ k_ ≠ w7.heap.size + 1 ∧ ¬ G_ k_)) (.slice Av (o1.length + 1) cv) (o1 ++ [x]) := by rw [List.length_append] at hr10; exact hr10
     have hgb : Below w.heap.size w (w10.setCell ⟨gu, 0, none⟩ (.slice Av (o1.length + 1) cv)) := hb10.setCell (p := ⟨gu, 0, none⟩) GEu.out _
     have hrow := Kd.R_step hr11 (w1 := w10.setCell ⟨gu, 0, none⟩ (.slice Av (o1.length + 1) cv)) (fun k_ hk _ => Below.heap_setCell _ _ _ k_ (by exact hk.2.2.2.2.1))
     refine ⟨⟨o1 ++ [x], _, hgo2, blk_put ho10 0 _ rfl, hrow, blk_far hfp10 (by exact NBpu.out) _, blk_far hf410 (by exact NB4u.out) _,  hgb⟩, ?_, ?_⟩
     ·have := hk10.size; have := hb9.size; simp; omega
     ·intro k_ hk hkeep
      have hkgo : k_ ≠ gu := by
        rcases hkeep with rfl | hh | hh | hh
        ·exact Ne.symm NBui
        ·have := hGY k_ hh; omega
        ·omega
        ·omega
      have hkv : ¬ some k_ = v.ownBlock := by
        intro e_
        have hq := hne _ e_
        rcases hkeep with rfl | hh | hh | hh
        ·exact hq.2.2.2.2.2.1 rfl
        ·exact hq.2.2.2.2.2.2.2.2 hh
        ·exact hq.2.2.2.2.2.2.1 hh
        ·exact hq.2.2.2.2.2.2.2.1 hh
      rw [Below.heap_setCell _ _ _ k_ hkgo, hk10.block k_ (by have := hb9.size; omega) hkv, hb9.block k_ hk]
 case done =>
   rintro G_ W ⟨o1, v, hg, ho, hr, hfp, hf4, hb⟩ hK
   obtain rfl : o1 = o := by have h4 := H4.out; rw [hg] at h4; exact Option.some.inj h4
   obtain ⟨Av, cv, rfl⟩ := Kd.R_slice hr
   have cv1 : W.cell? ⟨gu, 0, none⟩ = some (.slice Av o1.length cv) := (blk_cell ho 0).trans rfl
   have hK1 := Aside0.mk hK
   have HBW := Aside0.mk hb
   have HF4 := Aside0.mk hf4
   clear hK hb hf4
   go_wp2_with (first | (go_at_call 49; (with_reducible refine (span_Of.calls k _ _ o1 z.1 z.2 _ ?side1 ?side2 H5.out).mono ?_); (case side1 => exact (Kd.R_reads' hr).2.2); (case side2 => exact (Kd.R_reads' hr).2.1); rintro e w11 ⟨vz, rfl, hvz, hb⟩; have n0_ := Aside0.mk (below_step HBW.out hb); have n1_ := Aside0.mk (blk_below HF4.out hb); have n2_ := Aside0.mk (blk_below hK1.out hb); clear HBW HF4 hK1; have HBW := n0_; have HF4 := n1_; have hK1 := n2_; clear n0_ n1_ n2_ hb; obtain ⟨Az, cz, rfl⟩ := Kd.R_slice hvz) | (go_at_call 64; (with_reducible refine (poslist_best.calls k _ _ z.1 r1 r2 r3 r4 _ ?side1 ?side2 H6.out).mono ?_); (case side1 => exact (Kd.R_reads' hvz).2.2); (case side2 => exact (Kd.R_reads' hvz).2.1); have hlt4 := blk_lt HF4.out; have hltK := blk_lt hK1.out; have hbase := below_size HBW.out; rintro e w12 ⟨v1, v2, v3, rfl, hv1, hv2, hv3, hb⟩; have n0_ := Aside0.mk (below_step HBW.out hb); have n1_ := Aside0.mk (blk_below HF4.out hb); have n2_ := Aside0.mk (blk_below hK1.out hb); clear HBW HF4 hK1; have HBW := n0_; have HF4 := n1_; have hK1 := n2_; clear n0_ n1_ n2_ hb; obtain ⟨Av1, cv1, rfl⟩ := Kd.R_slice hv1; obtain ⟨Av2, cv2, rfl⟩ := Kd.R_slice hv2; obtain ⟨Av3, cv3, rfl⟩ := Kd.R_slice hv3; have hw40 : w12.cell? ⟨g4, 0, none⟩ = some (.int .i64 0) := (blk_cell HF4.out 0).trans rfl; have hw41 : w12.cell? ⟨g4, 1, none⟩ = some (.slice none 0 0) := (blk_cell HF4.out 1).trans rfl; have hw42 : w12.cell? ⟨g4, 2, none⟩ = some (.slice none 0 0) := (blk_cell HF4.out 2).trans rfl; have hw43 : w12.cell? ⟨g4, 3, none⟩ = some (.slice none 0 0) := (blk_cell HF4.out 3).trans rfl; have hz40 := blk_frozen HF4.out 0; have hz41 := blk_frozen HF4.out 1; have hz42 := blk_frozen HF4.out 2; have hz43 := blk_frozen HF4.out 3))
   have hk0 : (((w12.setCell ⟨g4, 0, none⟩ (.int .i64 r1)).setCell ⟨g4, 1, none⟩ (.slice Av1 r2.length cv1)).setCell ⟨g4, 2, none⟩ (.slice Av2 r3.length cv2)).setCell ⟨g4, 3, none⟩ (.slice Av3 r4.length cv3) |>.heap[w7.heap.size]? = some (.deferred (some [])) := by
     rw [Below.heap_setCell _ _ _ _ (by show w7.heap.size ≠ g4; have := blk_lt BK4.out; omega), Below.heap_setCell _ _ _ _ (by show w7.heap.size ≠ g4; have := blk_lt BK4.out; omega), Below.heap_setCell _ _ _ _ (by show w7.heap.size ≠ g4; have := blk_lt BK4.out; omega), Below.heap_setCell _ _ _ _ (by show w7.heap.size ≠ g4; have := blk_lt BK4.out; omega)]
     exact hK1.out
   refine ⟨by simp, .inl ⟨_, _, rfl, run_takeDeferred hk0, ?_⟩⟩
   have hc4 : (((w12.setCell ⟨g4, 0, none⟩ (.int .i64 r1)).setCell ⟨g4, 1, none⟩ (.slice Av1 r2.length cv1)).setCell ⟨g4, 2, none⟩ (.slice Av2 r3.length cv2)).setCell ⟨g4, 3, none⟩ (.slice Av3 r4.length cv3) |>.heap[g4]? = some (.cells #[.int .i64 r1, .slice Av1 r2.length cv1, .slice Av2 r3.length cv2, .slice Av3 r4.length cv3] 27 (0, 0)) := by
     refine blk_put (cs := #[.int .i64 r1, .slice Av1 r2.length cv1, .slice Av2 r3.length cv2, .slice none 0 0]) ?_ 3 _ rfl; refine blk_put (cs := #[.int .i64 r1, .slice Av1 r2.length cv1, .slice none 0 0, .slice none 0 0]) ?_ 2 _ rfl; refine blk_put (cs := #[.int .i64 r1, .slice none 0 0, .slice none 0 0, .slice none 0 0]) ?_ 1 _ rfl; refine blk_put (cs := #[.int .i64 0, .slice none 0 0, .slice none 0 0, .slice none 0 0]) ?_ 0 _ rfl; exact HF4.out
   exact ⟨_, results_cell_row rfl _ _ g4 27 #[.int .i64 r1, .slice Av1 r2.length cv1, .slice Av2 r3.length cv2, .slice Av3 r4.length cv3] (0, 0) _ rfl ((World.putObj_heap_other (by have := blk_lt BK4.out; omega)).trans hc4) Tryz.underlying27 rfl (by kernel_rfl), _, _, _, rfl, Kd.R_lower (XR.R_farP (XR.R_far (XR.R_far (XR.R_far (XR.R_far hv1 hlt4) hlt4) hlt4) hlt4) hltK) hbase, Kd.R_lower (XR.R_farP (XR.R_far (XR.R_far (XR.R_far (XR.R_far hv2 hlt4) hlt4) hlt4) hlt4) hltK) hbase, Kd.R_lower (XR.R_farP (XR.R_far (XR.R_far (XR.R_far (XR.R_far hv3 hlt4) hlt4) hlt4) hlt4) hltK) hbase, XR.below_putObj (by repeat (first | exact HBW.out | refine below_set ?_ GE4.out)) (by have := HB.out.size; omega) (Array.getElem?_eq_some_iff.1 hk0).1 _⟩
 case stop =>
   rintro c pre W _ h _
   exact h.elim
end

/-! ### words_And_1: function 86 -/
def words_And_1.f (a0 : Int) (a1 : Int) : Option (Int) := some (Go.bits .and .i64 a0 a1)
set_option maxHeartbeats 8000000 in
set_option maxRecDepth 100000 in
theorem words_And_1.calls (a0 : Int) (a1 : Int) (r : Int) (w : World) (h : words_And_1.f a0 a1 = some r) :
  Calls Tryz.prog 86 #[.int .i64 a0, .int .i64 a1] w fun e w' => e = .returned (.int .i64 r) ∧ Drawn0 w w' := by
 have H := h
 clear h
 unfold words_And_1.f at H
 obtain rfl := Option.some.inj H
 go_enter Tryz.func86, Tryz.ntmps86
 go_wp2
 go_ret
 exact ⟨by rfl, by repeat (exact Drawn0.refl _)⟩

/-! ### words_both_1: function 108 -/
def words_both_1.f (l0 : List Int) (a1 : Int) : Option (Int) := if a1 < (l0.length : Int) then (if 0 ≤ a1 then (some (rd l0 a1)) else (none)) else (some 0)
set_option maxHeartbeats 8000000 in
set_option maxRecDepth 100000 in
theorem words_both_1.calls (A0 : Option Addr) (c0 : Nat) (l0 : List Int) (a1 : Int) (r : Int) (w : World) (hr0 : Kd.C (Kd.int .i64) w A0 l0.length l0) (hc0 : l0.length ≤ c0) (h : words_both_1.f l0 a1 = some r) :
  Calls Tryz.prog 108 #[.slice A0 l0.length c0, .int .i64 a1] w fun e w' => e = .returned (.int .i64 r) ∧ Drawn0 w w' := by
 have HR0 := Aside0.mk hr0
 have HC0 := Aside0.mk hc0
 clear hr0 hc0
 have H := h
 clear h
 unfold words_both_1.f at H
 replace H := ifd H
 rcases H with ⟨-, c3b0, H⟩ | ⟨-, c3b0, H⟩
 ·replace H := ifn H
  obtain ⟨-, c4b0, H⟩ := H
  obtain rfl := Option.some.inj H
  have p248 : 0 ≤ (a1 : Int) := ad
  have q248 : a1 < (l0.length : Int) := ad
  obtain ⟨ad248, e248, hx248_0⟩ := Kd.at_int HR0.out a1 p248 q248
  cases e248
  replace p248 := eq_true p248
  replace q248 := eq_true q248
  go_enter Tryz.func108, Tryz.ntmps108
  go_wp2
  go_ret
  exact ⟨by rfl, by repeat (exact Drawn0.refl _)⟩
 ·obtain rfl := Option.some.inj H
  go_enter Tryz.func108, Tryz.ntmps108
  go_wp2
  go_ret
  exact ⟨by rfl, by repeat (exact Drawn0.refl _)⟩

/-! ### words_trimmed: function 109 -/
def words_trimmed.l0 : Nat → List Int → Option (List Int)
 | 0, _ => none
 | k + 1, x0 => if (x0.length : Int) > 0 then (if 0 ≤ (wrap64 ((x0.length : Int) - 1)) then (if (wrap64 ((x0.length : Int) - 1)) < (x0.length : Int) then (if (rd x0 (wrap64 ((x0.length : Int) - 1))) = 0 then (if (wrap64 ((x0.length : Int) - 1)) ≤ (x0.length : Int) then (words_trimmed.l0 k (x0.take ((wrap64 ((x0.length : Int) - 1)) : Int).toNat)) else (none)) else (some x0)) else (none)) else (none)) else (some x0)
def words_trimmed.f (k : Nat) (l0 : List Int) : Option (List Int) := words_trimmed.l0 k l0
theorem words_trimmed.l0_succ (k) (a0) : type_of% (@words_trimmed.l0.eq_2 a0 k) := words_trimmed.l0.eq_2 a0 k
theorem words_trimmed.mono_l : ∀ k, (∀ y0, LeO (words_trimmed.l0 k y0) (words_trimmed.l0 (k + 1) y0))
 | 0 => fun _ r h => by simp [words_trimmed.l0] at h
 | k + 1 => by
  have ih0 := words_trimmed.mono_l k
  ·intro y0
   unfold words_trimmed.l0
   repeat' first | (with_reducible exact ih0 _) | (with_reducible exact LeO.refl _) | (with_reducible refine LeO.ite ?_ ?_)
theorem words_trimmed.mono : ∀ a0 k, LeO (words_trimmed.f k a0) (words_trimmed.f (k + 1) a0) := by
 intro a0 k
 have ih0 := words_trimmed.mono_l k
 unfold words_trimmed.f
 repeat' (with_reducible exact ih0 _)
set_option maxHeartbeats 8000000 in
set_option maxRecDepth 100000 in
theorem words_trimmed.calls (k : Nat) (P0_ : Nat → Prop) (A0 : Option Addr) (c0 : Nat) (l0 : List Int) (r : List Int) (w : World) (hs0 : Kd.V (Kd.int .i64) 3 w w.heap.size (fun k_ => P0_ k_) (.slice A0 l0.length c0) l0) (h : words_trimmed.f k l0 = some r) :
  Calls Tryz.prog 109 #[.slice A0 l0.length c0] w fun e w' => ∃ v0_ : Value, e = .returned (v0_) ∧ Kd.V (Kd.int .i64) 3 w' w.heap.size (fun k_ => (P0_ k_ ∨ w.heap.size ≤ k_)) v0_ r ∧ Below w.heap.size w w' := by
 have HO0 := Aside0.mk (show Kd.V (Kd.int .i64) 3 w w.heap.size (fun k_ => (P0_ k_ ∨ w.heap.size ≤ k_)) (.slice A0 l0.length c0) l0 from Kd.V_mono hs0 (fun k_ hk => .inl hk))
 have HB := Aside0.mk (Below.refl w.heap.size w)
 have H := h
 clear h
 unfold words_trimmed.f at H
 have H' := Aside0.mk H
 clear H
 go_enter Tryz.func109, Tryz.ntmps109
 go_wp2
 go_loopg [0] k (fun kq v0 w' => ∃ (x0_1 : List Int), Aside0 (words_trimmed.l0 kq x0_1 = some r) ∧ Aside0 (kq ≤ k) ∧ Aside0 (Kd.V (Kd.int .i64) 3 w' w.heap.size (fun k_ => (P0_ k_ ∨ w.heap.size ≤ k_)) v0 x0_1) ∧ Aside0 (Below w.heap.size w w'))
 case atStart => exact ⟨(l0), H', ⟨Nat.le_refl _⟩, ⟨by exact HO0.out⟩, ⟨bh HB.out⟩⟩
 case round =>
  clear H'
  obtain ⟨x0_1, HA, HK1, HO_0, HB⟩ := hrel
  cases gk with
  | zero => exact absurd HA.out (by simp [words_trimmed.l0])
  | succ k1 =>
   have H := HA.out
   clear HA
   simp only [words_trimmed.l0] at H
   replace H := ifd H
   rcases H with ⟨c2, c2b0, H⟩ | ⟨c2, c2b0, H⟩
   ·have c2b1 : decide (0 < x0_1.length) = true := decide_eq_true (by omega)
    clear c2
    obtain ⟨ji3, hji3⟩ : ∃ j_ : Int, (wrap64 ((x0_1.length : Int) - 1)) = j_ := ⟨_, rfl⟩
    replace H : (if 0 ≤ (ji3) then (if (ji3) < (x0_1.length : Int) then (if (rd x0_1 (ji3)) = 0 then (if (ji3) ≤ (x0_1.length : Int) then (words_trimmed.l0 k1 (x0_1.take ((ji3) : Int).toNat)) else (none)) else (some x0_1)) else (none)) else (none)) = some r := by (rw [hji3] at H; exact H)
    have hji3w : (IntKind.i64.wrap ((x0_1.length : Int) - 1)) = ji3 := (i64_w _).trans hji3
    replace H := ifn H
    obtain ⟨-, c4b0, H⟩ := H
    replace H := ifn H
    obtain ⟨-, c5b0, H⟩ := H
    replace H := ife H
    rcases H with ⟨-, c6b0, c6b1, H⟩ | ⟨c6, c6b0, c6b1, H⟩
    ·have c7b0 := eq_true (of_decide_eq_true (by assumption) : 0 ≤ (ji3))
     replace H := ifn H
     obtain ⟨c8, -, H⟩ := H
     have c8b0 := eq_true c8
     have c8b1 : decide ((ji3) ≤ (x0_1.length : Int)) = true := decide_eq_true c8
     clear c8
     obtain ⟨y250, hy250⟩ : ∃ y_ : List Int, y_ = (x0_1.take ((ji3) : Int).toNat) := ⟨_, rfl⟩
     replace H : (words_trimmed.l0 k1 y250) = some r := by (rw [hy250]; with_reducible exact H)
     have Ny250 := Aside0.mk hy250
     clear hy250
     have H' := Aside0.mk H
     clear H
     obtain ⟨Ao9, co9, eo9⟩ := Kd.V_slice HO_0.out
     subst eo9
     have p249 : 0 ≤ ((ji3) : Int) := ad
     have q249 : (ji3) < (x0_1.length : Int) := ad
     obtain ⟨ad249, e249, hx249_0⟩ := Kd.at_int (Kd.V_reads' HO_0.out).2.2 (ji3) p249 q249
     cases e249
     replace p249 := eq_true p249
     replace q249 := eq_true q249
     have q10 : ((ji3) : Int) ≤ ((x0_1.length : Int) : Int) := ad
     obtain ⟨i010, hi010, _, hsz10, _⟩ := info_parts info3
     have hroom10 : x0_1.length ≤ co9 := (Kd.V_reads' HO_0.out).2.1
     have hC10 : Kd.F (Kd.int .i64) _ _ (some ad249) x0_1.length x0_1 := (Kd.V_at (base := w.heap.size) HO_0.out).2.2
     have hcut10 := cut_to (P := Tryz.prog) 25 3 .i64 Tryz.underlying25 hi010 (some ad249) x0_1.length co9 (ji3) (of_decide_eq_true (by assumption)) q10 hroom10
     have hr10 := Kd.F_take (m := ((ji3) : Int).toNat) hC10 (by omega)
     have hy10 : y250.length = ((ji3) : Int).toNat := (by rw [Ny250.out, List.length_take]; omega)
     rw [← Ny250.out] at hr10
     rw [← hy10] at hcut10
     have HO254 := Aside0.mk (show Kd.V (Kd.int .i64) 3 _ w.heap.size _ (.slice (some ad249) y250.length co9) y250 from Kd.V_mk (by omega) hr10)
     have HC254 := Aside0.mk (show y250.length ≤ co9 from by omega)
     clear hr10 hC10 hroom10 hi010 hsz10
     have KY10 := Aside0.mk hy10
     clear hy10
     replace q10 := eq_true q10
     go_wp2
     go_roundg k1
     case measure => have := HK1.out; omega
     case rel => exact ⟨(y250), (by exact H'), ⟨by have := HK1.out; omega⟩, ⟨by exact HO254.out⟩, ⟨bh HB.out⟩⟩
    ·obtain rfl := Option.some.inj H
     obtain ⟨Ao11, co11, eo11⟩ := Kd.V_slice HO_0.out
     subst eo11
     have p249 : 0 ≤ ((ji3) : Int) := ad
     have q249 : (ji3) < (x0_1.length : Int) := ad
     obtain ⟨ad249, e249, hx249_0⟩ := Kd.at_int (Kd.V_reads' HO_0.out).2.2 (ji3) p249 q249
     cases e249
     replace p249 := eq_true p249
     replace q249 := eq_true q249
     go_wp2
     go_ret
     exact ⟨_, by rfl, by exact HO_0.out, bh HB.out⟩
   ·have c2b1 : decide (0 < x0_1.length) = false := decide_eq_false (by omega)
    clear c2
    obtain rfl := Option.some.inj H
    obtain ⟨Ao12, co12, eo12⟩ := Kd.V_slice HO_0.out
    subst eo12
    go_wp2
    go_ret
    exact ⟨_, er, by exact HO_0.out, bh HB.out⟩

end Go.Proofs.YtjgmdjieandemaaGreat.Print
end
section
namespace Go.Proofs.YtjgmdjieandemaaGreat.Print
open Go.RowKit Go.Proofs.YtjgmdjieandemaaGreatW.PrintWords Go.Proofs.YtjgmdjieandemaaGreatW.PrintLast Go.Proofs.YtjgmdjieandemaaGreatW.PrintMore
attribute [local go_sem] max2_int min2_int max_two min_two max_three min_three max_four min_four   -- for this text's walks alone
set_option linter.unusedVariables false
set_option linter.unusedSimpArgs false

/-! ### words_both_fn86: function 85 -/
mutual
def words_both_fn86.j0 : Nat → List Int → List Int → Bool → Option (List Int × Int)
 | 0, _, _, _ => none
 | k + 1, x0, x1, x18 => if x18 = true then (some (([] : List Int), 1)) else (if 0 ≤ (mx (x0.length : Int) (x1.length : Int)) then (if (mx (x0.length : Int) (x1.length : Int) : Int).toNat ≤ 35184372088832 then ((some (List.replicate (mx (x0.length : Int) (x1.length : Int) : Int).toNat 0 : List Int)).bind fun y257 => (words_both_fn86.l0 k x0 x1 y257 (y257.length : Int) 0)) else (none)) else (none))
def words_both_fn86.l0 : Nat → List Int → List Int → List Int → Int → Int → Option (List Int × Int)
 | 0, _, _, _, _, _ => none
 | k + 1, x0, x1, x9, x26, x27 => if x27 < x26 then ((words_both_1.f x0 x27).bind fun t260 => ((words_both_1.f x1 x27).bind fun t261 => ((words_And_1.f t260 t261).bind fun t262 => (if 0 ≤ x27 then (if x27 < (x9.length : Int) then (words_both_fn86.l0 k x0 x1 (x9.set (x27 : Int).toNat t262) x26 (wrap64 (x27 + 1))) else (none)) else (none))))) else ((words_trimmed.f k x9).bind fun t264 => (some (t264, 0)))
end
def words_both_fn86.f (k : Nat) (l0 : List Int) (l1 : List Int)  : Option (List Int × Int) := (words_May.f l0).bind fun t255 => (if t255 = true then ((words_May.f l1).bind fun t256 => (words_both_fn86.j0 k l0 l1 (!t256))) else (words_both_fn86.j0 k l0 l1 true))
theorem words_both_fn86.j0_succ (k) (a0) (a1) (a2) : type_of% (@words_both_fn86.j0.eq_2 a0 a1 a2 k) := words_both_fn86.j0.eq_2 a0 a1 a2 k
theorem words_both_fn86.l0_succ (k) (a0) (a1) (a2) (a3) (a4) : type_of% (@words_both_fn86.l0.eq_2 a0 a1 a2 a3 a4 k) := words_both_fn86.l0.eq_2 a0 a1 a2 a3 a4 k
theorem words_both_fn86.mono_l : ∀ k, (∀ y0 y1 y2, LeO (words_both_fn86.j0 k y0 y1 y2) (words_both_fn86.j0 (k + 1) y0 y1 y2)) ∧ (∀ y0 y1 y2 y3 y4, LeO (words_both_fn86.l0 k y0 y1 y2 y3 y4) (words_both_fn86.l0 (k + 1) y0 y1 y2 y3 y4))
 | 0 => ⟨fun _ _ _ r h => by simp [words_both_fn86.j0] at h, fun _ _ _ _ _ r h => by simp [words_both_fn86.l0] at h⟩
 | k + 1 => by
  obtain ⟨ih0, ih1⟩ := words_both_fn86.mono_l k
  refine ⟨?_, ?_⟩
  ·intro y0 y1 y2
   unfold words_both_fn86.j0
   repeat' first | (with_reducible exact ih1 _ _ _ _ _) | (with_reducible exact LeO.refl _) | (with_reducible refine LeO.ite ?_ ?_) | (with_reducible refine LeO.bind ?_ (fun _ => ?_))
  ·intro y0 y1 y2 y3 y4
   unfold words_both_fn86.l0
   repeat' first | (with_reducible exact ih1 _ _ _ _ _) | (with_reducible exact words_trimmed.mono _ _) | (with_reducible exact LeO.refl _) | (with_reducible refine LeO.ite ?_ ?_) | (with_reducible refine LeO.bind ?_ (fun _ => ?_))
theorem words_both_fn86.mono : ∀ a0 a1 k, LeO (words_both_fn86.f k a0 a1) (words_both_fn86.f (k + 1) a0 a1) := by
 intro a0 a1 k
 obtain ⟨ih0, ih1⟩ := words_both_fn86.mono_l k
 unfold words_both_fn86.f
 repeat' first | (with_reducible exact ih0 _ _ _) | (with_reducible exact LeO.refl _) | (with_reducible refine LeO.ite ?_ ?_) | (with_reducible refine LeO.bind ?_ (fun _ => ?_))
set_option maxHeartbeats 8000000 in
set_option maxRecDepth 100000 in
theorem words_both_fn86.calls (k : Nat) (A0 : Option Addr) (c0 : Nat) (l0 : List Int) (A1 : Option Addr) (c1 : Nat) (l1 : List Int)  (r1 : List Int) (r2 : Int) (w : World) (hr0 : Kd.C (Kd.int .i64) w A0 l0.length l0) (hc0 : l0.length ≤ c0) (hr1 : Kd.C (Kd.int .i64) w A1 l1.length l1) (hc1 : l1.length ≤ c1) (h : words_both_fn86.f k l0 l1 = some (r1, r2)) :
  Calls Tryz.prog 85 #[.slice A0 l0.length c0, .slice A1 l1.length c1, .func (.func 86) #[] #[]] w fun e w' => ∃ v0_ : Value, e = .returned (.tuple #[v0_, .int .i64 r2]) ∧ Kd.V (Kd.int .i64) 3 w' w.heap.size (fun k_ => (w.heap.size ≤ k_)) v0_ r1 ∧ Below w.heap.size w w' := by
 have HR0 := Aside0.mk hr0
 have HC0 := Aside0.mk hc0
 clear hr0 hc0
 have HR1 := Aside0.mk hr1
 have HC1 := Aside0.mk hc1
 clear hr1 hc1
 have HB := Aside0.mk (Below.refl w.heap.size w)
 have H := h
 clear h
 unfold words_both_fn86.f at H
 have HC4 := Aside0.mk H
 clear H
 go_enter Tryz.func85, Tryz.ntmps85
 go_upto_region 1 with (fail)
 go_cut [18] (fun v18 wc => ∃ (kq : Nat) (x18_3 : Bool), v18 = .bool x18_3 ∧ Aside0 (words_both_fn86.j0 kq l0 l1 x18_3 = some (r1, r2)) ∧ Aside0 (kq ≤ k) ∧ Aside0 (Below w.heap.size w wc))
 case first =>
  have H := HC4.out
  clear HC4
  replace H := bd H
  obtain ⟨t255, A5, H⟩ := H
  replace H := ifb H
  rcases H with ⟨rfl, H⟩ | ⟨rfl, H⟩
  ·replace H := bd H
   obtain ⟨t256, A7, H⟩ := H
   have H' := Aside0.mk H
   clear H
   go_wp2_with (first | ((with_reducible refine gate_callee (f := 80) rfl ?_); refine gL 12 Tryz.func80 #[.slice A0 l0.length c0] ?_; (with_reducible refine (words_May.calls _ _ l0 true _ ?side1 ?side2 A5.out).mono ?_); (case side1 => exact cx (Kd.C_below HR0.out HB.out)); (case side2 => exact HC0.out); rintro e w' ⟨rfl, ⟨nd, rfl⟩⟩; refine ⟨_, rfl, ?_⟩) | (go_at_call 80; (with_reducible refine (words_May.calls _ _ l1 t256 _ ?side1 ?side2 A7.out).mono ?_); (case side1 => repeat (exact (Kd.C_below HR1.out (bh HB.out)))); (case side2 => exact HC1.out); rintro e w' ⟨rfl, ⟨nd, rfl⟩⟩; clear A7))
   go_meet
   case rel => exact ⟨_, (!t256), (by rfl), H', ⟨by omega⟩, ⟨bh HB.out⟩⟩
  ·have H' := Aside0.mk H
   clear H
   go_wp2_with (((with_reducible refine gate_callee (f := 80) rfl ?_); refine gL 12 Tryz.func80 #[.slice A0 l0.length c0] ?_; (with_reducible refine (words_May.calls _ _ l0 false _ ?side1 ?side2 A5.out).mono ?_); (case side1 => exact cx (Kd.C_below HR0.out HB.out)); (case side2 => exact HC0.out); rintro e w' ⟨rfl, ⟨nd, rfl⟩⟩; refine ⟨_, rfl, ?_⟩))
   go_meet
   case rel => exact ⟨_, (true), (by rfl), H', ⟨by omega⟩, ⟨bh HB.out⟩⟩
 case rest =>
  clear HC4
  obtain ⟨kq, x18_3, rfl, HA, HJ3, HB⟩ := hcut
  cases kq with
  | zero => exact absurd HA.out (by simp [words_both_fn86.j0])
  | succ kj3 =>
   have H := HA.out
   clear HA
   simp only [words_both_fn86.j0] at H
   replace H := ifb H
   rcases H with ⟨rfl, H⟩ | ⟨rfl, H⟩
   ·simp only [Option.some.injEq, Prod.mk.injEq] at H
    obtain ⟨rfl, rfl⟩ := H
    go_wp2
    go_ret2
    exact ⟨_, er, Kd.V_nil _ _ _ _ _, bh HB.out⟩
   ·obtain ⟨ji9, hji9⟩ : ∃ j_ : Int, (mx (l0.length : Int) (l1.length : Int)) = j_ := ⟨_, rfl⟩
    replace H : (if 0 ≤ (ji9) then (if (ji9 : Int).toNat ≤ 35184372088832 then ((some (List.replicate (ji9 : Int).toNat 0 : List Int)).bind fun y257 => (words_both_fn86.l0 kj3 l0 l1 y257 (y257.length : Int) 0)) else (none)) else (none)) = some (r1, r2) := by (rw [hji9] at H; exact H)
    have hji9_ : (if (l0.length : Int) < (l1.length : Int) then (l1.length : Int) else (l0.length : Int)) = ji9 := hji9
    have hji9n_ := hji9_
    (simp only [Int.ofNat_lt] at hji9n_)
    replace H := ifn H
    obtain ⟨c10, -, H⟩ := H
    have c10b0 := eq_true c10
    have c10b1 : decide (0 ≤ (ji9)) = true := decide_eq_true c10
    clear c10
    replace H := ifn H
    obtain ⟨c11, -, H⟩ := H
    have c11b0 := eq_true c11
    have c11b1 : decide ((ji9 : Int).toNat ≤ 35184372088832) = true := decide_eq_true c11
    clear c11
    obtain ⟨y257, hy257⟩ : ∃ y_ : List Int, y_ = (List.replicate (ji9 : Int).toNat 0) := ⟨_, rfl⟩
    replace H : (words_both_fn86.l0 kj3 l0 l1 y257 (y257.length : Int) 0) = some (r1, r2) := by (have H2_ := (Option.bind_some _ _).symm.trans H; rw [hy257]; with_reducible exact H2_)
    have Ny257 := Aside0.mk hy257
    clear hy257
    have H' := Aside0.mk H
    clear H
    go_wp2_with (((with_reducible refine gate_dst (N := 24) rfl ?_); refine Kd.R_make (Kd.int .i64) _ 3 rfl (N := 24) rfl 25 _ _ rfl ji9 (by rfl) (by rfl) Tryz.underlying25 (.int .i64 0) 8 info3 rfl (by decide) (by omega) 0 (ok := fun _ => True) (okp := fun _ => True) rfl (fun _ hk => hk) trivial (of_decide_eq_true (by assumption)) (Nat.le_trans (Nat.mul_le_mul_right _ (of_decide_eq_true (by assumption) : ji9.toNat ≤ 35184372088832)) (by omega)) (Below.refl _ _) (Nat.le_refl _) ?_; intro v258 w12 ho13 hb hg_ hnew_; clear hg_ hnew_; (rw [← Ny257.out] at ho13); have HO259 := Aside0.mk (Kd.R_lower (Kd.R_newM (M := fun k_ => (w.heap.size ≤ k_)) ho13 (below_size (bh HB.out)) (fun k_ h_ => h_)) (below_size (bh HB.out))); replace HB := bsa HB hb; clear hb ho13; obtain ⟨Ao14, co14, eo14⟩ := Kd.R_slice HO259.out; subst eo14))
    go_loopg [27] kj3 (fun kq v27 w' => ∃ (x9_2 : List Int) (x27_2 : Int), v27 = .int .i64 x27_2 ∧ Aside0 (words_both_fn86.l0 kq l0 l1 x9_2 (y257.length : Int) x27_2 = some (r1, r2)) ∧ Aside0 (kq ≤ kj3) ∧ Aside0 (Kd.R (Kd.int .i64) 3 w' w.heap.size (fun k_ => (w.heap.size ≤ k_)) (.slice Ao14 y257.length co14) x9_2) ∧ Aside0 (Below w.heap.size w w'))
    case atStart => exact ⟨(y257), (0), (by rfl), H', ⟨Nat.le_refl _⟩, ⟨by exact Kd.R_mono HO259.out (fun _ hk => hk.1)⟩, ⟨bh HB.out⟩⟩
    case round =>
     clear H' c10b0 c10b1 c11b0 c11b1
     obtain ⟨x9_2, x27_2, rfl, HA, HK2, HO_9, HB⟩ := hrel
     have hl9_2 := (Kd.R_reads' HO_9.out).1
     rw [hl9_2] at HO_9
     (simp only [hl9_2])
     cases gk with
     | zero => exact absurd HA.out (by simp [words_both_fn86.l0])
     | succ k2 =>
      have H := HA.out
      clear HA
      simp only [words_both_fn86.l0] at H
      replace H := ifd H
      rcases H with ⟨c15, c15b0, H⟩ | ⟨c15, c15b0, H⟩
      ·((have c15b0l := c15b0; simp only [hl9_2] at c15b0l))
       clear c15
       replace H := bd H
       obtain ⟨t260, A16, H⟩ := H
       replace H := bd H
       obtain ⟨t261, A17, H⟩ := H
       replace H := bd H
       obtain ⟨t262, A18, H⟩ := H
       replace H := ifn H
       obtain ⟨-, c19b0, H⟩ := H
       replace H := ifn H
       obtain ⟨-, c20b0, H⟩ := H
       obtain ⟨y263, hy263⟩ : ∃ y_ : List Int, y_ = (x9_2.set (x27_2 : Int).toNat t262) := ⟨_, rfl⟩
       replace H : (words_both_fn86.l0 k2 l0 l1 y263 (y257.length : Int) (wrap64 (x27_2 + 1))) = some (r1, r2) := by (rw [hy263]; with_reducible exact H)
       have Ny263 := Aside0.mk hy263
       clear hy263
       have H' := Aside0.mk H
       clear H
       go_wp2_with (first | ((with_reducible refine gate_list ?_); refine gate_value rfl ?_; refine goesV_ (some 36) rfl rfl Tryz.func108 (by kernel_rfl) rfl #[.slice A0 l0.length c0, .int .i64 x27_2] rfl (by rfl) (by (simp only [List.map_toArray, List.map_cons, List.map_nil]); rfl) ?_; (with_reducible refine (words_both_1.calls _ _ l0 x27_2 t260 _ ?side1 ?side2 A16.out).mono ?_); (case side1 => exact cx (Kd.C_below HR0.out HB.out)); (case side2 => exact HC0.out); rintro e w' ⟨rfl, ⟨nd, rfl⟩⟩; refine ⟨_, rfl, ?_⟩; ((rw [drewN_self wr]; generalize hq_ : World.drewN wr _ = wr; have n0_ : Aside0 (Kd.R (Kd.int .i64) 3 wr w.heap.size (fun k_ => (w.heap.size ≤ k_)) (.slice Ao14 x9_2.length co14) x9_2) := ⟨by rw [← hq_]; exact (rx HO_9.out)⟩; have n1_ : Aside0 (Below w.heap.size w wr) := ⟨by rw [← hq_]; exact (bh HB.out)⟩; clear HO_9 HB hq_; have HO_9 := n0_; have HB := n1_; clear n0_ n1_))) | ((with_reducible refine gate_list ?_); refine gate_value rfl ?_; refine goesV_ (some 40) rfl rfl Tryz.func108 (by kernel_rfl) rfl #[.slice A1 l1.length c1, .int .i64 x27_2] rfl (by rfl) (by (simp only [List.map_toArray, List.map_cons, List.map_nil]); rfl) ?_; (with_reducible refine (words_both_1.calls _ _ l1 x27_2 t261 _ ?side1 ?side2 A17.out).mono ?_); (case side1 => exact cx (Kd.C_below HR1.out HB.out)); (case side2 => exact HC1.out); rintro e w' ⟨rfl, ⟨nd, rfl⟩⟩; refine ⟨_, rfl, ?_⟩; ((rw [drewN_self wr]; generalize hq_ : World.drewN wr _ = wr; have n0_ : Aside0 (Kd.R (Kd.int .i64) 3 wr w.heap.size (fun k_ => (w.heap.size ≤ k_)) (.slice Ao14 x9_2.length co14) x9_2) := ⟨by rw [← hq_]; exact (rx HO_9.out)⟩; have n1_ : Aside0 (Below w.heap.size w wr) := ⟨by rw [← hq_]; exact (bh HB.out)⟩; clear HO_9 HB hq_; have HO_9 := n0_; have HB := n1_; clear n0_ n1_))) | ((with_reducible refine gate_list ?_); refine gate_value rfl ?_; refine goesV_ (some 41) rfl rfl Tryz.func86 (by kernel_rfl) rfl #[.int .i64 t260, .int .i64 t261] rfl (by rfl) (by (simp only [List.map_toArray, List.map_cons, List.map_nil]); rfl) ?_; (with_reducible refine (words_And_1.calls t260 t261 t262 _ A18.out).mono ?_); rintro e w' ⟨rfl, ⟨nd, rfl⟩⟩; refine ⟨_, rfl, ?_⟩; ((rw [drewN_self wr]; generalize hq_ : World.drewN wr _ = wr; have n0_ : Aside0 (Kd.R (Kd.int .i64) 3 wr w.heap.size (fun k_ => (w.heap.size ≤ k_)) (.slice Ao14 x9_2.length co14) x9_2) := ⟨by rw [← hq_]; exact (rx HO_9.out)⟩; have n1_ : Aside0 (Below w.heap.size w wr) := ⟨by rw [← hq_]; exact (bh HB.out)⟩; clear HO_9 HB hq_; have HO_9 := n0_; have HB := n1_; clear n0_ n1_)); have p21 : 0 ≤ (x27_2 : Int) := ad; have q21 : (x27_2 : Int) < ((x9_2.length : Int) : Int) := ad; obtain ⟨go21, co21, eo21, gb21, gl21, cl21, HG21⟩ := Kd.R_form HO_9.out (by omega); (cases eo21); have GB21 := Aside0.mk gb21; have GG21 := Aside0.mk HG21; clear gb21 gl21 HG21; obtain ⟨hx21_0, hf21_0⟩ := Kd.R_celln 0 HO_9.out (x27_2 : Int) p21 q21; replace p21 := eq_true p21; replace q21 := eq_true q21; obtain ⟨hy22_, hz22_⟩ := Kd.R_celln 0 HO_9.out (x27_2 : Int) (of_decide_eq_true (by assumption)) (of_decide_eq_true (by assumption)); have HP22 := Kd.R_putg HO_9.out (x27_2 : Int) t262) | ((with_reducible refine gate_store (t := 3) (p := 42) rfl ?_); refine stE 3 42 (wr.setCell ⟨go21, (x27_2 : Int).toNat, none⟩ (.int .i64 t262)) ?_; intro w23 hw; have hg : wr.grownBy w23 (some go21) := (by rw [hw]; exact HP22.2); have hp_ : Kd.R (Kd.int .i64) 3 w23 w.heap.size (fun k_ => (w.heap.size ≤ k_)) (.slice (some ⟨go21, 0, none⟩) x9_2.length co14) y263 := (by rw [hw, Ny263.out]; exact HP22.1); clear HP22; replace HO_9 := Aside0.mk (hp_); replace HB := Aside0.mk ((by rw [hw]; exact below_set (HB.out) GB21.out : Below w.heap.size w w23)); clear hg hw hp_))
       (simp only [← hl9_2])
       go_roundg k2
       case measure => have := HJ3.out; have := HK2.out; omega
       case rel => exact ⟨(y263), (wrap64 (x27_2 + 1)), (by rfl), (by exact H'), ⟨by have := HJ3.out; have := HK2.out; omega⟩, ⟨by (simp only [hl9_2]); exact HO_9.out⟩, ⟨bh HB.out⟩⟩
      ·((have c15b0l := c15b0; simp only [hl9_2] at c15b0l))
       clear c15
       replace H := bd H
       obtain ⟨t264, A24, H⟩ := H
       simp only [Option.some.injEq, Prod.mk.injEq] at H
       obtain ⟨rfl, rfl⟩ := H
       go_wp2_with (((with_reducible refine gate_callee (f := 109) rfl ?_); refine gL 45 Tryz.func109 #[.slice Ao14 x9_2.length co14] ?_; (with_reducible refine (words_trimmed.calls k2 (fun k_ => some k_ = (.slice Ao14 x9_2.length co14 : Value).ownBlock) _ _ x9_2 t264 _ ?side1 A24.out).mono ?_); (case side1 => exact Kd.R_V (Kd.R_tight rfl (HO_9.out))); rintro e w25 ⟨v265, rfl, ho0, hb⟩; refine ⟨_, rfl, ?_⟩; have HO266 := Aside0.mk (Kd.V_lower (Kd.V_mono (ok' := fun k_ => (w.heap.size ≤ k_)) ho0 (fun k_ hk_ => Or.elim hk_ (fun hs_ => ((HO_9.out).1 k_ hs_.symm)) (fun hn_ => (Nat.le_trans (below_size (bh HB.out)) hn_)))) (below_size (bh HB.out))); replace HO_9 := rba HO_9 hb; replace HB := bsa HB hb; clear hb ho0))
       go_ret2
       exact ⟨_, by rfl, by exact HO266.out, bh HB.out⟩

/-! ### words_And: function 56 -/
def words_And.f (k : Nat) (l0 : List Int) (l1 : List Int) : Option (List Int × Int) := (words_both_fn86.f k l0 l1).bind fun bt267 => (some (bt267.1, bt267.2))
theorem words_And.mono : ∀ a0 a1 k, LeO (words_And.f k a0 a1) (words_And.f (k + 1) a0 a1) := by
 intro a0 a1 k
 unfold words_And.f
 repeat' first | (with_reducible exact words_both_fn86.mono _ _ _) | (with_reducible exact LeO.refl _) | (with_reducible refine LeO.bind ?_ (fun _ => ?_))
set_option maxHeartbeats 8000000 in
set_option maxRecDepth 100000 in
theorem words_And.calls (k : Nat) (A0 : Option Addr) (c0 : Nat) (l0 : List Int) (A1 : Option Addr) (c1 : Nat) (l1 : List Int) (r1 : List Int) (r2 : Int) (w : World) (hr0 : Kd.C (Kd.int .i64) w A0 l0.length l0) (hc0 : l0.length ≤ c0) (hr1 : Kd.C (Kd.int .i64) w A1 l1.length l1) (hc1 : l1.length ≤ c1) (h : words_And.f k l0 l1 = some (r1, r2)) :
  Calls Tryz.prog 56 #[.slice A0 l0.length c0, .slice A1 l1.length c1] w fun e w' => ∃ v0_ : Value, e = .returned (.tuple #[v0_, .int .i64 r2]) ∧ Kd.V (Kd.int .i64) 3 w' w.heap.size (fun k_ => (w.heap.size ≤ k_)) v0_ r1 ∧ Below w.heap.size w w' := by
 have HR0 := Aside0.mk hr0
 have HC0 := Aside0.mk hc0
 clear hr0 hc0
 have HR1 := Aside0.mk hr1
 have HC1 := Aside0.mk hc1
 clear hr1 hc1
 have HB := Aside0.mk (Below.refl w.heap.size w)
 have H := h
 clear h
 unfold words_And.f at H
 replace H := bd H
 obtain ⟨⟨t267, t270⟩, A3, H⟩ := H
 dsimp only at H
 simp only [Option.some.injEq, Prod.mk.injEq] at H
 obtain ⟨rfl, rfl⟩ := H
 go_enter Tryz.func56, Tryz.ntmps56
 go_wp2_with (((with_reducible refine gate_callee (f := 85) rfl ?_); refine gL 8 Tryz.func85 #[.slice A0 l0.length c0, .slice A1 l1.length c1, .func (.func 86) #[] #[]] ?_; (with_reducible refine (words_both_fn86.calls k _ _ l0 _ _ l1  t267 t270 _ ?side1 ?side2 ?side3 ?side4 A3.out).mono ?_); (case side1 => exact cx HR0.out); (case side2 => exact HC0.out); (case side3 => exact cx HR1.out); (case side4 => exact HC1.out); rintro e w4 ⟨v268, rfl, ho0, hb⟩; refine ⟨_, rfl, ?_⟩; have HO269 := Aside0.mk (Kd.V_lower (Kd.V_mono (ok' := fun k_ => (w.heap.size ≤ k_)) ho0 (fun k_ hk_ => (Nat.le_trans (below_size (bh HB.out)) hk_))) (below_size (bh HB.out))); replace HB := bsa HB hb; clear hb ho0))
 go_ret2
 exact ⟨_, er, by exact HO269.out, bh HB.out⟩

/-! ### span_And_1: function 88 -/
def span_And_1.f (a0_0 : Int) (a0_1 : Int) (a0_2 : Bool) (a0_3 : Bool) : Option (Bool) := if a0_2 = true then (some a0_3) else (some false)
set_option maxHeartbeats 8000000 in
set_option maxRecDepth 100000 in
theorem span_And_1.calls (a0_0 : Int) (a0_1 : Int) (a0_2 : Bool) (a0_3 : Bool) (r : Bool) (w : World) (h : span_And_1.f a0_0 a0_1 a0_2 a0_3 = some r) :
  Calls Tryz.prog 88 #[.agg #[.int .i64 a0_0, .int .i64 a0_1, .bool a0_2, .bool a0_3]] w fun e w' => e = .returned (.bool r) ∧ Below w.heap.size w w' := by
 have hu98 := Tryz.underlying98
 have HB := Aside0.mk (Below.refl w.heap.size w)
 have H := h
 clear h
 unfold span_And_1.f at H
 replace H := ifb H
 rcases H with ⟨rfl, H⟩ | ⟨rfl, H⟩
 ·obtain rfl := Option.some.inj H
  go_enter Tryz.func88, Tryz.ntmps88
  go_wp2_with (((with_reducible refine gate_dst (N := 1) rfl ?_); refine boxE HB 1 98 #[.int .i64 a0_0, .int .i64 a0_1, .bool true, .bool a0_3] ?_; clear HB; intro gb271 w3 BK271 GW271 hg hb HB; have GE271 := GW271; clear hb hg; obtain ⟨hcz4_0, hcz4_1, hcz4_2, hcz4_3, hfz4_0, hfz4_1, hfz4_2, hfz4_3⟩ := b4 BK271))
  go_ret
  exact ⟨er, bh HB.out⟩
 ·obtain rfl := Option.some.inj H
  go_enter Tryz.func88, Tryz.ntmps88
  go_wp2_with (((with_reducible refine gate_dst (N := 1) rfl ?_); refine boxE HB 1 98 #[.int .i64 a0_0, .int .i64 a0_1, .bool false, .bool a0_3] ?_; clear HB; intro gb271 w5 BK271 GW271 hg hb HB; have GE271 := GW271; clear hb hg; obtain ⟨hcz6_0, hcz6_1, hcz6_2, hcz6_3, hfz6_0, hfz6_1, hfz6_2, hfz6_3⟩ := b4 BK271))
  go_ret
  exact ⟨er, bh HB.out⟩

/-! ### span_edge: function 128 -/
def span_edge.f (a0_0 : Int) (a0_1 : Int) (a1 : Int) : Option (Int) := if a1 < a0_0 then (some a0_0) else (some a0_1)
set_option maxHeartbeats 8000000 in
set_option maxRecDepth 100000 in
theorem span_edge.calls (a0_0 : Int) (a0_1 : Int) (a1 : Int) (r : Int) (w : World) (h : span_edge.f a0_0 a0_1 a1 = some r) :
  Calls Tryz.prog 128 #[.agg #[.int .i64 a0_0, .int .i64 a0_1], .int .i64 a1] w fun e w' => e = .returned (.int .i64 r) ∧ Below w.heap.size w w' := by
 have hu64 := Tryz.underlying64
 have HB := Aside0.mk (Below.refl w.heap.size w)
 have H := h
 clear h
 unfold span_edge.f at H
 replace H := ifd H
 rcases H with ⟨-, c3b0, H⟩ | ⟨-, c3b0, H⟩
 ·obtain rfl := Option.some.inj H
  go_enter Tryz.func128, Tryz.ntmps128
  go_wp2_with (((with_reducible refine gate_dst (N := 2) rfl ?_); refine boxE HB 2 64 #[.int .i64 a0_0, .int .i64 a0_1] ?_; clear HB; intro gb272 w4 BK272 GW272 hg hb HB; have GE272 := GW272; clear hb hg; obtain ⟨hcz5_0, hcz5_1, hfz5_0, hfz5_1⟩ := b2 BK272))
  go_ret
  exact ⟨er, bh HB.out⟩
 ·obtain rfl := Option.some.inj H
  go_enter Tryz.func128, Tryz.ntmps128
  go_wp2_with (((with_reducible refine gate_dst (N := 2) rfl ?_); refine boxE HB 2 64 #[.int .i64 a0_0, .int .i64 a0_1] ?_; clear HB; intro gb272 w6 BK272 GW272 hg hb HB; have GE272 := GW272; clear hb hg; obtain ⟨hcz7_0, hcz7_1, hfz7_0, hfz7_1⟩ := b2 BK272))
  go_ret
  exact ⟨er, bh HB.out⟩

end Go.Proofs.YtjgmdjieandemaaGreat.Print
end
section
namespace Go.Proofs.YtjgmdjieandemaaGreat.Print
open Go.RowKit Go.Proofs.YtjgmdjieandemaaGreatW.PrintWords Go.Proofs.YtjgmdjieandemaaGreatW.PrintLast Go.Proofs.YtjgmdjieandemaaGreatW.PrintMore
attribute [local go_sem] max2_int min2_int max_two min_two max_three min_three max_four min_four   -- for this text's walks alone
set_option linter.unusedVariables false
set_option linter.unusedSimpArgs false

/-! ### span_parts_1: function 127 -/
mutual
def span_parts_1.l0 : Nat → Int → Int → Int → List (S64) → List (S64) → Option (List (S98))
 | 0, _, _, _, _, _ => none
 | k + 1, x16, x17, x18, x274000, x275000 => if x17 < (x274000.length : Int) then (span_parts_1.j1 k x16 x17 x18 true x274000 x275000) else (span_parts_1.j1 k x16 x17 x18 (decide (x18 < (x275000.length : Int))) x274000 x275000)
def span_parts_1.j1 : Nat → Int → Int → Int → Bool → List (S64) → List (S64) → Option (List (S98))
 | 0, _, _, _, _, _, _ => none
 | k + 1, x16, x17, x18, x29, x274000, x275000 => if x29 = true then (if x17 < (x274000.length : Int) then (if 0 ≤ x17 then ((span_edge.f ((rd_T64 x274000 x17).f0) ((rd_T64 x274000 x17).f1) x16).bind fun t278 => (span_parts_1.j2 k x16 x17 x18 x274000 x275000 x16 (mn 65536 t278) (decide (((rd_T64 x274000 x17).f0) ≤ x16)) false)) else (none)) else (span_parts_1.j2 k x16 x17 x18 x274000 x275000 x16 65536 false false)) else (some [])
def span_parts_1.j2 : Nat → Int → Int → Int → List (S64) → List (S64) → Int → Int → Bool → Bool → Option (List (S98))
 | 0, _, _, _, _, _, _, _, _, _ => none
 | k + 1, x16, x17, x18, x274000, x275000, x276000, x276001, x276002, x276003 => if x18 < (x275000.length : Int) then (if 0 ≤ x18 then ((span_edge.f ((rd_T64 x275000 x18).f0) ((rd_T64 x275000 x18).f1) x16).bind fun t281 => (span_parts_1.j3 k x17 x18 x274000 x275000 x276000 (mn x276001 t281) x276002 (decide (((rd_T64 x275000 x18).f0) ≤ x16)))) else (none)) else (span_parts_1.j3 k x17 x18 x274000 x275000 x276000 x276001 x276002 x276003)
def span_parts_1.j3 : Nat → Int → Int → List (S64) → List (S64) → Int → Int → Bool → Bool → Option (List (S98))
 | 0, _, _, _, _, _, _, _, _ => none
 | k + 1, x17, x18, x274000, x275000, x276000, x276001, x276002, x276003 => (if x17 < (x274000.length : Int) then (if 0 ≤ x17 then (span_parts_1.j4 k x276001 x17 x18 (decide (((rd_T64 x274000 x17).f1) ≤ x276001)) x274000 x275000) else (none)) else (span_parts_1.j4 k x276001 x17 x18 false x274000 x275000)).bind fun lr_ => (some ((⟨(⟨x276000, x276001⟩ : S64), x276002, x276003⟩ : S98) :: lr_))
def span_parts_1.j4 : Nat → Int → Int → Int → Bool → List (S64) → List (S64) → Option (List (S98))
 | 0, _, _, _, _, _, _ => none
 | k + 1, x16, x17, x18, x100, x274000, x275000 => if x100 = true then (span_parts_1.j5 k x16 (wrap64 (x17 + 1)) x18 x274000 x275000) else (span_parts_1.j5 k x16 x17 x18 x274000 x275000)
def span_parts_1.j5 : Nat → Int → Int → Int → List (S64) → List (S64) → Option (List (S98))
 | 0, _, _, _, _, _ => none
 | k + 1, x16, x17, x18, x274000, x275000 => if x18 < (x275000.length : Int) then (if 0 ≤ x18 then (span_parts_1.j6 k x16 x17 x18 (decide (((rd_T64 x275000 x18).f1) ≤ x16)) x274000 x275000) else (none)) else (span_parts_1.j6 k x16 x17 x18 false x274000 x275000)
def span_parts_1.j6 : Nat → Int → Int → Int → Bool → List (S64) → List (S64) → Option (List (S98))
 | 0, _, _, _, _, _, _ => none
 | k + 1, x16, x17, x18, x115, x274000, x275000 => if x115 = true then (span_parts_1.l0 k x16 x17 (wrap64 (x18 + 1)) x274000 x275000) else (span_parts_1.l0 k x16 x17 x18 x274000 x275000)
end
def span_parts_1.f (k : Nat) (l0 : List (S64)) (l1 : List (S64)) : Option (List (S98)) := span_parts_1.l0 k 0 0 0 l0 l1
theorem span_parts_1.l0_succ (k) (a0) (a1) (a2) (a3) (a4) : type_of% (@span_parts_1.l0.eq_2 a0 a1 a2 a3 a4 k) := span_parts_1.l0.eq_2 a0 a1 a2 a3 a4 k
theorem span_parts_1.j1_succ (k) (a0) (a1) (a2) (a3) (a4) (a5) : type_of% (@span_parts_1.j1.eq_2 a0 a1 a2 a3 a4 a5 k) := span_parts_1.j1.eq_2 a0 a1 a2 a3 a4 a5 k
theorem span_parts_1.j2_succ (k) (a0) (a1) (a2) (a3) (a4) (a5) (a6) (a7) (a8) : type_of% (@span_parts_1.j2.eq_2 a0 a1 a2 a3 a4 a5 a6 a7 a8 k) := span_parts_1.j2.eq_2 a0 a1 a2 a3 a4 a5 a6 a7 a8 k
theorem span_parts_1.j3_succ (k) (a0) (a1) (a2) (a3) (a4) (a5) (a6) (a7) : type_of% (@span_parts_1.j3.eq_2 a0 a1 a2 a3 a4 a5 a6 a7 k) := span_parts_1.j3.eq_2 a0 a1 a2 a3 a4 a5 a6 a7 k
theorem span_parts_1.mono_l : ∀ k, (∀ y0 y1 y2 y3 y4, LeO (span_parts_1.l0 k y0 y1 y2 y3 y4) (span_parts_1.l0 (k + 1) y0 y1 y2 y3 y4)) ∧ (∀ y0 y1 y2 y3 y4 y5, LeO (span_parts_1.j1 k y0 y1 y2 y3 y4 y5) (span_parts_1.j1 (k + 1) y0 y1 y2 y3 y4 y5)) ∧ (∀ y0 y1 y2 y3 y4 y5 y6 y7 y8, LeO (span_parts_1.j2 k y0 y1 y2 y3 y4 y5 y6 y7 y8) (span_parts_1.j2 (k + 1) y0 y1 y2 y3 y4 y5 y6 y7 y8)) ∧ (∀ y0 y1 y2 y3 y4 y5 y6 y7, LeO (span_parts_1.j3 k y0 y1 y2 y3 y4 y5 y6 y7) (span_parts_1.j3 (k + 1) y0 y1 y2 y3 y4 y5 y6 y7)) ∧ (∀ y0 y1 y2 y3 y4 y5, LeO (span_parts_1.j4 k y0 y1 y2 y3 y4 y5) (span_parts_1.j4 (k + 1) y0 y1 y2 y3 y4 y5)) ∧ (∀ y0 y1 y2 y3 y4, LeO (span_parts_1.j5 k y0 y1 y2 y3 y4) (span_parts_1.j5 (k + 1) y0 y1 y2 y3 y4)) ∧ (∀ y0 y1 y2 y3 y4 y5, LeO (span_parts_1.j6 k y0 y1 y2 y3 y4 y5) (span_parts_1.j6 (k + 1) y0 y1 y2 y3 y4 y5))
 | 0 => ⟨fun _ _ _ _ _ r h => by simp [span_parts_1.l0] at h, fun _ _ _ _ _ _ r h => by simp [span_parts_1.j1] at h, fun _ _ _ _ _ _ _ _ _ r h => by simp [span_parts_1.j2] at h, fun _ _ _ _ _ _ _ _ r h => by simp [span_parts_1.j3] at h, fun _ _ _ _ _ _ r h => by simp [span_parts_1.j4] at h, fun _ _ _ _ _ r h => by simp [span_parts_1.j5] at h, fun _ _ _ _ _ _ r h => by simp [span_parts_1.j6] at h⟩
 | k + 1 => by
  obtain ⟨ih0, ih1, ih2, ih3, ih4, ih5, ih6⟩ := span_parts_1.mono_l k
  refine ⟨?_, ?_, ?_, ?_, ?_, ?_, ?_⟩
  ·intro y0 y1 y2 y3 y4
   unfold span_parts_1.l0
   repeat' first | (with_reducible exact ih1 _ _ _ _ _ _) | (with_reducible refine LeO.ite ?_ ?_)
  ·intro y0 y1 y2 y3 y4 y5
   unfold span_parts_1.j1
   repeat' first | (with_reducible exact ih2 _ _ _ _ _ _ _ _ _) | (with_reducible exact LeO.refl _) | (with_reducible refine LeO.ite ?_ ?_) | (with_reducible refine LeO.bind ?_ (fun _ => ?_))
  ·intro y0 y1 y2 y3 y4 y5 y6 y7 y8
   unfold span_parts_1.j2
   repeat' first | (with_reducible exact ih3 _ _ _ _ _ _ _ _) | (with_reducible exact LeO.refl _) | (with_reducible refine LeO.ite ?_ ?_) | (with_reducible refine LeO.bind ?_ (fun _ => ?_))
  ·intro y0 y1 y2 y3 y4 y5 y6 y7
   unfold span_parts_1.j3
   repeat' first | (with_reducible exact ih4 _ _ _ _ _ _) | (with_reducible exact LeO.refl _) | (with_reducible refine LeO.ite ?_ ?_) | (with_reducible refine LeO.bind ?_ (fun _ => ?_))
  ·intro y0 y1 y2 y3 y4 y5
   unfold span_parts_1.j4
   repeat' first | (with_reducible exact ih5 _ _ _ _ _) | (with_reducible refine LeO.ite ?_ ?_)
  ·intro y0 y1 y2 y3 y4
   unfold span_parts_1.j5
   repeat' first | (with_reducible exact ih6 _ _ _ _ _ _) | (with_reducible exact LeO.refl _) | (with_reducible refine LeO.ite ?_ ?_)
  ·intro y0 y1 y2 y3 y4 y5
   unfold span_parts_1.j6
   repeat' first | (with_reducible exact ih0 _ _ _ _ _) | (with_reducible refine LeO.ite ?_ ?_)
theorem span_parts_1.mono : ∀ a0 a1 k, LeO (span_parts_1.f k a0 a1) (span_parts_1.f (k + 1) a0 a1) := by
 intro a0 a1 k
 obtain ⟨ih0, ih1, ih2, ih3, ih4, ih5, ih6⟩ := span_parts_1.mono_l k
 unfold span_parts_1.f
 repeat' (with_reducible exact ih0 _ _ _ _ _)
def span_parts_1.T5 : Bool × List (List Nat × List Nat) := (true, [([], []), ([0], [0]), ([1], [1]), ([], []), ([], []), ([3, 4], [3, 4]), ([5], [5]), ([], []), ([6, 7], [6, 7]), ([2, 8], [2, 8]), ([0, 1, 2, 3, 4, 5, 6, 7, 8, 9], []), ([10, 0, 1, 2, 3, 4, 5, 6, 7, 8, 9], [10]), ([11, 9, 8, 0, 1, 2, 3, 4, 5, 6, 7, 8, 9], [9, 11])])
def span_parts_1.B5 : List Nat := [0, 1, 3, 0, 0, 24, 56, 0, 248, 511, 1023, 2047, 4095]
theorem span_parts_1.tab5 : rtab .any (opsOf Tryz.f127 5) = span_parts_1.T5 := by kernel_rfl
theorem span_parts_1.bits5 : waitsOk span_parts_1.T5.2 span_parts_1.B5 = true := by kernel_rfl
def span_parts_1.T8 : Bool × List (List Nat × List Nat) := (true, [([], []), ([0], [0]), ([1], [1]), ([], []), ([], []), ([3, 4], [3, 4]), ([5], [5]), ([], []), ([6, 7], [6, 7]), ([2, 8], [2, 8]), ([0, 1, 2, 3, 4, 5, 6, 7, 8, 9], []), ([10, 0, 1, 2, 3, 4, 5, 6, 7, 8, 9], [10]), ([11, 9, 8, 0, 1, 2, 3, 4, 5, 6, 7, 8, 9], [9, 11])])
def span_parts_1.B8 : List Nat := [0, 1, 3, 0, 0, 24, 56, 0, 248, 511, 1023, 2047, 4095]
theorem span_parts_1.tab8 : rtab .any (opsOf Tryz.f127 8) = span_parts_1.T8 := by kernel_rfl
theorem span_parts_1.bits8 : waitsOk span_parts_1.T8.2 span_parts_1.B8 = true := by kernel_rfl
set_option maxHeartbeats 8000000 in
set_option maxRecDepth 100000 in
theorem span_parts_1.iter (k : Nat) (A0 : Option Addr) (c0 : Nat) (l0 : List (S64)) (A1 : Option Addr) (c1 : Nat) (l1 : List (S64)) (xs : List (S98)) (w W0 : World) (gb273 gb274 : Nat) (hr0 : Kd.C k64 w A0 l0.length l0) (hc0 : l0.length ≤ c0) (hr1 : Kd.C k64 w A1 l1.length l1) (hc1 : l1.length ≤ c1) (hB0 : Below w.heap.size w W0) (hg0 : W0.heap[gb273]? = some (.cells #[.slice A0 l0.length c0] 22 (0, 0))) (hg1 : W0.heap[gb274]? = some (.cells #[.slice A1 l1.length c1] 22 (0, 0))) (he0 : w.heap.size ≤ gb273) (he1 : w.heap.size ≤ gb274) (hn0_1 : gb273 ≠ gb274) (h : span_parts_1.f k l0 l1 = some xs) :
  XR.Iter Tryz.prog (fun x : S98 => #[.agg #[.int .i64 x.f0.f0, .int .i64 x.f0.f1, .bool x.f1, .bool x.f2]]) w (fun k_ => k_ = gb273 ∨ k_ = gb274) 127 #[.pointer (some ⟨gb273, 0, none⟩), .pointer (some ⟨gb274, 0, none⟩)] xs W0 := by
 intro n_ l_ J_ Jx_ W_ hWs_ hWf_ hJs_ hJxs_ hJB_ hY_ h0_
 refine callsIn_wide.2 ?_
 have hu64 := Tryz.underlying64
 have hu98 := Tryz.underlying98
 have HR0 := Aside0.mk hr0
 have HC0 := Aside0.mk hc0
 clear hr0 hc0
 have HR1 := Aside0.mk hr1
 have HC1 := Aside0.mk hc1
 clear hr1 hc1
 have H : (span_parts_1.l0 k 0 0 0 l0 l1) = some xs := h
 clear h
 have H' := Aside0.mk H
 clear H
 have BK273 := Aside0.mk ((hWf_ _ (Array.getElem?_eq_some_iff.1 hg0).1 (.inl rfl)).trans hg0)
 have GE273 := Aside0.mk he0
 have GW273 := Aside0.mk he0
 have NB273_274 := Aside0.mk hn0_1
 have NB274_273 := Aside0.mk (Ne.symm hn0_1)
 have BK274 := Aside0.mk ((hWf_ _ (Array.getElem?_eq_some_iff.1 hg1).1 (.inr rfl)).trans hg1)
 have GE274 := Aside0.mk he1
 have GW274 := Aside0.mk he1
 have HB := Aside0.mk (XR.b2_refl (hJB_ _ _ _ h0_))
 obtain ⟨G_, HJ_⟩ : ∃ G', Aside0 (J_ G' [] W_) := ⟨_, ⟨h0_⟩⟩
 have HX_ := Aside0.mk (show xs = [] ++ xs from rfl)
 go_enter Tryz.func127, Tryz.ntmps127
 go_wp2
 go_loopg [4, 5, 6] k (fun kq v16 v17 v18 w' => ∃ (G_ : Nat → Prop) (pre_ r : List (S98)) (x16_1 : Int) (x17_1 : Int) (x18_1 : Int), v16 = .int .i64 x16_1 ∧ v17 = .int .i64 x17_1 ∧ v18 = .int .i64 x18_1 ∧ Aside0 (span_parts_1.l0 kq x16_1 x17_1 x18_1 l0 l1 = some r) ∧ Aside0 (xs = pre_ ++ r) ∧ Aside0 (J_ G_ pre_ w') ∧ Aside0 (kq ≤ k) ∧ Aside0 (w'.heap[gb273]? = some (.cells #[(.slice A0 l0.length c0)] 22 (0, 0))) ∧ Aside0 (w'.heap[gb274]? = some (.cells #[(.slice A1 l1.length c1)] 22 (0, 0))) ∧ Aside0 (Below w.heap.size w w'))
 case atStart => exact ⟨XR.grow G_ W_ _, [], xs, (0), (0), (0), (by rfl), (by rfl), (by rfl), H', ⟨HX_.out⟩, ⟨hJs_ _ _ _ _ HJ_.out (XR.B2.two (w := w) (by repeat ((with_reducible exact HB.out))))⟩, ⟨Nat.le_refl _⟩, ⟨bx BK273.out⟩, ⟨bx BK274.out⟩, ⟨XR.B2.one (w1 := W_) (by repeat ((with_reducible exact HB.out)))⟩⟩
 case round =>
  clear H'
  obtain ⟨G_, pre_, r, x16_1, x17_1, x18_1, rfl, rfl, rfl, HA, HX_, HJ_, HK1, BK273, BK274, HB⟩ := hrel
  have HB := Aside0.mk (XR.b2_refl HB.out)
  cases gk with
  | zero => exact absurd HA.out (by simp [span_parts_1.l0])
  | succ k1 =>
   have H := HA.out
   clear HA
   simp only [span_parts_1.l0] at H
   have HC5 := Aside0.mk H
   clear H
   go_upto_region 1 with (go_in)
   go_cut [17] (fun v29 wc => ∃ (kq : Nat) (x29_4 : Bool), v29 = .bool x29_4 ∧ Aside0 (span_parts_1.j1 kq x16_1 x17_1 x18_1 x29_4 l0 l1 = some r) ∧ Aside0 (kq ≤ k1) ∧ Aside0 (wc.heap[gb273]? = some (.cells #[(.slice A0 l0.length c0)] 22 (0, 0))) ∧ Aside0 (wc.heap[gb274]? = some (.cells #[(.slice A1 l1.length c1)] 22 (0, 0))) ∧ Aside0 (XR.B2 w wr wc))
   case first =>
    have H := HC5.out
    clear HC5
    replace H := ifd H
    rcases H with ⟨-, c6b0, H⟩ | ⟨-, c6b0, H⟩
    ·(skip)
     have H' := Aside0.mk H
     clear H
     have hnb7 := NB273_274.out
     have hnc7 := NB274_273.out
     obtain ⟨hcz8_0, hfz8_0⟩ := b1 BK273
     go_wp2
     go_meet
     case rel => exact ⟨_, (true), (by rfl), H', ⟨by have := HK1.out; omega⟩, ⟨bx BK273.out⟩, ⟨bx BK274.out⟩, ⟨by repeat ((with_reducible exact HB.out))⟩⟩
    ·(skip)
     have H' := Aside0.mk H
     clear H
     have hnb9 := NB273_274.out
     have hnc9 := NB274_273.out
     obtain ⟨hcz10_0, hfz10_0⟩ := b1 BK273
     obtain ⟨hcz11_0, hfz11_0⟩ := b1 BK274
     go_wp2
     go_meet
     case rel => exact ⟨_, (decide (x18_1 < (l1.length : Int))), (by rfl), H', ⟨by have := HK1.out; omega⟩, ⟨bx BK273.out⟩, ⟨bx BK274.out⟩, ⟨by repeat ((with_reducible exact HB.out))⟩⟩
   case rest =>
    clear HC5
    obtain ⟨kq, x29_4, rfl, HA, HJ4, BK273, BK274, HB⟩ := hcut
    cases kq with
    | zero => exact absurd HA.out (by simp [span_parts_1.j1])
    | succ kj4 =>
     have H := HA.out
     clear HA
     simp only [span_parts_1.j1] at H
     replace H := ifb H
     rcases H with ⟨rfl, H⟩ | ⟨rfl, H⟩
     ·have HC13 := Aside0.mk H
      clear H
      go_upto_if 24 with (first | ((with_reducible refine gate_dst (N := 7) rfl ?_); ((refine gate_guard (by rfl) ?_; dsimp only)); refine box_event ?hg (N := 7) ?hd (cs := #[.int .i64 0, .int .i64 0, .bool false, .bool false]) (t := 98) ?hr ?_; (case hd => rfl); (case hg => rfl); (case hr => (go_simp; done)); intro gb275 hg w14 hbox hb; have BK275 := Aside0.mk (hbox); have GW275 := Aside0.mk ((by rw [hg]; exact (XR.b2_size (by repeat ((with_reducible exact HB.out)))) : w.heap.size ≤ gb275 ∧ wr.heap.size ≤ gb275)); have GE275 := Aside0.mk ((by rw [hg]; exact (XR.b2_size (by repeat ((with_reducible exact HB.out)))) : w.heap.size ≤ gb275 ∧ wr.heap.size ≤ gb275)); replace HB := Aside0.mk (XR.b2_step (by repeat ((with_reducible exact HB.out))) hb); obtain ⟨NB273_275, NB275_273⟩ := bnm BK273 hg; replace BK273 := bba BK273 hb; obtain ⟨NB274_275, NB275_274⟩ := bnm BK274 hg; replace BK274 := bba BK274 hb; clear hb hbox hg; have hnb15 := NB275_273.out; have hnc15 := NB273_275.out; have hnb16 := NB275_274.out; have hnc16 := NB274_275.out; obtain ⟨hcz17_0, hcz17_1, hcz17_2, hcz17_3, hfz17_0, hfz17_1, hfz17_2, hfz17_3⟩ := b4 BK275) | ((with_reducible refine gate_store (t := 98) (p := 7) rfl ?_); refine stE 98 7 ((((w14.setCell ⟨gb275, 0, none⟩ (.int .i64 x16_1)).setCell ⟨gb275, 1, none⟩ (.int .i64 65536)).setCell ⟨gb275, 2, none⟩ (.bool false)).setCell ⟨gb275, 3, none⟩ (.bool false)) ?_; intro w18 hw; have n0_ : Aside0 (w18.heap[gb273]? = some (.cells #[.slice A0 l0.length c0] 22 (0, 0))) := ⟨(by rw [hw]; exact (bx BK273.out))⟩; have n1_ : Aside0 (w18.heap[gb274]? = some (.cells #[.slice A1 l1.length c1] 22 (0, 0))) := ⟨(by rw [hw]; exact (bx BK274.out))⟩; have n2_ := sps #[.int .i64 x16_1, .int .i64 65536, .bool false, .bool false] BK275 hw (.p (.p (.p (.p .nil)))); have n3_ : Aside0 (XR.B2 w wr w18) := ⟨(by rw [hw]; exact (by repeat ((with_reducible first | exact HB.out | refine XR.b2_set ?_ GE275.out))))⟩; clear hw BK273 BK274 BK275 HB; have BK273 := n0_; have BK274 := n1_; have BK275 := n2_; have HB := n3_; clear n0_ n1_ n2_ n3_; have hnb19 := NB273_274.out; have hnc19 := NB274_273.out; obtain ⟨hcz20_0, hfz20_0⟩ := b1 BK273))
      go_cut [] (fun wc => ∃ (kq : Nat) (x276001_12 : Int) (x276002_12 : Bool), Aside0 (span_parts_1.j2 kq x16_1 x17_1 x18_1 l0 l1 x16_1 x276001_12 x276002_12 false = some r) ∧ Aside0 (kq ≤ kj4) ∧ Aside0 (wc.heap[gb273]? = some (.cells #[(.slice A0 l0.length c0)] 22 (0, 0))) ∧ Aside0 (wc.heap[gb274]? = some (.cells #[(.slice A1 l1.length c1)] 22 (0, 0))) ∧ Aside0 (wc.heap[gb275]? = some (.cells #[.int .i64 x16_1, .int .i64 x276001_12, .bool x276002_12, .bool false] 98 (0, 0))) ∧ Aside0 (XR.B2 w wr wc))
      case first =>
       have H := HC13.out
       clear HC13
       replace H := ifd H
       rcases H with ⟨-, c21b0, H⟩ | ⟨-, c21b0, H⟩
       ·(rw [c21b0])
        replace H := ifn H
        obtain ⟨-, c22b0, H⟩ := H
        replace H := bd H
        obtain ⟨t278, A23, H⟩ := H
        obtain ⟨ji24, hji24⟩ : ∃ j_ : Int, (mn 65536 t278) = j_ := ⟨_, rfl⟩
        replace H : (span_parts_1.j2 kj4 x16_1 x17_1 x18_1 l0 l1 x16_1 ji24 (decide (((rd_T64 l0 x17_1).f0) ≤ x16_1)) false) = some r := by (rw [hji24] at H; exact H)
        ((have hji24h : ji24 ≤ 65536 := by (rw [← hji24]; unfold mn; (repeat' split) <;> omega)))
        have hji24_ : (if t278 < 65536 then t278 else 65536) = ji24 := hji24
        have H' := Aside0.mk H
        clear H
        have hnb25 := NB273_274.out
        have hnc25 := NB274_273.out
        have hnb26 := NB273_275.out
        have hnc26 := NB275_273.out
        obtain ⟨hcz27_0, hfz27_0⟩ := b1 BK273
        have p276 : 0 ≤ (x17_1 : Int) := ad
        have q276 : x17_1 < (l0.length : Int) := ad
        obtain ⟨ad276, e276, hx276_0, hx276_1⟩ := at_T64 HR0.out x17_1 p276 q276
        cases e276
        replace hx276_0 := cb HB.out.cell hx276_0
        replace hx276_1 := cb HB.out.cell hx276_1
        replace p276 := eq_true p276
        replace q276 := eq_true q276
        have hnb28 := NB275_274.out
        have hnc28 := NB274_275.out
        obtain ⟨hcz29_0, hcz29_1, hcz29_2, hcz29_3, hfz29_0, hfz29_1, hfz29_2, hfz29_3⟩ := b4 BK275
        go_wp2
        have n0_ : Aside0 ((w18.setCell ⟨gb275, 2, none⟩ (.bool (decide (((rd_T64 l0 x17_1).f0) ≤ x16_1)))).heap[gb273]? = some (.cells #[.slice (some ad276) l0.length c0] 22 (0, 0))) := ⟨bx BK273.out⟩
        have n1_ : Aside0 ((w18.setCell ⟨gb275, 2, none⟩ (.bool (decide (((rd_T64 l0 x17_1).f0) ≤ x16_1)))).heap[gb274]? = some (.cells #[.slice A1 l1.length c1] 22 (0, 0))) := ⟨bx BK274.out⟩
        have n2_ : Aside0 ((w18.setCell ⟨gb275, 2, none⟩ (.bool (decide (((rd_T64 l0 x17_1).f0) ≤ x16_1)))).heap[gb275]? = some (.cells #[.int .i64 x16_1, .int .i64 65536, .bool (decide (((rd_T64 l0 x17_1).f0) ≤ x16_1)), .bool false] 98 (0, 0))) := ⟨by refine blk_put (cs := #[.int .i64 x16_1, .int .i64 65536, .bool false, .bool false]) ?_ 2 _ rfl; exact BK275.out⟩
        have n3_ : Aside0 (XR.B2 w wr (w18.setCell ⟨gb275, 2, none⟩ (.bool (decide (((rd_T64 l0 x17_1).f0) ≤ x16_1))))) := ⟨by repeat ((with_reducible first | exact HB.out | refine XR.b2_set ?_ GE275.out))⟩
        clear BK273 BK274 BK275 HB
        generalize (w18.setCell ⟨gb275, 2, none⟩ (.bool (decide (((rd_T64 l0 x17_1).f0) ≤ x16_1)))) = w30 at n0_ n1_ n2_ n3_ ⊢
        have BK273 := n0_
        have BK274 := n1_
        have BK275 := n2_
        have HB := n3_
        clear n0_ n1_ n2_ n3_
        replace BK273 := Aside0.mk (blk_drew BK273.out)
        replace BK274 := Aside0.mk (blk_drew BK274.out)
        replace BK275 := Aside0.mk (blk_drew BK275.out)
        replace HB := Aside0.mk (XR.b2_drew1 HB.out)
        have p277 : 0 ≤ (x17_1 : Int) := ad
        have q277 : x17_1 < (l0.length : Int) := ad
        obtain ⟨ad277, e277, hx277_0, hx277_1⟩ := at_T64 HR0.out x17_1 p277 q277
        have hw277_1 := hx277_1
        have hw277_0 := hx277_0
        obtain rfl : ad276 = ad277 := (by injection e277)
        replace hx277_0 := cb HB.out.cell hx277_0
        replace hx277_1 := cb HB.out.cell hx277_1
        replace p277 := eq_true p277
        replace q277 := eq_true q277
        refine start_ (n := 13) (S := fun w' => w'.cell? ⟨gb275, 0, none⟩ = some (.int .i64 x16_1) ∧ w'.cell? ⟨gb275, 1, none⟩ = some (.int .i64 65536) ∧ w'.cell? ⟨gb275, 2, none⟩ = some (.bool (decide (((rd_T64 l0 x17_1).f0) ≤ x16_1))) ∧ w'.cell? ⟨gb275, 3, none⟩ = some (.bool false) ∧ w'.cell? ⟨gb273, 0, none⟩ = some (.slice (some ad276) l0.length c0) ∧ w'.cell? (ad276.add ((x17_1).toNat * 2)) = some (.int .i64 ((rd_T64 l0 x17_1).f0)) ∧ w'.cell? ⟨(ad276.add ((x17_1).toNat * 2)).block, (ad276.add ((x17_1).toNat * 2)).off + 1, none⟩ = some (.int .i64 ((rd_T64 l0 x17_1).f1))) (ds := [12]) #[false, false, false, false, false, false, false, false, false, false, false, false, false] (by kernel_rfl) rfl rfl ⟨(blk_cell BK275.out 0).trans rfl, (blk_cell BK275.out 1).trans rfl, (blk_cell BK275.out 2).trans rfl, (blk_cell BK275.out 3).trans rfl, (blk_cell BK273.out 0).trans rfl, ((HB.out.cell (World.block_lt_of_cell? w _ hw277_0)).trans hw277_0), ((HB.out.cell (World.block_lt_of_cell? w _ hw277_1)).trans hw277_1)⟩ (fun hHeld => ?_); refine with_tabW span_parts_1.tab5 span_parts_1.bits5 (fun HT_ HW_ => ?_)
        generalize w30.drew = w31 at BK273 BK274 BK275 HB hx277_0 hx277_1 hHeld ⊢
        refine puA HT_ 0 33 (bv 13 1) ?_
        refine puA HT_ 1 34 (bv 13 3) ?_
        refine puA HT_ 4 37 (bv 13 19) ?_
        refine puA HT_ 7 40 (bv 13 147) ?_
        refine taA HT_ HW_ hHeld 2 35 (bv 13 151) ?_
        refine taA HT_ HW_ hHeld 3 36 (bv 13 159) ?_
        refine puA HT_ 5 38 (bv 13 191) ?_
        refine taA HT_ HW_ hHeld 6 39 (bv 13 255) ?_
        refine one_ (i := 8) (N := some 41) #[true, true, true, true, true, true, true, true, true, false, false, false, false] rfl rfl (one_of HT_.out (by kernel_rfl)) (by decide) (fun K hK => ?_)
        refine goes_ Tryz.func128 (by kernel_rfl) rfl #[.agg #[.int .i64 ((rd_T64 l0 x17_1).f0), .int .i64 ((rd_T64 l0 x17_1).f1)], .int .i64 x16_1] (by rfl) rfl rfl (by (simp only [List.map_toArray, List.map_cons, List.map_nil]); rfl) ?_
        with_reducible refine (span_edge.calls ((rd_T64 l0 x17_1).f0) ((rd_T64 l0 x17_1).f1) x16_1 t278 _ A23.out).mono ?_
        rintro e w32 ⟨rfl, hb⟩
        refine ⟨_, rfl, ?_⟩
        replace BK273 := bba BK273 hb
        replace BK274 := bba BK274 hb
        replace BK275 := bba BK275 hb
        replace HB := Aside0.mk (XR.b2_step (by repeat ((with_reducible exact HB.out))) hb)
        clear hb
        refine hK.out _ _ ⟨(blk_cell BK275.out 0).trans rfl, (blk_cell BK275.out 1).trans rfl, (blk_cell BK275.out 2).trans rfl, (blk_cell BK275.out 3).trans rfl, (blk_cell BK273.out 0).trans rfl, ((HB.out.cell (World.block_lt_of_cell? w _ hw277_0)).trans hw277_0), ((HB.out.cell (World.block_lt_of_cell? w _ hw277_1)).trans hw277_1)⟩ (fun hHeld => ?_)
        clear hK K
        refine norm_ (a' := ?_) ?_ ?_
        rotate_left
        ·show Act.put _ (some 41) _ = _
         simp only [Act.put, List.setIfInBounds_toArray, List.set_cons_zero, List.set_cons_succ, i64_w, i32_w]
         rfl
        refine puA HT_ 9 42 (bv 13 1023) ?_
        refine puA HT_ 10 43 (bv 13 2047) ?_
        refine puA HT_ 11 44 (bv 13 4095) ?_
        refine last_ (i := 12) (N := none) #[true, true, true, true, true, true, true, true, true, true, true, true, true] rfl rfl (one_of HT_.out (by kernel_rfl)) (by decide) (fun K hK => ?_)
        have hs33 : w32.cell? ⟨gb275, 1, none⟩ = some (.int .i64 65536) := (blk_cell BK275.out 1).trans rfl
        have hfs33 := blk_frozen BK275.out 1
        have hns33_0 := NB273_275.out
        have hns33_1 := NB274_275.out
        have hms33_0 := NB275_273.out
        have hms33_1 := NB275_274.out
        refine skip_ (w1 := ?_) (by rfl) rfl ?_ ?_
        rotate_left
        ·go_simp
         rfl
        refine hK.out _ _ ?_
        clear hK K
        refine done_ (done_of HT_.out (by kernel_rfl)) ?_
        go_wp2
        go_meet
        case rel => exact ⟨_, (ji24), (decide (((rd_T64 l0 x17_1).f0) ≤ x16_1)), (by exact H'), ⟨by have := HK1.out; have := HJ4.out; omega⟩, ⟨bx BK273.out⟩, ⟨bx BK274.out⟩, ⟨by refine blk_put (cs := #[.int .i64 x16_1, .int .i64 65536, .bool (decide (((rd_T64 l0 x17_1).f0) ≤ x16_1)), .bool false]) ?_ 1 _ rfl; exact BK275.out⟩, ⟨by repeat ((with_reducible first | exact HB.out | refine XR.b2_set ?_ GE275.out))⟩⟩
       ·(rw [c21b0])
        have H' := Aside0.mk H
        clear H
        go_wp2
        go_meet
        case rel => exact ⟨_, (65536), (false), H', ⟨by have := HK1.out; have := HJ4.out; omega⟩, ⟨bx BK273.out⟩, ⟨bx BK274.out⟩, ⟨bx BK275.out⟩, ⟨by repeat ((with_reducible exact HB.out))⟩⟩
      case rest =>
       clear HC13 hcz17_0 hcz17_1 hcz17_2 hcz17_3 hcz20_0 hfz17_0 hfz17_1 hfz17_2 hfz17_3 hfz20_0
       obtain ⟨kq, x276001_12, x276002_12, HA, HJ12, BK273, BK274, BK275, HB⟩ := hcut
       cases kq with
       | zero => exact absurd HA.out (by simp [span_parts_1.j2])
       | succ kj12 =>
        have H := HA.out
        clear HA
        simp only [span_parts_1.j2] at H
        have HC34 := Aside0.mk H
        clear H
        have hnb35 := NB274_273.out
        have hnc35 := NB273_274.out
        have hnb36 := NB274_275.out
        have hnc36 := NB275_274.out
        obtain ⟨hcz37_0, hfz37_0⟩ := b1 BK274
        go_upto_if 48 with (go_in)
        go_cut [] (fun wc => ∃ (kq : Nat) (x276001_33 : Int) (x276003_33 : Bool), Aside0 (span_parts_1.j3 kq x17_1 x18_1 l0 l1 x16_1 x276001_33 x276002_12 x276003_33 = some r) ∧ Aside0 (kq ≤ kj12) ∧ Aside0 (wc.heap[gb273]? = some (.cells #[(.slice A0 l0.length c0)] 22 (0, 0))) ∧ Aside0 (wc.heap[gb274]? = some (.cells #[(.slice A1 l1.length c1)] 22 (0, 0))) ∧ Aside0 (wc.heap[gb275]? = some (.cells #[.int .i64 x16_1, .int .i64 x276001_33, .bool x276002_12, .bool x276003_33] 98 (0, 0))) ∧ Aside0 (XR.B2 w wr wc))
        case first =>
         have H := HC34.out
         clear HC34
         replace H := ifd H
         rcases H with ⟨-, c38b0, H⟩ | ⟨-, c38b0, H⟩
         ·(rw [c38b0])
          replace H := ifn H
          obtain ⟨-, c39b0, H⟩ := H
          replace H := bd H
          obtain ⟨t281, A40, H⟩ := H
          obtain ⟨ji41, hji41⟩ : ∃ j_ : Int, (mn x276001_12 t281) = j_ := ⟨_, rfl⟩
          replace H : (span_parts_1.j3 kj12 x17_1 x18_1 l0 l1 x16_1 ji41 x276002_12 (decide (((rd_T64 l1 x18_1).f0) ≤ x16_1))) = some r := by (rw [hji41] at H; exact H)
          have hji41_ : (if t281 < x276001_12 then t281 else x276001_12) = ji41 := hji41
          have H' := Aside0.mk H
          clear H
          have hnb42 := NB274_273.out
          have hnc42 := NB273_274.out
          have hnb43 := NB274_275.out
          have hnc43 := NB275_274.out
          obtain ⟨hcz44_0, hfz44_0⟩ := b1 BK274
          have p279 : 0 ≤ (x18_1 : Int) := ad
          have q279 : x18_1 < (l1.length : Int) := ad
          obtain ⟨ad279, e279, hx279_0, hx279_1⟩ := at_T64 HR1.out x18_1 p279 q279
          cases e279
          replace hx279_0 := cb HB.out.cell hx279_0
          replace hx279_1 := cb HB.out.cell hx279_1
          replace p279 := eq_true p279
          replace q279 := eq_true q279
          have hnb45 := NB275_273.out
          have hnc45 := NB273_275.out
          obtain ⟨hcz46_0, hcz46_1, hcz46_2, hcz46_3, hfz46_0, hfz46_1, hfz46_2, hfz46_3⟩ := b4 BK275
          go_wp2
          have n0_ : Aside0 ((wc.setCell ⟨gb275, 3, none⟩ (.bool (decide (((rd_T64 l1 x18_1).f0) ≤ x16_1)))).heap[gb273]? = some (.cells #[.slice A0 l0.length c0] 22 (0, 0))) := ⟨bx BK273.out⟩
          have n1_ : Aside0 ((wc.setCell ⟨gb275, 3, none⟩ (.bool (decide (((rd_T64 l1 x18_1).f0) ≤ x16_1)))).heap[gb274]? = some (.cells #[.slice (some ad279) l1.length c1] 22 (0, 0))) := ⟨bx BK274.out⟩
          have n2_ : Aside0 ((wc.setCell ⟨gb275, 3, none⟩ (.bool (decide (((rd_T64 l1 x18_1).f0) ≤ x16_1)))).heap[gb275]? = some (.cells #[.int .i64 x16_1, .int .i64 x276001_12, .bool x276002_12, .bool (decide (((rd_T64 l1 x18_1).f0) ≤ x16_1))] 98 (0, 0))) := ⟨by refine blk_put (cs := #[.int .i64 x16_1, .int .i64 x276001_12, .bool x276002_12, .bool false]) ?_ 3 _ rfl; exact BK275.out⟩
          have n3_ : Aside0 (XR.B2 w wr (wc.setCell ⟨gb275, 3, none⟩ (.bool (decide (((rd_T64 l1 x18_1).f0) ≤ x16_1))))) := ⟨by repeat ((with_reducible first | exact HB.out | refine XR.b2_set ?_ GE275.out))⟩
          clear BK273 BK274 BK275 HB
          generalize (wc.setCell ⟨gb275, 3, none⟩ (.bool (decide (((rd_T64 l1 x18_1).f0) ≤ x16_1)))) = w47 at n0_ n1_ n2_ n3_ ⊢
          have BK273 := n0_
          have BK274 := n1_
          have BK275 := n2_
          have HB := n3_
          clear n0_ n1_ n2_ n3_
          replace BK273 := Aside0.mk (blk_drew BK273.out)
          replace BK274 := Aside0.mk (blk_drew BK274.out)
          replace BK275 := Aside0.mk (blk_drew BK275.out)
          replace HB := Aside0.mk (XR.b2_drew1 HB.out)
          have p280 : 0 ≤ (x18_1 : Int) := ad
          have q280 : x18_1 < (l1.length : Int) := ad
          obtain ⟨ad280, e280, hx280_0, hx280_1⟩ := at_T64 HR1.out x18_1 p280 q280
          have hw280_1 := hx280_1
          have hw280_0 := hx280_0
          obtain rfl : ad279 = ad280 := (by injection e280)
          replace hx280_0 := cb HB.out.cell hx280_0
          replace hx280_1 := cb HB.out.cell hx280_1
          replace p280 := eq_true p280
          replace q280 := eq_true q280
          refine start_ (n := 13) (S := fun w' => w'.cell? ⟨gb275, 0, none⟩ = some (.int .i64 x16_1) ∧ w'.cell? ⟨gb275, 1, none⟩ = some (.int .i64 x276001_12) ∧ w'.cell? ⟨gb275, 2, none⟩ = some (.bool x276002_12) ∧ w'.cell? ⟨gb275, 3, none⟩ = some (.bool (decide (((rd_T64 l1 x18_1).f0) ≤ x16_1))) ∧ w'.cell? ⟨gb274, 0, none⟩ = some (.slice (some ad279) l1.length c1) ∧ w'.cell? (ad279.add ((x18_1).toNat * 2)) = some (.int .i64 ((rd_T64 l1 x18_1).f0)) ∧ w'.cell? ⟨(ad279.add ((x18_1).toNat * 2)).block, (ad279.add ((x18_1).toNat * 2)).off + 1, none⟩ = some (.int .i64 ((rd_T64 l1 x18_1).f1))) (ds := [12]) #[false, false, false, false, false, false, false, false, false, false, false, false, false] (by kernel_rfl) rfl rfl ⟨(blk_cell BK275.out 0).trans rfl, (blk_cell BK275.out 1).trans rfl, (blk_cell BK275.out 2).trans rfl, (blk_cell BK275.out 3).trans rfl, (blk_cell BK274.out 0).trans rfl, ((HB.out.cell (World.block_lt_of_cell? w _ hw280_0)).trans hw280_0), ((HB.out.cell (World.block_lt_of_cell? w _ hw280_1)).trans hw280_1)⟩ (fun hHeld => ?_); refine with_tabW span_parts_1.tab8 span_parts_1.bits8 (fun HT_ HW_ => ?_)
          generalize w47.drew = w48 at BK273 BK274 BK275 HB hx280_0 hx280_1 hHeld ⊢
          refine puA HT_ 0 57 (bv 13 1) ?_
          refine puA HT_ 1 58 (bv 13 3) ?_
          refine puA HT_ 4 61 (bv 13 19) ?_
          refine puA HT_ 7 64 (bv 13 147) ?_
          refine taA HT_ HW_ hHeld 2 59 (bv 13 151) ?_
          refine taA HT_ HW_ hHeld 3 60 (bv 13 159) ?_
          refine puA HT_ 5 62 (bv 13 191) ?_
          refine taA HT_ HW_ hHeld 6 63 (bv 13 255) ?_
          refine one_ (i := 8) (N := some 65) #[true, true, true, true, true, true, true, true, true, false, false, false, false] rfl rfl (one_of HT_.out (by kernel_rfl)) (by decide) (fun K hK => ?_)
          refine goes_ Tryz.func128 (by kernel_rfl) rfl #[.agg #[.int .i64 ((rd_T64 l1 x18_1).f0), .int .i64 ((rd_T64 l1 x18_1).f1)], .int .i64 x16_1] (by rfl) rfl rfl (by (simp only [List.map_toArray, List.map_cons, List.map_nil]); rfl) ?_
          with_reducible refine (span_edge.calls ((rd_T64 l1 x18_1).f0) ((rd_T64 l1 x18_1).f1) x16_1 t281 _ A40.out).mono ?_
          rintro e w49 ⟨rfl, hb⟩
          refine ⟨_, rfl, ?_⟩
          replace BK273 := bba BK273 hb
          replace BK274 := bba BK274 hb
          replace BK275 := bba BK275 hb
          replace HB := Aside0.mk (XR.b2_step (by repeat ((with_reducible exact HB.out))) hb)
          clear hb
          refine hK.out _ _ ⟨(blk_cell BK275.out 0).trans rfl, (blk_cell BK275.out 1).trans rfl, (blk_cell BK275.out 2).trans rfl, (blk_cell BK275.out 3).trans rfl, (blk_cell BK274.out 0).trans rfl, ((HB.out.cell (World.block_lt_of_cell? w _ hw280_0)).trans hw280_0), ((HB.out.cell (World.block_lt_of_cell? w _ hw280_1)).trans hw280_1)⟩ (fun hHeld => ?_)
          clear hK K
          refine norm_ (a' := ?_) ?_ ?_
          rotate_left
          ·show Act.put _ (some 65) _ = _
           simp only [Act.put, List.setIfInBounds_toArray, List.set_cons_zero, List.set_cons_succ, i64_w, i32_w]
           rfl
          refine puA HT_ 9 66 (bv 13 1023) ?_
          refine puA HT_ 10 67 (bv 13 2047) ?_
          refine puA HT_ 11 68 (bv 13 4095) ?_
          refine last_ (i := 12) (N := none) #[true, true, true, true, true, true, true, true, true, true, true, true, true] rfl rfl (one_of HT_.out (by kernel_rfl)) (by decide) (fun K hK => ?_)
          have hs50 : w49.cell? ⟨gb275, 1, none⟩ = some (.int .i64 x276001_12) := (blk_cell BK275.out 1).trans rfl
          have hfs50 := blk_frozen BK275.out 1
          have hns50_0 := NB273_275.out
          have hns50_1 := NB274_275.out
          have hms50_0 := NB275_273.out
          have hms50_1 := NB275_274.out
          refine skip_ (w1 := ?_) (by rfl) rfl ?_ ?_
          rotate_left
          ·go_simp
           rfl
          refine hK.out _ _ ?_
          clear hK K
          refine done_ (done_of HT_.out (by kernel_rfl)) ?_
          go_wp2
          go_meet
          case rel => exact ⟨_, (ji41), (decide (((rd_T64 l1 x18_1).f0) ≤ x16_1)), (by exact H'), ⟨by have := HK1.out; have := HJ4.out; have := HJ12.out; omega⟩, ⟨bx BK273.out⟩, ⟨bx BK274.out⟩, ⟨by refine blk_put (cs := #[.int .i64 x16_1, .int .i64 x276001_12, .bool x276002_12, .bool (decide (((rd_T64 l1 x18_1).f0) ≤ x16_1))]) ?_ 1 _ rfl; exact BK275.out⟩, ⟨by repeat ((with_reducible first | exact HB.out | refine XR.b2_set ?_ GE275.out))⟩⟩
         ·(rw [c38b0])
          have H' := Aside0.mk H
          clear H
          go_wp2
          go_meet
          case rel => exact ⟨_, (x276001_12), (false), H', ⟨by have := HK1.out; have := HJ4.out; have := HJ12.out; omega⟩, ⟨bx BK273.out⟩, ⟨bx BK274.out⟩, ⟨bx BK275.out⟩, ⟨by repeat ((with_reducible exact HB.out))⟩⟩
        case rest =>
         clear HC34 hcz37_0 hfz37_0
         obtain ⟨kq, x276001_33, x276003_33, HA, HJ33, BK273, BK274, BK275, HB⟩ := hcut
         cases kq with
         | zero => exact absurd HA.out (by simp [span_parts_1.j3])
         | succ kj33 =>
          have H := HA.out
          clear HA
          simp only [span_parts_1.j3] at H
          replace H := Option.bind_eq_some_iff.mp H
          obtain ⟨r2_, H, hr2_⟩ := H
          replace hr2_ : (⟨(⟨x16_1, x276001_33⟩ : S64), x276002_12, x276003_33⟩ : S98) :: r2_ = r := Option.some.inj hr2_
          have HR2_ := Aside0.mk hr2_
          clear hr2_
          have HC52 := Aside0.mk H
          clear H
          have hnb53 := NB275_273.out
          have hnc53 := NB273_275.out
          have hnb54 := NB275_274.out
          have hnc54 := NB274_275.out
          obtain ⟨hcz55_0, hcz55_1, hcz55_2, hcz55_3, hfz55_0, hfz55_1, hfz55_2, hfz55_3⟩ := b4 BK275
          go_upto_region 9 with (go_in)
          refine (wpIn_wide (n := n_)).1 ?_
          obtain ⟨fn_, tm_, as_, bd_, hy_, hR_⟩ := hY_ pre_ (⟨(⟨x16_1, x276001_33⟩ : S64), x276002_12, x276003_33⟩ : S98) r2_ _ _ (by rw [HX_.out, ← HR2_.out]) (hJs_ _ _ _ _ HJ_.out (XR.B2.two (w := w) HB.out))
          (dsimp only at hy_)
          gi_wp2
          refine ⟨fun hd_ => (by cases hd_), hR_.mono ?_⟩
          rintro e_ w56 (⟨rfl, hJ3_, hsz_, hkp_⟩ | ⟨rfl, hx3_⟩)
          rotate_left
          ·gi_wp2
           go_wp2
           refine bodyPost_ret (results_none rfl _ _ _) rfl ?_
           exact ⟨⟨_, rfl⟩, .inr ⟨pre_ ++ [(⟨(⟨x16_1, x276001_33⟩ : S64), x276002_12, x276003_33⟩ : S98)], ⟨r2_, by rw [HX_.out, ← HR2_.out]; simp⟩, hx3_⟩⟩
          have lt275_ := blk_lt BK275.out
          have lt274_ := blk_lt BK274.out
          have lt273_ := blk_lt BK273.out
          replace BK273 := Aside0.mk ((hkp_ _ lt273_ (.inl (.inl rfl))).trans BK273.out)
          replace BK274 := Aside0.mk ((hkp_ _ lt274_ (.inl (.inr rfl))).trans BK274.out)
          replace BK275 := Aside0.mk ((hkp_ _ lt275_ (.inr (.inr ⟨GE275.out.2, lt275_⟩))).trans BK275.out)
          replace HB := Aside0.mk (XR.b2_refl (hJB_ _ _ _ hJ3_))
          obtain ⟨hcz57_0, hcz57_1, hcz57_2, hcz57_3, hfz57_0, hfz57_1, hfz57_2, hfz57_3⟩ := b4 BK275
          obtain ⟨G_, HJ_, HG275⟩ : ∃ G', Aside0 (J_ G' (pre_ ++ [(⟨(⟨x16_1, x276001_33⟩ : S64), x276002_12, x276003_33⟩ : S98)]) w56) ∧ Aside0 (G' gb275) := ⟨_, ⟨hJ3_⟩, ⟨.inr ⟨GE275.out.2, lt275_⟩⟩⟩
          have HX_ := Aside0.mk (show xs = (pre_ ++ [(⟨(⟨x16_1, x276001_33⟩ : S64), x276002_12, x276003_33⟩ : S98)]) ++ r2_ by rw [HX_.out, ← HR2_.out]; simp)
          clear hJ3_ hkp_
          gi_wp2
          go_upto_region 11 with (go_in)
          go_cut [88] (fun v100 wc => ∃ (kq : Nat) (x100_51 : Bool), v100 = .bool x100_51 ∧ Aside0 (span_parts_1.j4 kq x276001_33 x17_1 x18_1 x100_51 l0 l1 = some r2_) ∧ Aside0 (kq ≤ kj33) ∧ Aside0 (wc.heap[gb273]? = some (.cells #[(.slice A0 l0.length c0)] 22 (0, 0))) ∧ Aside0 (wc.heap[gb274]? = some (.cells #[(.slice A1 l1.length c1)] 22 (0, 0))) ∧ Aside0 (wc.heap[gb275]? = some (.cells #[.int .i64 x16_1, .int .i64 x276001_33, .bool x276002_12, .bool x276003_33] 98 (0, 0))) ∧ Aside0 (XR.B2 w w56 wc))
          case first =>
           have H := HC52.out
           clear HC52
           replace H := ifd H
           rcases H with ⟨-, c58b0, H⟩ | ⟨-, c58b0, H⟩
           ·(skip)
            replace H := ifn H
            obtain ⟨-, c59b0, H⟩ := H
            have H' := Aside0.mk H
            clear H
            have hnb60 := NB273_274.out
            have hnc60 := NB274_273.out
            have hnb61 := NB273_275.out
            have hnc61 := NB275_273.out
            obtain ⟨hcz62_0, hfz62_0⟩ := b1 BK273
            have p282 : 0 ≤ (x17_1 : Int) := ad
            have q282 : x17_1 < (l0.length : Int) := ad
            obtain ⟨ad282, e282, hx282_0, hx282_1⟩ := at_T64 HR0.out x17_1 p282 q282
            cases e282
            replace hx282_0 := cb HB.out.cell hx282_0
            replace hx282_1 := cb HB.out.cell hx282_1
            replace p282 := eq_true p282
            replace q282 := eq_true q282
            go_wp2
            go_meet
            case rel => exact ⟨_, (decide (((rd_T64 l0 x17_1).f1) ≤ x276001_33)), (by rfl), H', ⟨by have := HK1.out; have := HJ4.out; have := HJ12.out; have := HJ33.out; omega⟩, ⟨bx BK273.out⟩, ⟨bx BK274.out⟩, ⟨bx BK275.out⟩, ⟨by repeat ((with_reducible exact HB.out))⟩⟩
           ·(skip)
            have H' := Aside0.mk H
            clear H
            have hnb63 := NB273_274.out
            have hnc63 := NB274_273.out
            have hnb64 := NB273_275.out
            have hnc64 := NB275_273.out
            obtain ⟨hcz65_0, hfz65_0⟩ := b1 BK273
            go_wp2
            go_meet
            case rel => exact ⟨_, (false), (by rfl), H', ⟨by have := HK1.out; have := HJ4.out; have := HJ12.out; have := HJ33.out; omega⟩, ⟨bx BK273.out⟩, ⟨bx BK274.out⟩, ⟨bx BK275.out⟩, ⟨by repeat ((with_reducible exact HB.out))⟩⟩
          case rest =>
           clear HC52 hcz55_0 hcz55_1 hcz55_2 hcz55_3 hcz57_0 hcz57_1 hcz57_2 hcz57_3 hfz55_0 hfz55_1 hfz55_2 hfz55_3 hfz57_0 hfz57_1 hfz57_2 hfz57_3
           obtain ⟨kq, x100_51, rfl, HA, HJ51, BK273, BK274, BK275, HB⟩ := hcut
           cases kq with
           | zero => exact absurd HA.out (by simp [span_parts_1.j4])
           | succ kj51 =>
            have H := HA.out
            clear HA
            simp only [span_parts_1.j4] at H
            have HC66 := Aside0.mk H
            clear H
            go_upto_if 88 with (go_in)
            go_cut [5] (fun v17 wc => ∃ (kq : Nat) (x17_65 : Int), v17 = .int .i64 x17_65 ∧ Aside0 (span_parts_1.j5 kq x276001_33 x17_65 x18_1 l0 l1 = some r2_) ∧ Aside0 (kq ≤ kj51) ∧ Aside0 (wc.heap[gb273]? = some (.cells #[(.slice A0 l0.length c0)] 22 (0, 0))) ∧ Aside0 (wc.heap[gb274]? = some (.cells #[(.slice A1 l1.length c1)] 22 (0, 0))) ∧ Aside0 (wc.heap[gb275]? = some (.cells #[.int .i64 x16_1, .int .i64 x276001_33, .bool x276002_12, .bool x276003_33] 98 (0, 0))) ∧ Aside0 (XR.B2 w w56 wc))
            case first =>
             have H := HC66.out
             clear HC66
             replace H := ifb H
             rcases H with ⟨rfl, H⟩ | ⟨rfl, H⟩
             ·have H' := Aside0.mk H
              clear H
              go_wp2
              go_meet
              case rel => exact ⟨_, (wrap64 (x17_1 + 1)), (by rfl), H', ⟨by have := HK1.out; have := HJ4.out; have := HJ12.out; have := HJ33.out; have := HJ51.out; omega⟩, ⟨bx BK273.out⟩, ⟨bx BK274.out⟩, ⟨bx BK275.out⟩, ⟨by repeat ((with_reducible exact HB.out))⟩⟩
             ·have H' := Aside0.mk H
              clear H
              go_wp2
              go_meet
              case rel => exact ⟨_, (x17_1), (by rfl), H', ⟨by have := HK1.out; have := HJ4.out; have := HJ12.out; have := HJ33.out; have := HJ51.out; omega⟩, ⟨bx BK273.out⟩, ⟨bx BK274.out⟩, ⟨bx BK275.out⟩, ⟨by repeat ((with_reducible exact HB.out))⟩⟩
            case rest =>
             clear HC66
             obtain ⟨kq, x17_65, rfl, HA, HJ65, BK273, BK274, BK275, HB⟩ := hcut
             cases kq with
             | zero => exact absurd HA.out (by simp [span_parts_1.j5])
             | succ kj65 =>
              have H := HA.out
              clear HA
              simp only [span_parts_1.j5] at H
              have HC68 := Aside0.mk H
              clear H
              go_upto_region 13 with (go_in)
              go_cut [103] (fun v115 wc => ∃ (kq : Nat) (x115_67 : Bool), v115 = .bool x115_67 ∧ Aside0 (span_parts_1.j6 kq x276001_33 x17_65 x18_1 x115_67 l0 l1 = some r2_) ∧ Aside0 (kq ≤ kj65) ∧ Aside0 (wc.heap[gb273]? = some (.cells #[(.slice A0 l0.length c0)] 22 (0, 0))) ∧ Aside0 (wc.heap[gb274]? = some (.cells #[(.slice A1 l1.length c1)] 22 (0, 0))) ∧ Aside0 (wc.heap[gb275]? = some (.cells #[.int .i64 x16_1, .int .i64 x276001_33, .bool x276002_12, .bool x276003_33] 98 (0, 0))) ∧ Aside0 (XR.B2 w w56 wc))
              case first =>
               have H := HC68.out
               clear HC68
               replace H := ifd H
               rcases H with ⟨-, c69b0, H⟩ | ⟨-, c69b0, H⟩
               ·(skip)
                replace H := ifn H
                obtain ⟨-, c70b0, H⟩ := H
                have H' := Aside0.mk H
                clear H
                have hnb71 := NB274_273.out
                have hnc71 := NB273_274.out
                have hnb72 := NB274_275.out
                have hnc72 := NB275_274.out
                obtain ⟨hcz73_0, hfz73_0⟩ := b1 BK274
                have p283 : 0 ≤ (x18_1 : Int) := ad
                have q283 : x18_1 < (l1.length : Int) := ad
                obtain ⟨ad283, e283, hx283_0, hx283_1⟩ := at_T64 HR1.out x18_1 p283 q283
                cases e283
                replace hx283_0 := cb HB.out.cell hx283_0
                replace hx283_1 := cb HB.out.cell hx283_1
                replace p283 := eq_true p283
                replace q283 := eq_true q283
                go_wp2
                go_meet
                case rel => exact ⟨_, (decide (((rd_T64 l1 x18_1).f1) ≤ x276001_33)), (by rfl), H', ⟨by have := HK1.out; have := HJ4.out; have := HJ12.out; have := HJ33.out; have := HJ51.out; have := HJ65.out; omega⟩, ⟨bx BK273.out⟩, ⟨bx BK274.out⟩, ⟨bx BK275.out⟩, ⟨by repeat ((with_reducible exact HB.out))⟩⟩
               ·(skip)
                have H' := Aside0.mk H
                clear H
                have hnb74 := NB274_273.out
                have hnc74 := NB273_274.out
                have hnb75 := NB274_275.out
                have hnc75 := NB275_274.out
                obtain ⟨hcz76_0, hfz76_0⟩ := b1 BK274
                go_wp2
                go_meet
                case rel => exact ⟨_, (false), (by rfl), H', ⟨by have := HK1.out; have := HJ4.out; have := HJ12.out; have := HJ33.out; have := HJ51.out; have := HJ65.out; omega⟩, ⟨bx BK273.out⟩, ⟨bx BK274.out⟩, ⟨bx BK275.out⟩, ⟨by repeat ((with_reducible exact HB.out))⟩⟩
              case rest =>
               clear HC68
               obtain ⟨kq, x115_67, rfl, HA, HJ67, BK273, BK274, BK275, HB⟩ := hcut
               cases kq with
               | zero => exact absurd HA.out (by simp [span_parts_1.j6])
               | succ kj67 =>
                have H := HA.out
                clear HA
                simp only [span_parts_1.j6] at H
                replace H := ifb H
                rcases H with ⟨rfl, H⟩ | ⟨rfl, H⟩
                ·have H' := Aside0.mk H
                 clear H
                 go_wp2
                 go_roundg kj67
                 case measure => have := HK1.out; have := HJ4.out; have := HJ12.out; have := HJ33.out; have := HJ51.out; have := HJ65.out; have := HJ67.out; omega
                 case rel => exact ⟨XR.grow G_ w56 _, (pre_ ++ [(⟨(⟨x16_1, x276001_33⟩ : S64), x276002_12, x276003_33⟩ : S98)]), r2_, (x276001_33), (x17_65), (wrap64 (x18_1 + 1)), (by rfl), (by rfl), (by rfl), H', ⟨HX_.out⟩, ⟨hJs_ _ _ _ _ HJ_.out (XR.B2.two (w := w) (by repeat ((with_reducible exact HB.out))))⟩, ⟨by have := HK1.out; have := HJ4.out; have := HJ12.out; have := HJ33.out; have := HJ51.out; have := HJ65.out; have := HJ67.out; omega⟩, ⟨bx BK273.out⟩, ⟨bx BK274.out⟩, ⟨XR.B2.one (w1 := w56) (by repeat ((with_reducible exact HB.out)))⟩⟩
                ·have H' := Aside0.mk H
                 clear H
                 go_wp2
                 go_roundg kj67
                 case measure => have := HK1.out; have := HJ4.out; have := HJ12.out; have := HJ33.out; have := HJ51.out; have := HJ65.out; have := HJ67.out; omega
                 case rel => exact ⟨XR.grow G_ w56 _, (pre_ ++ [(⟨(⟨x16_1, x276001_33⟩ : S64), x276002_12, x276003_33⟩ : S98)]), r2_, (x276001_33), (x17_65), (x18_1), (by rfl), (by rfl), (by rfl), H', ⟨HX_.out⟩, ⟨hJs_ _ _ _ _ HJ_.out (XR.B2.two (w := w) (by repeat ((with_reducible exact HB.out))))⟩, ⟨by have := HK1.out; have := HJ4.out; have := HJ12.out; have := HJ33.out; have := HJ51.out; have := HJ65.out; have := HJ67.out; omega⟩, ⟨bx BK273.out⟩, ⟨bx BK274.out⟩, ⟨XR.B2.one (w1 := w56) (by repeat ((with_reducible exact HB.out)))⟩⟩
     ·obtain rfl : [] = r := Option.some.inj H
      go_wp2
      go_end0
      exact ⟨⟨_, rfl⟩, .inl ⟨_, by have hx_ := HX_.out; rw [List.append_nil] at hx_; rw [hx_]; exact hJs_ _ _ _ _ HJ_.out (XR.B2.two (w := w) (by repeat ((with_reducible exact HB.out))))⟩⟩

end Go.Proofs.YtjgmdjieandemaaGreat.Print
end
