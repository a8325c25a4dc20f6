-- Written by the session's own xprint (over the kit's print program): functions, contracts.
import Derived.Test.YtgielanobeclnaaPrint0
import Derived.Test.YtgielanobeclnaaPrint3
import Derived.Test.YtgielanobeclnaaPrint5
import Derived.Test.YtgielanobeclnaaPrint6
namespace Go.Proofs.Ytgielanobeclnaa.Print
open Go.RowKit Go.Proofs.YtgielanobeclnaaW.PrintWords Go.Proofs.YtgielanobeclnaaW.PrintLast Go.Proofs.YtgielanobeclnaaW.PrintMore
attribute [local go_sem] max2_int min2_int max_two min_two max_three min_three max_four min_four   -- for this text's walks alone
set_option linter.unusedVariables false
set_option linter.unusedSimpArgs false

/-! ### words_Or: function 16 -/
def words_Or.f (k : Nat) (l0 : List Int) (l1 : List Int) : Option (List Int × Int) := (words_both_fn40.f k l0 l1).bind fun bt233 => (some (bt233.1, bt233.2))
theorem words_Or.mono : ∀ a0 a1 k, LeO (words_Or.f k a0 a1) (words_Or.f (k + 1) a0 a1) := by
 intro a0 a1 k
 unfold words_Or.f
 repeat' first
   | (with_reducible exact words_both_fn40.mono _ _ _)
   | (with_reducible exact LeO.refl _)
   | (with_reducible exact LeO.none _)
   | (with_reducible refine LeO.ite ?_ ?_)
   | (with_reducible refine LeO.bind ?_ (fun _ => ?_))
   | exact words_both_fn40.mono _ _ _
   | exact LeO.none _
   | refine LeO.ite ?_ ?_
   | refine LeO.bind ?_ (fun _ => ?_)
set_option maxHeartbeats 8000000 in
set_option maxRecDepth 100000 in
theorem words_Or.calls (k : Nat) (A0 : Option Addr) (c0 : Nat) (l0 : List Int) (A1 : Option Addr) (c1 : Nat) (l1 : List Int) (r1 : List Int) (r2 : Int) (w : World) (hr0 : Kd.C (Kd.int .i64) w A0 l0.length l0) (hc0 : l0.length ≤ c0) (hr1 : Kd.C (Kd.int .i64) w A1 l1.length l1) (hc1 : l1.length ≤ c1) (h : words_Or.f k l0 l1 = some (r1, r2)) :
  Calls Try.prog 16 #[.slice A0 l0.length c0, .slice A1 l1.length c1] w fun e w' => ∃ v0_ : Value, e = .returned (.tuple #[v0_, .int .i64 r2]) ∧ Kd.V (Kd.int .i64) 3 w' w.heap.size (fun k_ => (w.heap.size ≤ k_)) v0_ r1 ∧ Below w.heap.size w w' := by
 have HR0 := Aside0.mk hr0
 have HC0 := Aside0.mk hc0
 clear hr0 hc0
 have HR1 := Aside0.mk hr1
 have HC1 := Aside0.mk hc1
 clear hr1 hc1
 have HB := Aside0.mk (Below.refl w.heap.size w)
 have H : ((words_both_fn40.f k l0 l1).bind fun bt233 => (some (bt233.1, bt233.2))) = some (r1, r2) := h
 clear h
 replace H := Option.bind_eq_some_iff.mp H
 obtain ⟨⟨t233, t236⟩, A30, H⟩ := H
 replace H : (some (t233, t236)) = some (r1, r2) := H
 have A3 := Aside0.mk A30
 clear A30
 simp only [Option.some.injEq, Prod.mk.injEq] at H
 obtain ⟨rfl, rfl⟩ := H
 go_enter Try.func16, Try.ntmps16
 go_wp2_with (first | ((with_reducible refine gate_callee (f := 38) rfl ?_); refine goesL_ (some 8) rfl rfl Try.func38 (by kernel_rfl) rfl #[.slice A0 l0.length c0, .slice A1 l1.length c1, .func (.func 40) #[] #[]] rfl (by (try simp only [List.map_toArray, List.map_cons, List.map_nil]); first | done | rfl) ?_; (with_reducible refine (words_both_fn40.calls k _ _ l0 _ _ l1  t233 t236 _ ?side1 ?side2 ?side3 ?side4 A3.out).mono ?_); (case side1 => repeat (first | exact HR0.out | (with_reducible refine Kd.C_alloc ?_ _) | (with_reducible refine Kd.C_drewN ?_ _) | (with_reducible refine Kd.C_drew ?_))); (case side2 => exact HC0.out); (case side3 => repeat (first | exact HR1.out | (with_reducible refine Kd.C_alloc ?_ _) | (with_reducible refine Kd.C_drewN ?_ _) | (with_reducible refine Kd.C_drew ?_))); (case side4 => exact HC1.out); rintro e w4 ⟨v234, rfl, ho0, hb⟩; refine ⟨_, rfl, ?_⟩; have n0_ := Aside0.mk (Kd.V_lower (Kd.V_mono (ok' := fun k_ => (w.heap.size ≤ k_)) ho0 (fun k_ hk_ => (Nat.le_trans (below_size (by repeat (first | exact HB.out | apply below_alloc | apply pw_below_drewN | apply below_drew1))) hk_))) (below_size (by repeat (first | exact HB.out | apply below_alloc | apply pw_below_drewN | apply below_drew1)))); have n1_ := Aside0.mk (below_step (by repeat (first | exact HB.out | apply below_alloc | apply pw_below_drewN | apply below_drew1)) hb); clear HB; have HO235 := n0_; have HB := n1_; clear n0_ n1_; (try clear hb); (try clear ho0)))
 go_ret2
 exact ⟨_, by first | rfl | (simp [errW_none, errW_some] <;> rfl) | (simp [*, errW_none, errW_some] <;> rfl), by (with_reducible repeat (first | apply Kd.V_alloc | apply Kd.V_drewN | apply Kd.V_drew)); exact HO235.out, by repeat (first | (with_reducible first | exact HB.out | apply below_alloc | apply pw_below_drewN | apply below_drew1) | exact HB.out)⟩

-- NOT PRINTED: function 43 (words_Spans_1)

/-! ### words_Spans: function 21 -/
mutual
def words_Spans.l0 : Nat → List Int → Int → Int → List (S48) → Option ((List (S48)) × Int)
 | 0, _, _, _, _ => none
 | k + 1, x19, x20, x21, x239000 => if x21 < x20 then (if 0 ≤ x21 then (if x21 < (x19.length : Int) then ((bits_Next.f k (rd x19 x21) 0).bind fun t240 => (words_Spans.l1 k x21 (rd x19 x21) t240 x19 x20 x21 x239000)) else (none)) else (none)) else (some (x239000, 0))
def words_Spans.l1 : Nat → Int → Int → Int → List Int → Int → Int → List (S48) → Option ((List (S48)) × Int)
 | 0, _, _, _, _, _, _, _ => none
 | k + 1, x16, x17, x18, x19, x20, x21, x239000 => if x18 ≥ 0 then (if (wrap64 ((x239000.length : Int) - 1)) ≥ 0 then (if 0 ≤ (wrap64 ((x239000.length : Int) - 1)) then (if (wrap64 ((x239000.length : Int) - 1)) < (x239000.length : Int) then (words_Spans.j2 k x16 x17 x18 x19 x20 x21 (wrap64 ((wrap64 (64 * x16)) + x18)) (wrap64 ((x239000.length : Int) - 1)) (((rd_T48 x239000 (wrap64 ((x239000.length : Int) - 1))).f1) == (wrap64 ((wrap64 (64 * x16)) + x18))) x239000) else (none)) else (none)) else (words_Spans.j2 k x16 x17 x18 x19 x20 x21 (wrap64 ((wrap64 (64 * x16)) + x18)) (wrap64 ((x239000.length : Int) - 1)) false x239000)) else (words_Spans.l0 k x19 x20 (wrap64 (x21 + 1)) x239000)
def words_Spans.j2 : Nat → Int → Int → Int → List Int → Int → Int → Int → Int → Bool → List (S48) → Option ((List (S48)) × Int)
 | 0, _, _, _, _, _, _, _, _, _, _ => none
 | k + 1, x16, x17, x18, x19, x20, x21, x42, x46, x60, x239000 => if x60 = true then (if 0 ≤ x46 then (if x46 < (x239000.length : Int) then ((bits_Next.f k x17 (wrap64 (x18 + 1))).bind fun t244 => (words_Spans.l1 k x16 x17 t244 x19 x20 x21 (x239000.set (x46 : Int).toNat (⟨(rd_T48 x239000 x46).f0, wrap64 (((rd_T48 x239000 x46).f1) + 1)⟩ : S48)))) else (none)) else (none)) else (if x239000.length < 8796093022208 then ((bits_Next.f k x17 (wrap64 (x18 + 1))).bind fun t248 => (words_Spans.l1 k x16 x17 t248 x19 x20 x21 (x239000 ++ [(⟨x42, wrap64 (x42 + 1)⟩ : S48)]))) else (none))
end
def words_Spans.f (k : Nat) (l0 : List Int) : Option ((List (S48)) × Int) := (words_May.f l0).bind fun t237 => (if t237 = true then (words_Spans.l0 k l0 (l0.length : Int) 0 ([] : List (S48))) else (some (([] : List (S48)), 1)))
theorem words_Spans.l0_succ (k : Nat) (x19 : List Int) (x20 : Int) (x21 : Int) (x239000 : List (S48)) : words_Spans.l0 (k + 1) x19 x20 x21 x239000 = (if x21 < x20 then (if 0 ≤ x21 then (if x21 < (x19.length : Int) then ((bits_Next.f k (rd x19 x21) 0).bind fun t240 => (words_Spans.l1 k x21 (rd x19 x21) t240 x19 x20 x21 x239000)) else (none)) else (none)) else (some (x239000, 0))) := by
 simp only [words_Spans.l0]
theorem words_Spans.l1_succ (k : Nat) (x16 : Int) (x17 : Int) (x18 : Int) (x19 : List Int) (x20 : Int) (x21 : Int) (x239000 : List (S48)) : words_Spans.l1 (k + 1) x16 x17 x18 x19 x20 x21 x239000 = (if x18 ≥ 0 then (if (wrap64 ((x239000.length : Int) - 1)) ≥ 0 then (if 0 ≤ (wrap64 ((x239000.length : Int) - 1)) then (if (wrap64 ((x239000.length : Int) - 1)) < (x239000.length : Int) then (words_Spans.j2 k x16 x17 x18 x19 x20 x21 (wrap64 ((wrap64 (64 * x16)) + x18)) (wrap64 ((x239000.length : Int) - 1)) (((rd_T48 x239000 (wrap64 ((x239000.length : Int) - 1))).f1) == (wrap64 ((wrap64 (64 * x16)) + x18))) x239000) else (none)) else (none)) else (words_Spans.j2 k x16 x17 x18 x19 x20 x21 (wrap64 ((wrap64 (64 * x16)) + x18)) (wrap64 ((x239000.length : Int) - 1)) false x239000)) else (words_Spans.l0 k x19 x20 (wrap64 (x21 + 1)) x239000)) := by
 simp only [words_Spans.l1]
theorem words_Spans.j2_succ (k : Nat) (x16 : Int) (x17 : Int) (x18 : Int) (x19 : List Int) (x20 : Int) (x21 : Int) (x42 : Int) (x46 : Int) (x60 : Bool) (x239000 : List (S48)) : words_Spans.j2 (k + 1) x16 x17 x18 x19 x20 x21 x42 x46 x60 x239000 = (if x60 = true then (if 0 ≤ x46 then (if x46 < (x239000.length : Int) then ((bits_Next.f k x17 (wrap64 (x18 + 1))).bind fun t244 => (words_Spans.l1 k x16 x17 t244 x19 x20 x21 (x239000.set (x46 : Int).toNat (⟨(rd_T48 x239000 x46).f0, wrap64 (((rd_T48 x239000 x46).f1) + 1)⟩ : S48)))) else (none)) else (none)) else (if x239000.length < 8796093022208 then ((bits_Next.f k x17 (wrap64 (x18 + 1))).bind fun t248 => (words_Spans.l1 k x16 x17 t248 x19 x20 x21 (x239000 ++ [(⟨x42, wrap64 (x42 + 1)⟩ : S48)]))) else (none))) := by
 simp only [words_Spans.j2]
theorem words_Spans.mono_l : ∀ k, (∀ y0 y1 y2 y3, LeO (words_Spans.l0 k y0 y1 y2 y3) (words_Spans.l0 (k + 1) y0 y1 y2 y3)) ∧ (∀ y0 y1 y2 y3 y4 y5 y6, LeO (words_Spans.l1 k y0 y1 y2 y3 y4 y5 y6) (words_Spans.l1 (k + 1) y0 y1 y2 y3 y4 y5 y6)) ∧ (∀ y0 y1 y2 y3 y4 y5 y6 y7 y8 y9, LeO (words_Spans.j2 k y0 y1 y2 y3 y4 y5 y6 y7 y8 y9) (words_Spans.j2 (k + 1) y0 y1 y2 y3 y4 y5 y6 y7 y8 y9))
 | 0 => ⟨fun _ _ _ _ r h => by simp [words_Spans.l0] at h, fun _ _ _ _ _ _ _ r h => by simp [words_Spans.l1] at h, fun _ _ _ _ _ _ _ _ _ _ r h => by simp [words_Spans.j2] at h⟩
 | k + 1 => by
  obtain ⟨ih0, ih1, ih2⟩ := words_Spans.mono_l k
  refine ⟨?_, ?_, ?_⟩
  ·intro y0 y1 y2 y3
   unfold words_Spans.l0
   repeat' first
   | (with_reducible exact ih0 _ _ _ _)
   | (with_reducible exact ih1 _ _ _ _ _ _ _)
   | (with_reducible exact ih2 _ _ _ _ _ _ _ _ _ _)
   | (with_reducible exact bits_Next.mono _ _ _)
   | (with_reducible exact LeO.refl _)
   | (with_reducible exact LeO.none _)
   | (with_reducible refine LeO.ite ?_ ?_)
   | (with_reducible refine LeO.bind ?_ (fun _ => ?_))
   | exact ih0 _ _ _ _
   | exact ih1 _ _ _ _ _ _ _
   | exact ih2 _ _ _ _ _ _ _ _ _ _
   | exact bits_Next.mono _ _ _
   | exact LeO.none _
   | refine LeO.ite ?_ ?_
   | refine LeO.bind ?_ (fun _ => ?_)
  ·intro y0 y1 y2 y3 y4 y5 y6
   unfold words_Spans.l1
   repeat' first
   | (with_reducible exact ih0 _ _ _ _)
   | (with_reducible exact ih1 _ _ _ _ _ _ _)
   | (with_reducible exact ih2 _ _ _ _ _ _ _ _ _ _)
   | (with_reducible exact bits_Next.mono _ _ _)
   | (with_reducible exact LeO.refl _)
   | (with_reducible exact LeO.none _)
   | (with_reducible refine LeO.ite ?_ ?_)
   | (with_reducible refine LeO.bind ?_ (fun _ => ?_))
   | exact ih0 _ _ _ _
   | exact ih1 _ _ _ _ _ _ _
   | exact ih2 _ _ _ _ _ _ _ _ _ _
   | exact bits_Next.mono _ _ _
   | exact LeO.none _
   | refine LeO.ite ?_ ?_
   | refine LeO.bind ?_ (fun _ => ?_)
  ·intro y0 y1 y2 y3 y4 y5 y6 y7 y8 y9
   unfold words_Spans.j2
   repeat' first
   | (with_reducible exact ih0 _ _ _ _)
   | (with_reducible exact ih1 _ _ _ _ _ _ _)
   | (with_reducible exact ih2 _ _ _ _ _ _ _ _ _ _)
   | (with_reducible exact bits_Next.mono _ _ _)
   | (with_reducible exact LeO.refl _)
   | (with_reducible exact LeO.none _)
   | (with_reducible refine LeO.ite ?_ ?_)
   | (with_reducible refine LeO.bind ?_ (fun _ => ?_))
   | exact ih0 _ _ _ _
   | exact ih1 _ _ _ _ _ _ _
   | exact ih2 _ _ _ _ _ _ _ _ _ _
   | exact bits_Next.mono _ _ _
   | exact LeO.none _
   | refine LeO.ite ?_ ?_
   | refine LeO.bind ?_ (fun _ => ?_)
theorem words_Spans.mono : ∀ a0 k, LeO (words_Spans.f k a0) (words_Spans.f (k + 1) a0) := by
 intro a0 k
 obtain ⟨ih0, ih1, ih2⟩ := words_Spans.mono_l k
 unfold words_Spans.f
 repeat' first
   | (with_reducible exact ih0 _ _ _ _)
   | (with_reducible exact ih1 _ _ _ _ _ _ _)
   | (with_reducible exact ih2 _ _ _ _ _ _ _ _ _ _)
   | (with_reducible exact bits_Next.mono _ _ _)
   | (with_reducible exact LeO.refl _)
   | (with_reducible exact LeO.none _)
   | (with_reducible refine LeO.ite ?_ ?_)
   | (with_reducible refine LeO.bind ?_ (fun _ => ?_))
   | exact ih0 _ _ _ _
   | exact ih1 _ _ _ _ _ _ _
   | exact ih2 _ _ _ _ _ _ _ _ _ _
   | exact bits_Next.mono _ _ _
   | exact LeO.none _
   | refine LeO.ite ?_ ?_
   | refine LeO.bind ?_ (fun _ => ?_)
set_option maxHeartbeats 8000000 in
set_option maxRecDepth 100000 in
theorem words_Spans.calls (k : Nat) (A0 : Option Addr) (c0 : Nat) (l0 : List Int) (r1 : List (S48)) (r2 : Int) (w : World) (hr0 : Kd.C (Kd.int .i64) w A0 l0.length l0) (hc0 : l0.length ≤ c0) (h : words_Spans.f k l0 = some (r1, r2)) :
  Calls Try.prog 21 #[.slice A0 l0.length c0] w fun e w' => ∃ v0_ : Value, e = .returned (.tuple #[v0_, .int .i64 r2]) ∧ Kd.R k48 48 w' w.heap.size (fun _ => True) v0_ r1 ∧ Below w.heap.size w w' := by
 have hmf : ∀ (fn : Fn) (first cap : Array Value) (w : World), (Instr.makeFunc fn first cap).run Try.prog w = .ok (.func fn first cap) w := fun _ _ _ _ => rfl
 have hu48 := Try.underlying48
 have HR0 := Aside0.mk hr0
 have HC0 := Aside0.mk hc0
 clear hr0 hc0
 have HB := Aside0.mk (Below.refl w.heap.size w)
 have H : ((words_May.f l0).bind fun t237 => (if t237 = true then (words_Spans.l0 k l0 (l0.length : Int) 0 ([] : List (S48))) else (some (([] : List (S48)), 1)))) = some (r1, r2) := h
 clear h
 replace H := Option.bind_eq_some_iff.mp H
 obtain ⟨t237, A20, H⟩ := H
 replace H : (if t237 = true then (words_Spans.l0 k l0 (l0.length : Int) 0 ([] : List (S48))) else (some (([] : List (S48)), 1))) = some (r1, r2) := H
 have A2 := Aside0.mk A20
 clear A20
 by_cases c3 : t237 = true
 ·subst c3
  have H1 : (words_Spans.l0 k l0 (l0.length : Int) 0 ([] : List (S48))) = some (r1, r2) := by rw [if_pos rfl] at H; exact H
  clear H
  have H := H1
  clear H1
  have H' := Aside0.mk H
  clear H
  go_enter Try.func21, Try.ntmps21
  go_wp2_with (first | ((with_reducible refine gate_callee (f := 19) rfl ?_); refine goesL_ (some 6) rfl rfl Try.func19 (by kernel_rfl) rfl #[.slice A0 l0.length c0] rfl (by (try simp only [List.map_toArray, List.map_cons, List.map_nil]); first | done | rfl) ?_; (with_reducible refine (words_May.calls _ _ l0 true _ ?side1 ?side2 A2.out).mono ?_); (case side1 => repeat (first | exact HR0.out | (with_reducible refine Kd.C_alloc ?_ _) | (with_reducible refine Kd.C_drewN ?_ _) | (with_reducible refine Kd.C_drew ?_))); (case side2 => exact HC0.out); rintro e w' ⟨rfl, ⟨nd, rfl⟩⟩; refine ⟨_, rfl, ?_⟩) | ((with_reducible refine gate_dst (N := 4) rfl ?_); refine box_event ?hg (N := 4) ?hd (cs := #[.slice none 0 0]) (t := 22) ?hr ?_; (case hd => rfl); (case hg => rfl); (case hr => first | (go_simp; done) | (go_simp; rfl)); intro gb238 hg w4 hbox hb; have n0_ := Aside0.mk (below_step (by repeat (first | exact HB.out | apply below_alloc | apply pw_below_drewN | apply below_drew1)) hb); have n1_ := Aside0.mk (hbox); have n2_ := Aside0.mk ((by rw [hg]; exact (below_size (by repeat (first | exact HB.out | apply below_alloc | apply pw_below_drewN | apply below_drew1))) : w.heap.size ≤ gb238)); have n3_ := Aside0.mk ((by rw [hg]; exact (below_size (by repeat (first | exact HB.out | apply below_alloc | apply pw_below_drewN | apply below_drew1))) : w.heap.size ≤ gb238)); clear HB; have HB := n0_; have BK238 := n1_; have GW238 := n2_; have GE238 := n3_; clear n0_ n1_ n2_ n3_; clear hb hbox hg) | go_in)
  repeat ((first | go_end0 | ((try simp only [Exit.inBlock, Exit.then]); refine bodyPost_ret (results_none rfl _ _ _) rfl ?_)); try go_wp2_with (first | ((with_reducible refine gate_callee (f := 19) rfl ?_); refine goesL_ (some 6) rfl rfl Try.func19 (by kernel_rfl) rfl #[.slice A0 l0.length c0] rfl (by (try simp only [List.map_toArray, List.map_cons, List.map_nil]); first | done | rfl) ?_; (with_reducible refine (words_May.calls _ _ l0 true _ ?side1 ?side2 A2.out).mono ?_); (case side1 => repeat (first | exact HR0.out | (with_reducible refine Kd.C_alloc ?_ _) | (with_reducible refine Kd.C_drewN ?_ _) | (with_reducible refine Kd.C_drew ?_))); (case side2 => exact HC0.out); rintro e w' ⟨rfl, ⟨nd, rfl⟩⟩; refine ⟨_, rfl, ?_⟩) | ((with_reducible refine gate_dst (N := 4) rfl ?_); refine box_event ?hg (N := 4) ?hd (cs := #[.slice none 0 0]) (t := 22) ?hr ?_; (case hd => rfl); (case hg => rfl); (case hr => first | (go_simp; done) | (go_simp; rfl)); intro gb238 hg w4 hbox hb; have n0_ := Aside0.mk (below_step (by repeat (first | exact HB.out | apply below_alloc | apply pw_below_drewN | apply below_drew1)) hb); have n1_ := Aside0.mk (hbox); have n2_ := Aside0.mk ((by rw [hg]; exact (below_size (by repeat (first | exact HB.out | apply below_alloc | apply pw_below_drewN | apply below_drew1))) : w.heap.size ≤ gb238)); have n3_ := Aside0.mk ((by rw [hg]; exact (below_size (by repeat (first | exact HB.out | apply below_alloc | apply pw_below_drewN | apply below_drew1))) : w.heap.size ≤ gb238)); clear HB; have HB := n0_; have BK238 := n1_; have GW238 := n2_; have GE238 := n3_; clear n0_ n1_ n2_ n3_; clear hb hbox hg) | go_in))
  go_loopg [9] k (fun kq v21 w' => ∃ (x21_1 : Int) (x239000_1 : List (S48)) (u239000 : Value), v21 = .int .i64 x21_1 ∧ Aside0 (words_Spans.l0 kq l0 (l0.length : Int) x21_1 x239000_1 = some (r1, r2)) ∧ Aside0 (kq ≤ k) ∧ Aside0 (Kd.R k48 48 w' w.heap.size (fun _ => True) u239000 x239000_1) ∧ Aside0 (w'.heap[gb238]? = some (.cells #[u239000] 22 (0, 0))) ∧ Aside0 (Below w.heap.size w w'))
  case atStart => exact ⟨(0), (([] : List (S48))), (.slice none 0 0), (by first | rfl | (simp; done) | (simp [*]; done)), H', ⟨Nat.le_refl _⟩, ⟨by first | exact Kd.R_nil _ _ _ _ _ | exact Kd.N_nil _ _ _ _ _ | exact Kd.V_nil _ _ _ _ _ | exact Kd.Q_nil _ _ _ _ _ | exact Kd.S_nil _ _ _ _ _⟩, ⟨by (with_reducible repeat (first | refine blk_drewN ?_ _ | refine blk_drew ?_ | refine blk_alloc ?_ _)); exact BK238.out⟩, ⟨by repeat (first | (with_reducible first | exact HB.out | apply below_alloc | apply pw_below_drewN | apply below_drew1 | refine below_set ?_ GE238.out) | exact HB.out)⟩⟩
  case round =>
   clear H'
   try clear c1
   try clear c2
   try clear p2
   try clear c3
   obtain ⟨x21_1, x239000_1, u239000, rfl, HA, HK1, HO_239000, BK238, HB⟩ := hrel
   cases gk with
   | zero => exact absurd HA.out (by simp [words_Spans.l0])
   | succ k1 =>
    have H := HA.out
    clear HA
    simp only [words_Spans.l0] at H
    by_cases c5 : x21_1 < (l0.length : Int)
    ·rw [if_pos c5] at H
     have c5b0 : decide (x21_1 < (l0.length : Int)) = true := decide_eq_true c5
     clear c5
     by_cases c6 : 0 ≤ x21_1
     ·rw [if_pos c6] at H
      have c6b0 : decide (0 ≤ x21_1) = true := decide_eq_true c6
      clear c6
      by_cases c7 : x21_1 < (l0.length : Int)
      ·rw [if_pos c7] at H
       have c7b0 : decide (x21_1 < (l0.length : Int)) = true := decide_eq_true c7
       clear c7
       replace H := Option.bind_eq_some_iff.mp H
       obtain ⟨t240, A80, H⟩ := H
       replace H : (words_Spans.l1 k1 x21_1 (rd l0 x21_1) t240 l0 (l0.length : Int) x21_1 x239000_1) = some (r1, r2) := H
       have A8 := Aside0.mk A80
       clear A80
       have H' := Aside0.mk H
       clear H
       have p239 : 0 ≤ (x21_1 : Int) := of_decide_eq_true (by assumption)
       have q239 : x21_1 < (l0.length : Int) := of_decide_eq_true (by assumption)
       obtain ⟨ad239, e239, hx239_0⟩ := Kd.at_int HR0.out x21_1 p239 q239
       cases e239
       replace hx239_0 := (HB.out.cell (World.block_lt_of_cell? w _ hx239_0)).trans hx239_0
       replace p239 := eq_true p239
       replace q239 := eq_true q239
       go_wp2_with (first | ((with_reducible refine gate_callee (f := 51) rfl ?_); refine goesL_ (some 15) rfl rfl Try.func51 (by kernel_rfl) rfl #[.int .i64 (rd l0 x21_1), .int .i64 0] rfl (by (try simp only [List.map_toArray, List.map_cons, List.map_nil]); first | done | rfl) ?_; (with_reducible refine (bits_Next.calls k1 (rd l0 x21_1) 0 t240 _ A8.out).mono ?_); rintro e w9 ⟨rfl, hb⟩; refine ⟨_, rfl, ?_⟩; have n0_ := Aside0.mk (Kd.R_below (by (with_reducible repeat (first | apply Kd.R_alloc | apply Kd.R_drewN | apply Kd.R_drew)); exact HO_239000.out) hb); have n1_ := Aside0.mk (blk_below (g := gb238) (o := .cells #[u239000] 22 (0, 0)) (by (with_reducible repeat (first | refine blk_drewN ?_ _ | refine blk_drew ?_ | refine blk_alloc ?_ _)); exact BK238.out) hb); have n2_ := Aside0.mk (below_step (by repeat (first | (with_reducible first | exact HB.out | apply below_alloc | apply pw_below_drewN | apply below_drew1 | refine below_set ?_ GE238.out) | exact HB.out)) hb); clear HO_239000; clear BK238; clear HB; have HO_239000 := n0_; have BK238 := n1_; have HB := n2_; clear n0_ n1_ n2_; (try clear hb)) | go_in)
       repeat ((first | go_end0 | ((try simp only [Exit.inBlock, Exit.then]); refine bodyPost_ret (results_none rfl _ _ _) rfl ?_)); try go_wp2_with (first | ((with_reducible refine gate_callee (f := 51) rfl ?_); refine goesL_ (some 15) rfl rfl Try.func51 (by kernel_rfl) rfl #[.int .i64 (rd l0 x21_1), .int .i64 0] rfl (by (try simp only [List.map_toArray, List.map_cons, List.map_nil]); first | done | rfl) ?_; (with_reducible refine (bits_Next.calls k1 (rd l0 x21_1) 0 t240 _ A8.out).mono ?_); rintro e w9 ⟨rfl, hb⟩; refine ⟨_, rfl, ?_⟩; have n0_ := Aside0.mk (Kd.R_below (by (with_reducible repeat (first | apply Kd.R_alloc | apply Kd.R_drewN | apply Kd.R_drew)); exact HO_239000.out) hb); have n1_ := Aside0.mk (blk_below (g := gb238) (o := .cells #[u239000] 22 (0, 0)) (by (with_reducible repeat (first | refine blk_drewN ?_ _ | refine blk_drew ?_ | refine blk_alloc ?_ _)); exact BK238.out) hb); have n2_ := Aside0.mk (below_step (by repeat (first | (with_reducible first | exact HB.out | apply below_alloc | apply pw_below_drewN | apply below_drew1 | refine below_set ?_ GE238.out) | exact HB.out)) hb); clear HO_239000; clear BK238; clear HB; have HO_239000 := n0_; have BK238 := n1_; have HB := n2_; clear n0_ n1_ n2_; (try clear hb)) | go_in))
       go_loopg [6] k1 (fun kq v18 w' => ∃ (x18_2 : Int) (x239000_2 : List (S48)) (u239000 : Value), v18 = .int .i64 x18_2 ∧ Aside0 (words_Spans.l1 kq x21_1 (rd l0 x21_1) x18_2 l0 (l0.length : Int) x21_1 x239000_2 = some (r1, r2)) ∧ Aside0 (kq ≤ k1) ∧ Aside0 (Kd.R k48 48 w' w.heap.size (fun _ => True) u239000 x239000_2) ∧ Aside0 (w'.heap[gb238]? = some (.cells #[u239000] 22 (0, 0))) ∧ Aside0 (Below w.heap.size w w'))
       case atStart => exact ⟨(t240), (x239000_1), (u239000), (by first | rfl | (simp; done) | (simp [*]; done)), H', ⟨Nat.le_refl _⟩, ⟨by (with_reducible repeat (first | apply Kd.R_alloc | apply Kd.R_drewN | apply Kd.R_drew)); exact HO_239000.out⟩, ⟨by (with_reducible repeat (first | refine blk_drewN ?_ _ | refine blk_drew ?_ | refine blk_alloc ?_ _)); exact BK238.out⟩, ⟨by repeat (first | (with_reducible first | exact HB.out | apply below_alloc | apply pw_below_drewN | apply below_drew1 | refine below_set ?_ GE238.out) | exact HB.out)⟩⟩
       case round =>
        clear H'
        try clear c1
        try clear c2
        try clear p2
        try clear q2
        try clear hx2
        try clear c3
        try clear c5
        try clear c5b0
        try clear c6
        try clear c6b0
        try clear c7
        try clear c7b0
        try clear hx239_0
        try clear p2
        try clear p239
        try clear q239
        obtain ⟨x18_2, x239000_2, u239000, rfl, HA, HK2, HO_239000, BK238, HB⟩ := hrel
        cases gk with
        | zero => exact absurd HA.out (by simp [words_Spans.l1])
        | succ k2 =>
         have H := HA.out
         clear HA
         simp only [words_Spans.l1] at H
         by_cases c10 : x18_2 ≥ 0
         ·rw [if_pos c10] at H
          have c10b0 : decide (0 ≤ x18_2) = true := decide_eq_true c10
          clear c10
          have HC11 := Aside0.mk H
          clear H
          have hcz12_0 : wr.cell? ⟨gb238, 0, none⟩ = some (u239000) := (blk_cell BK238.out 0).trans rfl
          have hfz12_0 := blk_frozen BK238.out 0
          obtain ⟨Ao13, co13, eo13⟩ := Kd.R_slice HO_239000.out
          subst eo13
          go_upto_region 2 with (go_in)
          go_cut [18] (fun v60 wc => ∃ (kq : Nat) (x60_10 : Bool), v60 = .bool x60_10 ∧ Aside0 (words_Spans.j2 kq x21_1 (rd l0 x21_1) x18_2 l0 (l0.length : Int) x21_1 (wrap64 ((wrap64 (64 * x21_1)) + x18_2)) (wrap64 ((x239000_2.length : Int) - 1)) x60_10 x239000_2 = some (r1, r2)) ∧ Aside0 (kq ≤ k2) ∧ Aside0 (Kd.R k48 48 wc w.heap.size (fun _ => True) (.slice Ao13 x239000_2.length co13) x239000_2) ∧ Aside0 (wc.heap[gb238]? = some (.cells #[(.slice Ao13 x239000_2.length co13)] 22 (0, 0))) ∧ Aside0 (Below w.heap.size w wc))
          case first =>
           have H := HC11.out
           clear HC11
           by_cases c14 : (wrap64 ((x239000_2.length : Int) - 1)) ≥ 0
           ·rw [if_pos c14] at H
            have c14b0 : decide (0 ≤ (wrap64 ((x239000_2.length : Int) - 1))) = true := decide_eq_true c14
            clear c14
            (first | rw [c14b0] | (simp only [i64_w, i32_w]; rw [c14b0]) | skip)
            obtain ⟨ji15, hji15⟩ : ∃ j_ : Int, (wrap64 ((x239000_2.length : Int) - 1)) = j_ := ⟨_, rfl⟩
            replace H : (if 0 ≤ (ji15) then (if (ji15) < (x239000_2.length : Int) then (words_Spans.j2 k2 x21_1 (rd l0 x21_1) x18_2 l0 (l0.length : Int) x21_1 (wrap64 ((wrap64 (64 * x21_1)) + x18_2)) ji15 (((rd_T48 x239000_2 (ji15)).f1) == (wrap64 ((wrap64 (64 * x21_1)) + x18_2))) x239000_2) else (none)) else (none)) = some (r1, r2) := by first | (rw [hji15] at H; exact H) | (simp only [hji15] at H ⊢; exact H)
            (try rw [hji15] at c14b0)
            have hji15w : (IntKind.i64.wrap ((x239000_2.length : Int) - 1)) = ji15 := (i64_w _).trans hji15
            by_cases c16 : 0 ≤ (ji15)
            ·rw [if_pos c16] at H
             have c16b0 : decide (0 ≤ (ji15)) = true := decide_eq_true c16
             clear c16
             by_cases c17 : (ji15) < (x239000_2.length : Int)
             ·rw [if_pos c17] at H
              have c17b0 : decide ((ji15) < (x239000_2.length : Int)) = true := decide_eq_true c17
              clear c17
              have H' := Aside0.mk H
              clear H
              have hcz18_0 : wr.cell? ⟨gb238, 0, none⟩ = some (.slice Ao13 x239000_2.length co13) := (blk_cell BK238.out 0).trans rfl
              have hfz18_0 := blk_frozen BK238.out 0
              have p241 : 0 ≤ ((ji15) : Int) := of_decide_eq_true (by assumption)
              have q241 : (ji15) < (x239000_2.length : Int) := of_decide_eq_true (by assumption)
              obtain ⟨ad241, e241, hx241_0, hx241_1⟩ := at_T48 (Kd.R_reads' HO_239000.out).2.2 (ji15) p241 q241
              cases e241
              replace p241 := eq_true p241
              replace q241 := eq_true q241
              go_wp2
              repeat ((first | go_end0 | ((try simp only [Exit.inBlock, Exit.then]); refine bodyPost_ret (results_none rfl _ _ _) rfl ?_)); go_wp2)
              go_meet
              case rel => exact ⟨_, ((((rd_T48 x239000_2 (ji15)).f1) == (wrap64 ((wrap64 (64 * x21_1)) + x18_2)))), (by first | rfl | (simp; done) | (simp only [← hji15] <;> (first | rfl | simp)) | (simp [*]; done)), (by first | exact H' | (simp only [hji15]; exact H')), ⟨by have := HK1.out; have := HK2.out; first | omega | exact Nat.le_refl _⟩, ⟨by (with_reducible repeat (first | apply Kd.R_alloc | apply Kd.R_drewN | apply Kd.R_drew)); exact HO_239000.out⟩, ⟨by (with_reducible repeat (first | refine blk_drewN ?_ _ | refine blk_drew ?_ | refine blk_alloc ?_ _)); exact BK238.out⟩, ⟨by repeat (first | (with_reducible first | exact HB.out | apply below_alloc | apply pw_below_drewN | apply below_drew1 | refine below_set ?_ GE238.out) | exact HB.out)⟩⟩
             ·rw [if_neg c17] at H
              exact absurd H (by simp)
            ·rw [if_neg c16] at H
             exact absurd H (by simp)
           ·rw [if_neg c14] at H
            have c14b0 : decide (0 ≤ (wrap64 ((x239000_2.length : Int) - 1))) = false := decide_eq_false c14
            clear c14
            (first | rw [c14b0] | (simp only [i64_w, i32_w]; rw [c14b0]) | skip)
            have H' := Aside0.mk H
            clear H
            go_wp2
            repeat ((first | go_end0 | ((try simp only [Exit.inBlock, Exit.then]); refine bodyPost_ret (results_none rfl _ _ _) rfl ?_)); go_wp2)
            go_meet
            case rel => exact ⟨_, (false), (by first | rfl | (simp; done) | (simp [*]; done)), H', ⟨by have := HK1.out; have := HK2.out; first | omega | exact Nat.le_refl _⟩, ⟨by (with_reducible repeat (first | apply Kd.R_alloc | apply Kd.R_drewN | apply Kd.R_drew)); exact HO_239000.out⟩, ⟨by (with_reducible repeat (first | refine blk_drewN ?_ _ | refine blk_drew ?_ | refine blk_alloc ?_ _)); exact BK238.out⟩, ⟨by repeat (first | (with_reducible first | exact HB.out | apply below_alloc | apply pw_below_drewN | apply below_drew1 | refine below_set ?_ GE238.out) | exact HB.out)⟩⟩
          case rest =>
           clear HC11
           try clear c1
           try clear c2
           try clear p2
           try clear q2
           try clear hx2
           try clear c3
           try clear c5
           try clear c5b0
           try clear c6
           try clear c6b0
           try clear p6
           try clear c7
           try clear c7b0
           try clear c10
           try clear c10b0
           try clear c14
           try clear c14b0
           try clear c16
           try clear c16b0
           try clear c17
           try clear c17b0
           try clear hcz12_0
           try clear hcz18_0
           try clear hfz12_0
           try clear hfz18_0
           try clear hx239_0
           try clear hx241_0
           try clear hx241_1
           try clear p2
           try clear p239
           try clear p241
           try clear q2
           try clear q239
           try clear q241
           obtain ⟨kq, x60_10, rfl, HA, HJ10, HO_239000, BK238, HB⟩ := hcut
           cases kq with
           | zero => exact absurd HA.out (by simp [words_Spans.j2])
           | succ kj10 =>
            have H := HA.out
            clear HA
            simp only [words_Spans.j2] at H
            by_cases c19 : x60_10 = true
            ·subst c19
             have H1 : (if 0 ≤ (wrap64 ((x239000_2.length : Int) - 1)) then (if (wrap64 ((x239000_2.length : Int) - 1)) < (x239000_2.length : Int) then ((bits_Next.f kj10 (rd l0 x21_1) (wrap64 (x18_2 + 1))).bind fun t244 => (words_Spans.l1 kj10 x21_1 (rd l0 x21_1) t244 l0 (l0.length : Int) x21_1 (x239000_2.set ((wrap64 ((x239000_2.length : Int) - 1)) : Int).toNat (⟨(rd_T48 x239000_2 (wrap64 ((x239000_2.length : Int) - 1))).f0, wrap64 (((rd_T48 x239000_2 (wrap64 ((x239000_2.length : Int) - 1))).f1) + 1)⟩ : S48)))) else (none)) else (none)) = some (r1, r2) := by rw [if_pos rfl] at H; exact H
             clear H
             have H := H1
             clear H1
             obtain ⟨ji20, hji20⟩ : ∃ j_ : Int, (wrap64 ((x239000_2.length : Int) - 1)) = j_ := ⟨_, rfl⟩
             replace H : (if 0 ≤ (ji20) then (if (ji20) < (x239000_2.length : Int) then ((bits_Next.f kj10 (rd l0 x21_1) (wrap64 (x18_2 + 1))).bind fun t244 => (words_Spans.l1 kj10 x21_1 (rd l0 x21_1) t244 l0 (l0.length : Int) x21_1 (x239000_2.set ((ji20) : Int).toNat (⟨(rd_T48 x239000_2 (ji20)).f0, wrap64 (((rd_T48 x239000_2 (ji20)).f1) + 1)⟩ : S48)))) else (none)) else (none)) = some (r1, r2) := by first | (rw [hji20] at H; exact H) | (simp only [hji20] at H ⊢; exact H)
             have hji20w : (IntKind.i64.wrap ((x239000_2.length : Int) - 1)) = ji20 := (i64_w _).trans hji20
             by_cases c21 : 0 ≤ (ji20)
             ·rw [if_pos c21] at H
              have c21b0 : decide (0 ≤ (ji20)) = true := decide_eq_true c21
              clear c21
              by_cases c22 : (ji20) < (x239000_2.length : Int)
              ·rw [if_pos c22] at H
               have c22b0 : decide ((ji20) < (x239000_2.length : Int)) = true := decide_eq_true c22
               clear c22
               obtain ⟨y243, hy243⟩ : ∃ y_ : List (S48), y_ = (x239000_2.set ((ji20) : Int).toNat (⟨(rd_T48 x239000_2 (ji20)).f0, wrap64 (((rd_T48 x239000_2 (ji20)).f1) + 1)⟩ : S48)) := ⟨_, rfl⟩
               replace H : ((bits_Next.f kj10 (rd l0 x21_1) (wrap64 (x18_2 + 1))).bind fun t244 => (words_Spans.l1 kj10 x21_1 (rd l0 x21_1) t244 l0 (l0.length : Int) x21_1 y243)) = some (r1, r2) := by first | (rw [hy243]; with_reducible exact H) | (have H2_ := (Option.bind_some _ _).symm.trans H; rw [hy243]; with_reducible exact H2_) | (have H2_ := (Option.bind_some _ _).symm.trans H; with_reducible exact H2_) | with_reducible exact H | (rw [hy243]; exact H) | exact H
               have Ny243 := Aside0.mk hy243
               clear hy243
               replace H := Option.bind_eq_some_iff.mp H
               obtain ⟨t244, A240, H⟩ := H
               replace H : (words_Spans.l1 kj10 x21_1 (rd l0 x21_1) t244 l0 (l0.length : Int) x21_1 y243) = some (r1, r2) := H
               have A24 := Aside0.mk A240
               clear A240
               have H' := Aside0.mk H
               clear H
               have hcz25_0 : wc.cell? ⟨gb238, 0, none⟩ = some (.slice Ao13 x239000_2.length co13) := (blk_cell BK238.out 0).trans rfl
               have hfz25_0 := blk_frozen BK238.out 0
               have p242 : 0 ≤ ((ji20) : Int) := of_decide_eq_true (by assumption)
               have q242 : (ji20) < (x239000_2.length : Int) := of_decide_eq_true (by assumption)
               obtain ⟨ad242, e242, hx242_0, hx242_1⟩ := at_T48 (Kd.R_reads' HO_239000.out).2.2 (ji20) p242 q242
               cases e242
               replace p242 := eq_true p242
               replace q242 := eq_true q242
               have p23 : 0 ≤ ((ji20) : Int) := of_decide_eq_true (by assumption)
               have q23 : ((ji20) : Int) < ((x239000_2.length : Int) : Int) := of_decide_eq_true (by assumption)
               obtain ⟨go23, co23, eo23, gb23, gl23, cl23, HG23⟩ := Kd.R_form HO_239000.out (by omega)
               (first | cases eo23 | (injection eo23 with ea_ en_ ec_; (first | subst ea_ | (injection ea_ with ea_; subst ea_)); subst ec_; clear en_))
               have GB23 := Aside0.mk gb23
               have GG23 := Aside0.mk HG23
               clear gb23 gl23 HG23
               (first | simp only [add_plain] at hx242_0 | skip)
               (first | simp only [add_plain] at hx242_1 | skip)
               obtain ⟨ce23, hcl23, hM23, hcc23, hfr23⟩ := Kd.R_elem HO_239000.out z48 ((ji20) : Int) p23 q23
               obtain rfl := k48_openM hM23
               have hx23_0 : wc.cell? ⟨go23, ((ji20) : Int).toNat * 2, none⟩ = some (.int .i64 ((rd_T48 x239000_2 (ji20)).f0)) := hcc23 0 _ rfl
               have hx23_1 : wc.cell? ⟨go23, ((ji20) : Int).toNat * 2 + 1, none⟩ = some (.int .i64 ((rd_T48 x239000_2 (ji20)).f1)) := hcc23 1 _ rfl
               have hf23_0 : wc.frozen? ⟨go23, ((ji20) : Int).toNat * 2, none⟩ = false := hfr23 0
               have hf23_1 : wc.frozen? ⟨go23, ((ji20) : Int).toNat * 2 + 1, none⟩ = false := hfr23 1
               clear hcl23 hcc23 hfr23 hM23
               replace p23 := eq_true p23
               replace q23 := eq_true q23
               have HX26 := Aside0.mk (show Kd.R k48 48 wc w.heap.size (fun _ => True) (.slice (some ⟨go23, 0, none⟩) x239000_2.length co13) x239000_2 from (by (with_reducible repeat (first | apply Kd.R_alloc | apply Kd.R_drewN | apply Kd.R_drew)); exact HO_239000.out))
               obtain ⟨ce26, hcl26, hM26, hcc26, hfr26⟩ := Kd.R_elem HX26.out z48 ((ji20) : Int) (of_decide_eq_true (by assumption)) (by have h_ : ((ji20) : Int) < ((x239000_2.length : Int) : Int) := of_decide_eq_true (by assumption); first | exact h_ | (have e_ := (Kd.R_reads' HO_239000.out).1; omega) | simpa using h_)
               obtain rfl := k48_openM hM26
               have HP26 := Kd.R_seg HX26.out ((ji20) : Int) (of_decide_eq_true (by assumption)) (by have h_ : ((ji20) : Int) < ((x239000_2.length : Int) : Int) := of_decide_eq_true (by assumption); first | exact h_ | (have e_ := (Kd.R_reads' HO_239000.out).1; omega) | simpa using h_) (seg := [.int .i64 (wrap64 (((rd_T48 x239000_2 (ji20)).f1) + 1))]) (j := 1) hcl26 hcc26 (show 2 ≤ 2 from by decide) (x' := (⟨(rd_T48 x239000_2 (ji20)).f0, wrap64 (((rd_T48 x239000_2 (ji20)).f1) + 1)⟩ : S48)) (k48_mkM _ _ _ (⟨(rd_T48 x239000_2 (ji20)).f0, wrap64 (((rd_T48 x239000_2 (ji20)).f1) + 1)⟩ : S48) ) (fun _ hk => hk)
               have hx26_1 := hcc26 1 _ rfl
               (try simp only [show (k48).sz = 2 from rfl, Nat.mul_one, Nat.add_zero] at hx26_1)
               have hf26_1 := hfr26 1
               (try simp only [show (k48).sz = 2 from rfl, Nat.mul_one, Nat.add_zero] at hf26_1)
               clear hcl26 hcc26 hfr26 hM26
               go_wp2_with (first | ((with_reducible refine gate_store (t := 3) (p := 26) rfl ?_); refine store_event (t := 3) (p := 26) (v := ?vo_w27) (w1 := (wc.setCell ⟨go23, ((ji20) : Int).toNat * 2 + 1, none⟩ (.int .i64 (wrap64 (((rd_T48 x239000_2 (ji20)).f1) + 1))))) ?hg ?ho ?hn ?hr ?_; (case ho => rfl); (case hg => rfl); (case hn => rfl); (case hr => first | (go_simp; done) | (go_simp; rfl)); intro w27 hw; have hg : wc.grownBy w27 (some go23) := (by rw [hw]; exact HP26.2); have hp_ : Kd.R k48 48 w27 w.heap.size (fun _ => True) (.slice (some ⟨go23, 0, none⟩) x239000_2.length co13) y243 := (by rw [hw, Ny243.out]; exact HP26.1); clear HP26; have n0_ := Aside0.mk (hp_); have n1_ := Aside0.mk (blk_grown (g := gb238) (o := .cells #[.slice (some ⟨go23, 0, none⟩) x239000_2.length co13] 22 (0, 0)) (by (with_reducible repeat (first | refine blk_drewN ?_ _ | refine blk_drew ?_ | refine blk_alloc ?_ _)); exact BK238.out) hg (Kd.R_ne HO_239000.out BK238.out (by decide))); have n2_ := Aside0.mk ((by rw [hw]; exact below_set (HB.out) GB23.out : Below w.heap.size w w27)); clear HO_239000; clear BK238; clear HB; have HO_239000 := n0_; have BK238 := n1_; have HB := n2_; clear n0_ n1_ n2_; clear hg hw hp_) | ((with_reducible refine gate_callee (f := 51) rfl ?_); refine goesL_ (some 21) rfl rfl Try.func51 (by kernel_rfl) rfl #[.int .i64 (rd l0 x21_1), .int .i64 (wrap64 (x18_2 + 1))] rfl (by (try simp only [List.map_toArray, List.map_cons, List.map_nil]); first | done | rfl) ?_; (with_reducible refine (bits_Next.calls kj10 (rd l0 x21_1) (wrap64 (x18_2 + 1)) t244 _ A24.out).mono ?_); rintro e w28 ⟨rfl, hb⟩; refine ⟨_, rfl, ?_⟩; have n0_ := Aside0.mk (Kd.R_below (by (with_reducible repeat (first | apply Kd.R_alloc | apply Kd.R_drewN | apply Kd.R_drew)); exact HO_239000.out) hb); have n1_ := Aside0.mk (blk_below (g := gb238) (o := .cells #[.slice (some ⟨go23, 0, none⟩) x239000_2.length co13] 22 (0, 0)) (by (with_reducible repeat (first | refine blk_drewN ?_ _ | refine blk_drew ?_ | refine blk_alloc ?_ _)); exact BK238.out) hb); have n2_ := Aside0.mk (below_step (by repeat (first | (with_reducible first | exact HB.out | apply below_alloc | apply pw_below_drewN | apply below_drew1 | refine below_set ?_ GE238.out) | exact HB.out)) hb); clear HO_239000; clear BK238; clear HB; have HO_239000 := n0_; have BK238 := n1_; have HB := n2_; clear n0_ n1_ n2_; (try clear hb)) | go_in)
               repeat ((first | go_end0 | ((try simp only [Exit.inBlock, Exit.then]); refine bodyPost_ret (results_none rfl _ _ _) rfl ?_)); try go_wp2_with (first | ((with_reducible refine gate_store (t := 3) (p := 26) rfl ?_); refine store_event (t := 3) (p := 26) (v := ?vo_w27) (w1 := (wc.setCell ⟨go23, ((ji20) : Int).toNat * 2 + 1, none⟩ (.int .i64 (wrap64 (((rd_T48 x239000_2 (ji20)).f1) + 1))))) ?hg ?ho ?hn ?hr ?_; (case ho => rfl); (case hg => rfl); (case hn => rfl); (case hr => first | (go_simp; done) | (go_simp; rfl)); intro w27 hw; have hg : wc.grownBy w27 (some go23) := (by rw [hw]; exact HP26.2); have hp_ : Kd.R k48 48 w27 w.heap.size (fun _ => True) (.slice (some ⟨go23, 0, none⟩) x239000_2.length co13) y243 := (by rw [hw, Ny243.out]; exact HP26.1); clear HP26; have n0_ := Aside0.mk (hp_); have n1_ := Aside0.mk (blk_grown (g := gb238) (o := .cells #[.slice (some ⟨go23, 0, none⟩) x239000_2.length co13] 22 (0, 0)) (by (with_reducible repeat (first | refine blk_drewN ?_ _ | refine blk_drew ?_ | refine blk_alloc ?_ _)); exact BK238.out) hg (Kd.R_ne HO_239000.out BK238.out (by decide))); have n2_ := Aside0.mk ((by rw [hw]; exact below_set (HB.out) GB23.out : Below w.heap.size w w27)); clear HO_239000; clear BK238; clear HB; have HO_239000 := n0_; have BK238 := n1_; have HB := n2_; clear n0_ n1_ n2_; clear hg hw hp_) | ((with_reducible refine gate_callee (f := 51) rfl ?_); refine goesL_ (some 21) rfl rfl Try.func51 (by kernel_rfl) rfl #[.int .i64 (rd l0 x21_1), .int .i64 (wrap64 (x18_2 + 1))] rfl (by (try simp only [List.map_toArray, List.map_cons, List.map_nil]); first | done | rfl) ?_; (with_reducible refine (bits_Next.calls kj10 (rd l0 x21_1) (wrap64 (x18_2 + 1)) t244 _ A24.out).mono ?_); rintro e w28 ⟨rfl, hb⟩; refine ⟨_, rfl, ?_⟩; have n0_ := Aside0.mk (Kd.R_below (by (with_reducible repeat (first | apply Kd.R_alloc | apply Kd.R_drewN | apply Kd.R_drew)); exact HO_239000.out) hb); have n1_ := Aside0.mk (blk_below (g := gb238) (o := .cells #[.slice (some ⟨go23, 0, none⟩) x239000_2.length co13] 22 (0, 0)) (by (with_reducible repeat (first | refine blk_drewN ?_ _ | refine blk_drew ?_ | refine blk_alloc ?_ _)); exact BK238.out) hb); have n2_ := Aside0.mk (below_step (by repeat (first | (with_reducible first | exact HB.out | apply below_alloc | apply pw_below_drewN | apply below_drew1 | refine below_set ?_ GE238.out) | exact HB.out)) hb); clear HO_239000; clear BK238; clear HB; have HO_239000 := n0_; have BK238 := n1_; have HB := n2_; clear n0_ n1_ n2_; (try clear hb)) | go_in))
               go_roundg kj10
               case measure => have := HK1.out; have := HK2.out; have := HJ10.out; omega
               case rel => exact ⟨(t244), (y243), (.slice (some ⟨go23, 0, none⟩) x239000_2.length co13), (by first | rfl | (simp; done) | (simp [*]; done)), (by first | exact H' | (simp only [hji20]; exact H')), ⟨by have := HK1.out; have := HK2.out; have := HJ10.out; omega⟩, ⟨by (with_reducible repeat (first | apply Kd.R_alloc | apply Kd.R_drewN | apply Kd.R_drew)); exact HO_239000.out⟩, ⟨by (with_reducible repeat (first | refine blk_drewN ?_ _ | refine blk_drew ?_ | refine blk_alloc ?_ _)); exact BK238.out⟩, ⟨by repeat (first | (with_reducible first | exact HB.out | apply below_alloc | apply pw_below_drewN | apply below_drew1 | refine below_set ?_ GE238.out) | exact HB.out)⟩⟩
              ·rw [if_neg c22] at H
               exact absurd H (by simp)
             ·rw [if_neg c21] at H
              exact absurd H (by simp)
            ·replace c19 := Bool.eq_false_iff.mpr c19
             subst c19
             have H1 : (if x239000_2.length < 8796093022208 then ((bits_Next.f kj10 (rd l0 x21_1) (wrap64 (x18_2 + 1))).bind fun t248 => (words_Spans.l1 kj10 x21_1 (rd l0 x21_1) t248 l0 (l0.length : Int) x21_1 (x239000_2 ++ [(⟨(wrap64 ((wrap64 (64 * x21_1)) + x18_2)), wrap64 ((wrap64 ((wrap64 (64 * x21_1)) + x18_2)) + 1)⟩ : S48)]))) else (none)) = some (r1, r2) := by rw [if_neg (show ¬ (false = true) by decide)] at H; exact H
             clear H
             have H := H1
             clear H1
             by_cases c29 : x239000_2.length < 8796093022208
             ·rw [if_pos c29] at H
              have LMc29 := Aside0.mk c29
              clear c29
              obtain ⟨y245, hy245⟩ : ∃ y_ : List (S48), y_ = (x239000_2 ++ [(⟨(wrap64 ((wrap64 (64 * x21_1)) + x18_2)), wrap64 ((wrap64 ((wrap64 (64 * x21_1)) + x18_2)) + 1)⟩ : S48)]) := ⟨_, rfl⟩
              replace H : ((bits_Next.f kj10 (rd l0 x21_1) (wrap64 (x18_2 + 1))).bind fun t248 => (words_Spans.l1 kj10 x21_1 (rd l0 x21_1) t248 l0 (l0.length : Int) x21_1 y245)) = some (r1, r2) := by first | (rw [hy245]; with_reducible exact H) | (have H2_ := (Option.bind_some _ _).symm.trans H; rw [hy245]; with_reducible exact H2_) | (have H2_ := (Option.bind_some _ _).symm.trans H; with_reducible exact H2_) | with_reducible exact H | (rw [hy245]; exact H) | exact H
              have Ny245 := Aside0.mk hy245
              clear hy245
              replace H := Option.bind_eq_some_iff.mp H
              obtain ⟨t248, A300, H⟩ := H
              replace H : (words_Spans.l1 kj10 x21_1 (rd l0 x21_1) t248 l0 (l0.length : Int) x21_1 y245) = some (r1, r2) := H
              have A30 := Aside0.mk A300
              clear A300
              have H' := Aside0.mk H
              clear H
              have hcz31_0 : wc.cell? ⟨gb238, 0, none⟩ = some (.slice Ao13 x239000_2.length co13) := (blk_cell BK238.out 0).trans rfl
              have hfz31_0 := blk_frozen BK238.out 0
              go_wp2_with (first | ((with_reducible refine gate_builtin (b := .append) (xs := #[.tmp 27, .tmp 32]) rfl ?_); at_builtin; refine Kd.R_append k48 (w0 := w) w.heap.size rfl (.tmp 27) (.tmp 32) 22 48 (.agg #[(.int .i64 0), (.int .i64 0)]) 16 rfl Try.underlying22 info48 rfl (by decide) (by omega) (.slice Ao13 x239000_2.length co13) x239000_2 (⟨(wrap64 ((wrap64 (64 * x21_1)) + x18_2)), wrap64 ((wrap64 ((wrap64 (64 * x21_1)) + x18_2)) + 1)⟩ : S48) [.int .i64 (wrap64 ((wrap64 (64 * x21_1)) + x18_2)), .int .i64 (wrap64 ((wrap64 ((wrap64 (64 * x21_1)) + x18_2)) + 1))] (fun _ => True) (fun _ => False) rfl rfl ?aP (fun _ hk => hk.elim) ?aF ?aO ?aB ?aS ?aL ?_; (case aP => exact k48_mkM _ _ _ (⟨(wrap64 ((wrap64 (64 * x21_1)) + x18_2)), wrap64 ((wrap64 ((wrap64 (64 * x21_1)) + x18_2)) + 1)⟩ : S48)); (case aB => exact (by repeat (first | (with_reducible first | exact HB.out | apply below_alloc | apply pw_below_drewN | apply below_drew1 | refine below_set ?_ GE238.out) | exact HB.out))); (case aF => exact (fun _ _ => trivial)); (case aO => exact (by (with_reducible repeat (first | apply Kd.R_alloc | apply Kd.R_drewN | apply Kd.R_drew)); exact HO_239000.out)); (case aS => exact (below_size (by repeat (first | (with_reducible first | exact HB.out | apply below_alloc | apply pw_below_drewN | apply below_drew1 | refine below_set ?_ GE238.out) | exact HB.out)))); (case aL => have := LMc29.out; omega); intro v246 w32 ho hb hg hat; rw [← Ny245.out] at ho; have n0_ := Aside0.mk (blk_grown (g := gb238) (o := .cells #[.slice Ao13 x239000_2.length co13] 22 (0, 0)) (by (with_reducible repeat (first | refine blk_drewN ?_ _ | refine blk_drew ?_ | refine blk_alloc ?_ _)); exact BK238.out) hg (Kd.R_ne HO_239000.out BK238.out (by decide))); have n1_ := Aside0.mk (hb); have n2_ := Aside0.mk (ho); clear BK238; clear HB; clear HO_239000; have BK238 := n0_; have HB := n1_; have HO247 := n2_; clear n0_ n1_ n2_; clear ho hb hg hat; obtain ⟨Ao33, co33, eo33⟩ := Kd.R_slice HO247.out; subst eo33; have hcz34_0 : w32.cell? ⟨gb238, 0, none⟩ = some (.slice Ao13 x239000_2.length co13) := (blk_cell BK238.out 0).trans rfl; have hfz34_0 := blk_frozen BK238.out 0) | ((with_reducible refine gate_callee (f := 51) rfl ?_); refine goesL_ (some 21) rfl rfl Try.func51 (by kernel_rfl) rfl #[.int .i64 (rd l0 x21_1), .int .i64 (wrap64 (x18_2 + 1))] rfl (by (try simp only [List.map_toArray, List.map_cons, List.map_nil]); first | done | rfl) ?_; (with_reducible refine (bits_Next.calls kj10 (rd l0 x21_1) (wrap64 (x18_2 + 1)) t248 _ A30.out).mono ?_); rintro e w35 ⟨rfl, hb⟩; refine ⟨_, rfl, ?_⟩; have n0_ := Aside0.mk (Kd.R_below (by (with_reducible repeat (first | apply Kd.R_alloc | apply Kd.R_drewN | apply Kd.R_drew)); exact (Kd.R_mono (Kd.R_far (p := ⟨gb238, 0, none⟩) (Kd.R_types HO247.out BK238.out (by decide)) (fun _ hk => hk.2) (.slice Ao33 y245.length co33)) (fun _ h_ => h_.1))) hb); have n1_ := Aside0.mk (blk_below (g := gb238) (o := .cells #[.slice Ao33 y245.length co33] 22 (0, 0)) (by (with_reducible repeat (first | refine blk_drewN ?_ _ | refine blk_drew ?_ | refine blk_alloc ?_ _)); refine blk_put (cs := #[.slice Ao13 x239000_2.length co13]) ?_ 0 _ rfl; (with_reducible repeat (first | refine blk_drewN ?_ _ | refine blk_drew ?_ | refine blk_alloc ?_ _)); exact BK238.out) hb); have n2_ := Aside0.mk (below_step (by repeat (first | (with_reducible first | exact HB.out | apply below_alloc | apply pw_below_drewN | apply below_drew1 | refine below_set ?_ GE238.out) | exact HB.out)) hb); clear HO247; clear BK238; clear HB; have HO247 := n0_; have BK238 := n1_; have HB := n2_; clear n0_ n1_ n2_; (try clear hb); (try clear hk)) | go_in)
              repeat ((first | go_end0 | ((try simp only [Exit.inBlock, Exit.then]); refine bodyPost_ret (results_none rfl _ _ _) rfl ?_)); try go_wp2_with (first | ((with_reducible refine gate_builtin (b := .append) (xs := #[.tmp 27, .tmp 32]) rfl ?_); at_builtin; refine Kd.R_append k48 (w0 := w) w.heap.size rfl (.tmp 27) (.tmp 32) 22 48 (.agg #[(.int .i64 0), (.int .i64 0)]) 16 rfl Try.underlying22 info48 rfl (by decide) (by omega) (.slice Ao13 x239000_2.length co13) x239000_2 (⟨(wrap64 ((wrap64 (64 * x21_1)) + x18_2)), wrap64 ((wrap64 ((wrap64 (64 * x21_1)) + x18_2)) + 1)⟩ : S48) [.int .i64 (wrap64 ((wrap64 (64 * x21_1)) + x18_2)), .int .i64 (wrap64 ((wrap64 ((wrap64 (64 * x21_1)) + x18_2)) + 1))] (fun _ => True) (fun _ => False) rfl rfl ?aP (fun _ hk => hk.elim) ?aF ?aO ?aB ?aS ?aL ?_; (case aP => exact k48_mkM _ _ _ (⟨(wrap64 ((wrap64 (64 * x21_1)) + x18_2)), wrap64 ((wrap64 ((wrap64 (64 * x21_1)) + x18_2)) + 1)⟩ : S48)); (case aB => exact (by repeat (first | (with_reducible first | exact HB.out | apply below_alloc | apply pw_below_drewN | apply below_drew1 | refine below_set ?_ GE238.out) | exact HB.out))); (case aF => exact (fun _ _ => trivial)); (case aO => exact (by (with_reducible repeat (first | apply Kd.R_alloc | apply Kd.R_drewN | apply Kd.R_drew)); exact HO_239000.out)); (case aS => exact (below_size (by repeat (first | (with_reducible first | exact HB.out | apply below_alloc | apply pw_below_drewN | apply below_drew1 | refine below_set ?_ GE238.out) | exact HB.out)))); (case aL => have := LMc29.out; omega); intro v246 w32 ho hb hg hat; rw [← Ny245.out] at ho; have n0_ := Aside0.mk (blk_grown (g := gb238) (o := .cells #[.slice Ao13 x239000_2.length co13] 22 (0, 0)) (by (with_reducible repeat (first | refine blk_drewN ?_ _ | refine blk_drew ?_ | refine blk_alloc ?_ _)); exact BK238.out) hg (Kd.R_ne HO_239000.out BK238.out (by decide))); have n1_ := Aside0.mk (hb); have n2_ := Aside0.mk (ho); clear BK238; clear HB; clear HO_239000; have BK238 := n0_; have HB := n1_; have HO247 := n2_; clear n0_ n1_ n2_; clear ho hb hg hat; obtain ⟨Ao33, co33, eo33⟩ := Kd.R_slice HO247.out; subst eo33; have hcz34_0 : w32.cell? ⟨gb238, 0, none⟩ = some (.slice Ao13 x239000_2.length co13) := (blk_cell BK238.out 0).trans rfl; have hfz34_0 := blk_frozen BK238.out 0) | ((with_reducible refine gate_callee (f := 51) rfl ?_); refine goesL_ (some 21) rfl rfl Try.func51 (by kernel_rfl) rfl #[.int .i64 (rd l0 x21_1), .int .i64 (wrap64 (x18_2 + 1))] rfl (by (try simp only [List.map_toArray, List.map_cons, List.map_nil]); first | done | rfl) ?_; (with_reducible refine (bits_Next.calls kj10 (rd l0 x21_1) (wrap64 (x18_2 + 1)) t248 _ A30.out).mono ?_); rintro e w35 ⟨rfl, hb⟩; refine ⟨_, rfl, ?_⟩; have n0_ := Aside0.mk (Kd.R_below (by (with_reducible repeat (first | apply Kd.R_alloc | apply Kd.R_drewN | apply Kd.R_drew)); exact (Kd.R_mono (Kd.R_far (p := ⟨gb238, 0, none⟩) (Kd.R_types HO247.out BK238.out (by decide)) (fun _ hk => hk.2) (.slice Ao33 y245.length co33)) (fun _ h_ => h_.1))) hb); have n1_ := Aside0.mk (blk_below (g := gb238) (o := .cells #[.slice Ao33 y245.length co33] 22 (0, 0)) (by (with_reducible repeat (first | refine blk_drewN ?_ _ | refine blk_drew ?_ | refine blk_alloc ?_ _)); refine blk_put (cs := #[.slice Ao13 x239000_2.length co13]) ?_ 0 _ rfl; (with_reducible repeat (first | refine blk_drewN ?_ _ | refine blk_drew ?_ | refine blk_alloc ?_ _)); exact BK238.out) hb); have n2_ := Aside0.mk (below_step (by repeat (first | (with_reducible first | exact HB.out | apply below_alloc | apply pw_below_drewN | apply below_drew1 | refine below_set ?_ GE238.out) | exact HB.out)) hb); clear HO247; clear BK238; clear HB; have HO247 := n0_; have BK238 := n1_; have HB := n2_; clear n0_ n1_ n2_; (try clear hb); (try clear hk)) | go_in))
              go_roundg kj10
              case measure => have := HK1.out; have := HK2.out; have := HJ10.out; omega
              case rel => exact ⟨(t248), (y245), (.slice Ao33 y245.length co33), (by first | rfl | (simp; done) | (simp [*]; done)), H', ⟨by have := HK1.out; have := HK2.out; have := HJ10.out; omega⟩, ⟨by (with_reducible repeat (first | apply Kd.R_alloc | apply Kd.R_drewN | apply Kd.R_drew)); exact HO247.out⟩, ⟨by (with_reducible repeat (first | refine blk_drewN ?_ _ | refine blk_drew ?_ | refine blk_alloc ?_ _)); exact BK238.out⟩, ⟨by repeat (first | (with_reducible first | exact HB.out | apply below_alloc | apply pw_below_drewN | apply below_drew1 | refine below_set ?_ GE238.out) | exact HB.out)⟩⟩
             ·rw [if_neg c29] at H
              exact absurd H (by simp)
         ·rw [if_neg c10] at H
          have c10b0 : decide (0 ≤ x18_2) = false := decide_eq_false c10
          clear c10
          have H' := Aside0.mk H
          clear H
          go_wp2
          repeat ((first | go_end0 | ((try simp only [Exit.inBlock, Exit.then]); refine bodyPost_ret (results_none rfl _ _ _) rfl ?_)); go_wp2)
          go_roundg k2
          case measure => have := HK1.out; have := HK2.out; omega
          case rel => exact ⟨(wrap64 (x21_1 + 1)), (x239000_2), (u239000), (by first | rfl | (simp; done) | (simp [*]; done)), H', ⟨by have := HK1.out; have := HK2.out; omega⟩, ⟨by (with_reducible repeat (first | apply Kd.R_alloc | apply Kd.R_drewN | apply Kd.R_drew)); exact HO_239000.out⟩, ⟨by (with_reducible repeat (first | refine blk_drewN ?_ _ | refine blk_drew ?_ | refine blk_alloc ?_ _)); exact BK238.out⟩, ⟨by repeat (first | (with_reducible first | exact HB.out | apply below_alloc | apply pw_below_drewN | apply below_drew1 | refine below_set ?_ GE238.out) | exact HB.out)⟩⟩
      ·rw [if_neg c7] at H
       exact absurd H (by simp)
     ·rw [if_neg c6] at H
      exact absurd H (by simp)
    ·rw [if_neg c5] at H
     have c5b0 : decide (x21_1 < (l0.length : Int)) = false := decide_eq_false c5
     clear c5
     simp only [Option.some.injEq, Prod.mk.injEq] at H
     obtain ⟨rfl, rfl⟩ := H
     have hcz36_0 : wr.cell? ⟨gb238, 0, none⟩ = some (u239000) := (blk_cell BK238.out 0).trans rfl
     have hfz36_0 := blk_frozen BK238.out 0
     go_wp2
     repeat ((first | go_end0 | ((try simp only [Exit.inBlock, Exit.then]); refine bodyPost_ret (results_none rfl _ _ _) rfl ?_)); go_wp2)
     go_ret2
     exact ⟨_, by first | rfl | (simp [errW_none, errW_some] <;> rfl) | (simp [*, errW_none, errW_some] <;> rfl), by (with_reducible repeat (first | apply Kd.R_alloc | apply Kd.R_drewN | apply Kd.R_drew)); exact HO_239000.out, by repeat (first | (with_reducible first | exact HB.out | apply below_alloc | apply pw_below_drewN | apply below_drew1 | refine below_set ?_ GE238.out) | exact HB.out)⟩
 ·replace c3 := Bool.eq_false_iff.mpr c3
  subst c3
  have H1 : (some (([] : List (S48)), 1)) = some (r1, r2) := by rw [if_neg (show ¬ (false = true) by decide)] at H; exact H
  clear H
  have H := H1
  clear H1
  simp only [Option.some.injEq, Prod.mk.injEq] at H
  obtain ⟨rfl, rfl⟩ := H
  go_enter Try.func21, Try.ntmps21
  go_wp2_with (first | ((with_reducible refine gate_callee (f := 19) rfl ?_); refine goesL_ (some 6) rfl rfl Try.func19 (by kernel_rfl) rfl #[.slice A0 l0.length c0] rfl (by (try simp only [List.map_toArray, List.map_cons, List.map_nil]); first | done | rfl) ?_; (with_reducible refine (words_May.calls _ _ l0 false _ ?side1 ?side2 A2.out).mono ?_); (case side1 => repeat (first | exact HR0.out | (with_reducible refine Kd.C_alloc ?_ _) | (with_reducible refine Kd.C_drewN ?_ _) | (with_reducible refine Kd.C_drew ?_))); (case side2 => exact HC0.out); rintro e w' ⟨rfl, ⟨nd, rfl⟩⟩; refine ⟨_, rfl, ?_⟩) | go_in)
  repeat ((first | go_end0 | ((try simp only [Exit.inBlock, Exit.then]); refine bodyPost_ret (results_none rfl _ _ _) rfl ?_)); try go_wp2_with (first | ((with_reducible refine gate_callee (f := 19) rfl ?_); refine goesL_ (some 6) rfl rfl Try.func19 (by kernel_rfl) rfl #[.slice A0 l0.length c0] rfl (by (try simp only [List.map_toArray, List.map_cons, List.map_nil]); first | done | rfl) ?_; (with_reducible refine (words_May.calls _ _ l0 false _ ?side1 ?side2 A2.out).mono ?_); (case side1 => repeat (first | exact HR0.out | (with_reducible refine Kd.C_alloc ?_ _) | (with_reducible refine Kd.C_drewN ?_ _) | (with_reducible refine Kd.C_drew ?_))); (case side2 => exact HC0.out); rintro e w' ⟨rfl, ⟨nd, rfl⟩⟩; refine ⟨_, rfl, ?_⟩) | go_in))
  go_ret2
  exact ⟨_, by first | rfl | (simp [errW_none, errW_some] <;> rfl) | (simp [*, errW_none, errW_some] <;> rfl), by first | exact Kd.R_nil _ _ _ _ _ | exact Kd.N_nil _ _ _ _ _ | exact Kd.V_nil _ _ _ _ _ | exact Kd.Q_nil _ _ _ _ _ | exact Kd.S_nil _ _ _ _ _, by repeat (first | (with_reducible first | exact HB.out | apply below_alloc | apply pw_below_drewN | apply below_drew1) | exact HB.out)⟩

end Go.Proofs.Ytgielanobeclnaa.Print
