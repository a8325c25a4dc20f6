-- Written by the session's own xprint (over the kit's print program): functions, contracts.
import Derived.Test.YtgielanobeclnaaPrint0
import Derived.Test.YtgielanobeclnaaPrint6
namespace Go.Proofs.Ytgielanobeclnaa.Print
open Go.RowKit Go.Proofs.YtgielanobeclnaaW.PrintWords Go.Proofs.YtgielanobeclnaaW.PrintLast Go.Proofs.YtgielanobeclnaaW.PrintMore
attribute [local go_sem] max2_int min2_int max_two min_two max_three min_three max_four min_four   -- for this text's walks alone
set_option linter.unusedVariables false
set_option linter.unusedSimpArgs false

/-! ### peristyleref14_Spans: function 44 -/
def peristyleref14_Spans.l0 : Nat → List Bool → List (S48) → Int → Option ((List (S48)))
 | 0, _, _, _ => none
 | k + 1, x0, x3, x4 => if x4 < (x0.length : Int) then (if 0 ≤ x4 then (if rdOf false x0 x4 = true then (if x4 > 0 then (if 0 ≤ (wrap64 (x4 - 1)) then (if (wrap64 (x4 - 1)) < (x0.length : Int) then (if rdOf false x0 (wrap64 (x4 - 1)) = true then (if 0 ≤ (wrap64 ((x3.length : Int) - 1)) then (if (wrap64 ((x3.length : Int) - 1)) < (x3.length : Int) then (peristyleref14_Spans.l0 k x0 (x3.set ((wrap64 ((x3.length : Int) - 1)) : Int).toNat (⟨(rd_T48 x3 (wrap64 ((x3.length : Int) - 1))).f0, wrap64 (((rd_T48 x3 (wrap64 ((x3.length : Int) - 1))).f1) + 1)⟩ : S48)) (wrap64 (x4 + 1))) else (none)) else (none)) else (if x3.length < 8796093022208 then (peristyleref14_Spans.l0 k x0 (x3 ++ [(⟨x4, wrap64 (x4 + 1)⟩ : S48)]) (wrap64 (x4 + 1))) else (none))) else (none)) else (none)) else (if x3.length < 8796093022208 then (peristyleref14_Spans.l0 k x0 (x3 ++ [(⟨x4, wrap64 (x4 + 1)⟩ : S48)]) (wrap64 (x4 + 1))) else (none))) else (peristyleref14_Spans.l0 k x0 x3 (wrap64 (x4 + 1)))) else (none)) else (some x3)
def peristyleref14_Spans.f (k : Nat) (l0 : List Bool) : Option ((List (S48))) := peristyleref14_Spans.l0 k l0 ([] : List (S48)) 0
theorem peristyleref14_Spans.l0_succ (k : Nat) (x0 : List Bool) (x3 : List (S48)) (x4 : Int) : peristyleref14_Spans.l0 (k + 1) x0 x3 x4 = (if x4 < (x0.length : Int) then (if 0 ≤ x4 then (if rdOf false x0 x4 = true then (if x4 > 0 then (if 0 ≤ (wrap64 (x4 - 1)) then (if (wrap64 (x4 - 1)) < (x0.length : Int) then (if rdOf false x0 (wrap64 (x4 - 1)) = true then (if 0 ≤ (wrap64 ((x3.length : Int) - 1)) then (if (wrap64 ((x3.length : Int) - 1)) < (x3.length : Int) then (peristyleref14_Spans.l0 k x0 (x3.set ((wrap64 ((x3.length : Int) - 1)) : Int).toNat (⟨(rd_T48 x3 (wrap64 ((x3.length : Int) - 1))).f0, wrap64 (((rd_T48 x3 (wrap64 ((x3.length : Int) - 1))).f1) + 1)⟩ : S48)) (wrap64 (x4 + 1))) else (none)) else (none)) else (if x3.length < 8796093022208 then (peristyleref14_Spans.l0 k x0 (x3 ++ [(⟨x4, wrap64 (x4 + 1)⟩ : S48)]) (wrap64 (x4 + 1))) else (none))) else (none)) else (none)) else (if x3.length < 8796093022208 then (peristyleref14_Spans.l0 k x0 (x3 ++ [(⟨x4, wrap64 (x4 + 1)⟩ : S48)]) (wrap64 (x4 + 1))) else (none))) else (peristyleref14_Spans.l0 k x0 x3 (wrap64 (x4 + 1)))) else (none)) else (some x3)) := by
 simp only [peristyleref14_Spans.l0]
theorem peristyleref14_Spans.mono_l : ∀ k, (∀ y0 y1 y2, LeO (peristyleref14_Spans.l0 k y0 y1 y2) (peristyleref14_Spans.l0 (k + 1) y0 y1 y2))
 | 0 => fun _ _ _ r h => by simp [peristyleref14_Spans.l0] at h
 | k + 1 => by
  have ih0 := peristyleref14_Spans.mono_l k
  ·intro y0 y1 y2
   unfold peristyleref14_Spans.l0
   repeat' first
   | (with_reducible exact ih0 _ _ _)
   | (with_reducible exact LeO.refl _)
   | (with_reducible exact LeO.none _)
   | (with_reducible refine LeO.ite ?_ ?_)
   | (with_reducible refine LeO.bind ?_ (fun _ => ?_))
   | exact ih0 _ _ _
   | exact LeO.none _
   | refine LeO.ite ?_ ?_
   | refine LeO.bind ?_ (fun _ => ?_)
theorem peristyleref14_Spans.mono : ∀ a0 k, LeO (peristyleref14_Spans.f k a0) (peristyleref14_Spans.f (k + 1) a0) := by
 intro a0 k
 have ih0 := peristyleref14_Spans.mono_l k
 unfold peristyleref14_Spans.f
 repeat' first
   | (with_reducible exact ih0 _ _ _)
   | (with_reducible exact LeO.refl _)
   | (with_reducible exact LeO.none _)
   | (with_reducible refine LeO.ite ?_ ?_)
   | (with_reducible refine LeO.bind ?_ (fun _ => ?_))
   | exact ih0 _ _ _
   | exact LeO.none _
   | refine LeO.ite ?_ ?_
   | refine LeO.bind ?_ (fun _ => ?_)
set_option maxHeartbeats 8000000 in
set_option maxRecDepth 100000 in
theorem peristyleref14_Spans.calls (k : Nat) (A0 : Option Addr) (c0 : Nat) (l0 : List Bool) (r : List (S48)) (w : World) (hr0 : Kd.C Kd.bool w A0 l0.length l0) (hc0 : l0.length ≤ c0) (h : peristyleref14_Spans.f k l0 = some r) :
  Calls Try.prog 44 #[.slice A0 l0.length c0] w fun e w' => ∃ v0_ : Value, e = .returned (v0_) ∧ Kd.R k48 48 w' w.heap.size (fun _ => True) v0_ r ∧ Below w.heap.size w w' := by
 have hu48 := Try.underlying48
 have HR0 := Aside0.mk hr0
 have HC0 := Aside0.mk hc0
 clear hr0 hc0
 have HB := Aside0.mk (Below.refl w.heap.size w)
 have H : (peristyleref14_Spans.l0 k l0 ([] : List (S48)) 0) = some r := h
 clear h
 have H' := Aside0.mk H
 clear H
 go_enter Try.func44, Try.ntmps44
 go_wp2
 go_loopg [3, 4] k (fun kq v3 v4 w' => ∃ (x3_1 : List (S48)) (x4_1 : Int), v4 = .int .i64 x4_1 ∧ Aside0 (peristyleref14_Spans.l0 kq l0 x3_1 x4_1 = some r) ∧ Aside0 (kq ≤ k) ∧ Aside0 (Kd.R k48 48 w' w.heap.size (fun _ => True) v3 x3_1) ∧ Aside0 (Below w.heap.size w w'))
 case atStart => exact ⟨(([] : List (S48))), (0), (by first | rfl | (simp; done) | (simp [*]; done)), H', ⟨Nat.le_refl _⟩, ⟨by first | exact Kd.R_nil _ _ _ _ _ | exact Kd.N_nil _ _ _ _ _ | exact Kd.V_nil _ _ _ _ _ | exact Kd.Q_nil _ _ _ _ _ | exact Kd.S_nil _ _ _ _ _⟩, ⟨by repeat (first | (with_reducible first | exact HB.out | apply below_alloc | apply pw_below_drewN | apply below_drew1) | exact HB.out)⟩⟩
 case round =>
  clear H'
  obtain ⟨x3_1, x4_1, rfl, HA, HK1, HO_3, HB⟩ := hrel
  cases gk with
  | zero => exact absurd HA.out (by simp [peristyleref14_Spans.l0])
  | succ k1 =>
   have H := HA.out
   clear HA
   simp only [peristyleref14_Spans.l0] at H
   by_cases c2 : x4_1 < (l0.length : Int)
   ·rw [if_pos c2] at H
    have c2b0 : decide (x4_1 < (l0.length : Int)) = true := decide_eq_true c2
    clear c2
    by_cases c3 : 0 ≤ x4_1
    ·rw [if_pos c3] at H
     have c3b0 : decide (0 ≤ x4_1) = true := decide_eq_true c3
     clear c3
     obtain ⟨bq4, hbq4⟩ : ∃ b_ : Bool, b_ = (rdOf false l0 x4_1) := ⟨_, rfl⟩
     replace H : (if bq4 = true then (if x4_1 > 0 then (if 0 ≤ (wrap64 (x4_1 - 1)) then (if (wrap64 (x4_1 - 1)) < (l0.length : Int) then (if rdOf false l0 (wrap64 (x4_1 - 1)) = true then (if 0 ≤ (wrap64 ((x3_1.length : Int) - 1)) then (if (wrap64 ((x3_1.length : Int) - 1)) < (x3_1.length : Int) then (peristyleref14_Spans.l0 k1 l0 (x3_1.set ((wrap64 ((x3_1.length : Int) - 1)) : Int).toNat (⟨(rd_T48 x3_1 (wrap64 ((x3_1.length : Int) - 1))).f0, wrap64 (((rd_T48 x3_1 (wrap64 ((x3_1.length : Int) - 1))).f1) + 1)⟩ : S48)) (wrap64 (x4_1 + 1))) else (none)) else (none)) else (if x3_1.length < 8796093022208 then (peristyleref14_Spans.l0 k1 l0 (x3_1 ++ [(⟨x4_1, wrap64 (x4_1 + 1)⟩ : S48)]) (wrap64 (x4_1 + 1))) else (none))) else (none)) else (none)) else (if x3_1.length < 8796093022208 then (peristyleref14_Spans.l0 k1 l0 (x3_1 ++ [(⟨x4_1, wrap64 (x4_1 + 1)⟩ : S48)]) (wrap64 (x4_1 + 1))) else (none))) else (peristyleref14_Spans.l0 k1 l0 x3_1 (wrap64 (x4_1 + 1)))) = some r := by rw [← hbq4] at H; exact H
     have Nbq4 := Aside0.mk hbq4
     clear hbq4
     by_cases c5 : bq4 = true
     ·subst c5
      have H1 : (if x4_1 > 0 then (if 0 ≤ (wrap64 (x4_1 - 1)) then (if (wrap64 (x4_1 - 1)) < (l0.length : Int) then (if rdOf false l0 (wrap64 (x4_1 - 1)) = true then (if 0 ≤ (wrap64 ((x3_1.length : Int) - 1)) then (if (wrap64 ((x3_1.length : Int) - 1)) < (x3_1.length : Int) then (peristyleref14_Spans.l0 k1 l0 (x3_1.set ((wrap64 ((x3_1.length : Int) - 1)) : Int).toNat (⟨(rd_T48 x3_1 (wrap64 ((x3_1.length : Int) - 1))).f0, wrap64 (((rd_T48 x3_1 (wrap64 ((x3_1.length : Int) - 1))).f1) + 1)⟩ : S48)) (wrap64 (x4_1 + 1))) else (none)) else (none)) else (if x3_1.length < 8796093022208 then (peristyleref14_Spans.l0 k1 l0 (x3_1 ++ [(⟨x4_1, wrap64 (x4_1 + 1)⟩ : S48)]) (wrap64 (x4_1 + 1))) else (none))) else (none)) else (none)) else (if x3_1.length < 8796093022208 then (peristyleref14_Spans.l0 k1 l0 (x3_1 ++ [(⟨x4_1, wrap64 (x4_1 + 1)⟩ : S48)]) (wrap64 (x4_1 + 1))) else (none))) = some r := by rw [if_pos rfl] at H; exact H
      clear H
      have H := H1
      clear H1
      by_cases c6 : x4_1 > 0
      ·rw [if_pos c6] at H
       have c6b0 : decide (0 < x4_1) = true := decide_eq_true c6
       clear c6
       obtain ⟨ji7, hji7⟩ : ∃ j_ : Int, (wrap64 (x4_1 - 1)) = j_ := ⟨_, rfl⟩
       replace H : (if 0 ≤ (ji7) then (if (ji7) < (l0.length : Int) then (if rdOf false l0 (ji7) = true then (if 0 ≤ (wrap64 ((x3_1.length : Int) - 1)) then (if (wrap64 ((x3_1.length : Int) - 1)) < (x3_1.length : Int) then (peristyleref14_Spans.l0 k1 l0 (x3_1.set ((wrap64 ((x3_1.length : Int) - 1)) : Int).toNat (⟨(rd_T48 x3_1 (wrap64 ((x3_1.length : Int) - 1))).f0, wrap64 (((rd_T48 x3_1 (wrap64 ((x3_1.length : Int) - 1))).f1) + 1)⟩ : S48)) (wrap64 (x4_1 + 1))) else (none)) else (none)) else (if x3_1.length < 8796093022208 then (peristyleref14_Spans.l0 k1 l0 (x3_1 ++ [(⟨x4_1, wrap64 (x4_1 + 1)⟩ : S48)]) (wrap64 (x4_1 + 1))) else (none))) else (none)) else (none)) = some r := by first | (rw [hji7] at H; exact H) | (simp only [hji7] at H ⊢; exact H)
       have hji7w : (IntKind.i64.wrap (x4_1 - 1)) = ji7 := (i64_w _).trans hji7
       by_cases c8 : 0 ≤ (ji7)
       ·rw [if_pos c8] at H
        have c8b0 : decide (0 ≤ (ji7)) = true := decide_eq_true c8
        clear c8
        by_cases c9 : (ji7) < (l0.length : Int)
        ·rw [if_pos c9] at H
         have c9b0 : decide ((ji7) < (l0.length : Int)) = true := decide_eq_true c9
         clear c9
         obtain ⟨bq10, hbq10⟩ : ∃ b_ : Bool, b_ = (rdOf false l0 (ji7)) := ⟨_, rfl⟩
         replace H : (if bq10 = true then (if 0 ≤ (wrap64 ((x3_1.length : Int) - 1)) then (if (wrap64 ((x3_1.length : Int) - 1)) < (x3_1.length : Int) then (peristyleref14_Spans.l0 k1 l0 (x3_1.set ((wrap64 ((x3_1.length : Int) - 1)) : Int).toNat (⟨(rd_T48 x3_1 (wrap64 ((x3_1.length : Int) - 1))).f0, wrap64 (((rd_T48 x3_1 (wrap64 ((x3_1.length : Int) - 1))).f1) + 1)⟩ : S48)) (wrap64 (x4_1 + 1))) else (none)) else (none)) else (if x3_1.length < 8796093022208 then (peristyleref14_Spans.l0 k1 l0 (x3_1 ++ [(⟨x4_1, wrap64 (x4_1 + 1)⟩ : S48)]) (wrap64 (x4_1 + 1))) else (none))) = some r := by rw [← hbq10] at H; exact H
         have Nbq10 := Aside0.mk hbq10
         clear hbq10
         by_cases c11 : bq10 = true
         ·subst c11
          have H1 : (if 0 ≤ (wrap64 ((x3_1.length : Int) - 1)) then (if (wrap64 ((x3_1.length : Int) - 1)) < (x3_1.length : Int) then (peristyleref14_Spans.l0 k1 l0 (x3_1.set ((wrap64 ((x3_1.length : Int) - 1)) : Int).toNat (⟨(rd_T48 x3_1 (wrap64 ((x3_1.length : Int) - 1))).f0, wrap64 (((rd_T48 x3_1 (wrap64 ((x3_1.length : Int) - 1))).f1) + 1)⟩ : S48)) (wrap64 (x4_1 + 1))) else (none)) else (none)) = some r := by rw [if_pos rfl] at H; exact H
          clear H
          have H := H1
          clear H1
          obtain ⟨ji12, hji12⟩ : ∃ j_ : Int, (wrap64 ((x3_1.length : Int) - 1)) = j_ := ⟨_, rfl⟩
          replace H : (if 0 ≤ (ji12) then (if (ji12) < (x3_1.length : Int) then (peristyleref14_Spans.l0 k1 l0 (x3_1.set ((ji12) : Int).toNat (⟨(rd_T48 x3_1 (ji12)).f0, wrap64 (((rd_T48 x3_1 (ji12)).f1) + 1)⟩ : S48)) (wrap64 (x4_1 + 1))) else (none)) else (none)) = some r := by first | (rw [hji12] at H; exact H) | (simp only [hji12] at H ⊢; exact H)
          have hji12w : (IntKind.i64.wrap ((x3_1.length : Int) - 1)) = ji12 := (i64_w _).trans hji12
          by_cases c13 : 0 ≤ (ji12)
          ·rw [if_pos c13] at H
           have c13b0 : decide (0 ≤ (ji12)) = true := decide_eq_true c13
           clear c13
           by_cases c14 : (ji12) < (x3_1.length : Int)
           ·rw [if_pos c14] at H
            have c14b0 : decide ((ji12) < (x3_1.length : Int)) = true := decide_eq_true c14
            clear c14
            obtain ⟨y212, hy212⟩ : ∃ y_ : List (S48), y_ = (x3_1.set ((ji12) : Int).toNat (⟨(rd_T48 x3_1 (ji12)).f0, wrap64 (((rd_T48 x3_1 (ji12)).f1) + 1)⟩ : S48)) := ⟨_, rfl⟩
            replace H : (peristyleref14_Spans.l0 k1 l0 y212 (wrap64 (x4_1 + 1))) = some r := by first | (rw [hy212]; with_reducible exact H) | (have H2_ := (Option.bind_some _ _).symm.trans H; rw [hy212]; with_reducible exact H2_) | (have H2_ := (Option.bind_some _ _).symm.trans H; with_reducible exact H2_) | with_reducible exact H | (rw [hy212]; exact H) | exact H
            have Ny212 := Aside0.mk hy212
            clear hy212
            have H' := Aside0.mk H
            clear H
            have p209 : 0 ≤ (x4_1 : Int) := of_decide_eq_true (by assumption)
            have q209 : x4_1 < (l0.length : Int) := of_decide_eq_true (by assumption)
            obtain ⟨ad209, e209, hx209_0⟩ := Kd.at_bool HR0.out x4_1 p209 q209
            (try rw [← Nbq4.out] at hx209_0)
            (try rw [← Nbq10.out] at hx209_0)
            cases e209
            replace hx209_0 := (HB.out.cell (World.block_lt_of_cell? w _ hx209_0)).trans hx209_0
            replace p209 := eq_true p209
            replace q209 := eq_true q209
            have p210 : 0 ≤ ((ji7) : Int) := of_decide_eq_true (by assumption)
            have q210 : (ji7) < (l0.length : Int) := of_decide_eq_true (by assumption)
            obtain ⟨ad210, e210, hx210_0⟩ := Kd.at_bool HR0.out (ji7) p210 q210
            (try rw [← Nbq4.out] at hx210_0)
            (try rw [← Nbq10.out] at hx210_0)
            obtain rfl : ad209 = ad210 := (by injection e210)
            replace hx210_0 := (HB.out.cell (World.block_lt_of_cell? w _ hx210_0)).trans hx210_0
            replace p210 := eq_true p210
            replace q210 := eq_true q210
            obtain ⟨Ao16, co16, eo16⟩ := Kd.R_slice HO_3.out
            subst eo16
            have p211 : 0 ≤ ((ji12) : Int) := of_decide_eq_true (by assumption)
            have q211 : (ji12) < (x3_1.length : Int) := of_decide_eq_true (by assumption)
            obtain ⟨ad211, e211, hx211_0, hx211_1⟩ := at_T48 (Kd.R_reads' HO_3.out).2.2 (ji12) p211 q211
            cases e211
            replace p211 := eq_true p211
            replace q211 := eq_true q211
            have p15 : 0 ≤ ((ji12) : Int) := of_decide_eq_true (by assumption)
            have q15 : ((ji12) : Int) < ((x3_1.length : Int) : Int) := of_decide_eq_true (by assumption)
            obtain ⟨go15, co15, eo15, gb15, gl15, cl15, HG15⟩ := Kd.R_form HO_3.out (by omega)
            (first | cases eo15 | (injection eo15 with ea_ en_ ec_; (first | subst ea_ | (injection ea_ with ea_; subst ea_)); subst ec_; clear en_))
            have GB15 := Aside0.mk gb15
            have GG15 := Aside0.mk HG15
            clear gb15 gl15 HG15
            (first | simp only [add_plain] at hx211_0 | skip)
            (first | simp only [add_plain] at hx211_1 | skip)
            obtain ⟨ce15, hcl15, hM15, hcc15, hfr15⟩ := Kd.R_elem HO_3.out z48 ((ji12) : Int) p15 q15
            obtain rfl := k48_openM hM15
            have hx15_0 : wr.cell? ⟨go15, ((ji12) : Int).toNat * 2, none⟩ = some (.int .i64 ((rd_T48 x3_1 (ji12)).f0)) := hcc15 0 _ rfl
            have hx15_1 : wr.cell? ⟨go15, ((ji12) : Int).toNat * 2 + 1, none⟩ = some (.int .i64 ((rd_T48 x3_1 (ji12)).f1)) := hcc15 1 _ rfl
            have hf15_0 : wr.frozen? ⟨go15, ((ji12) : Int).toNat * 2, none⟩ = false := hfr15 0
            have hf15_1 : wr.frozen? ⟨go15, ((ji12) : Int).toNat * 2 + 1, none⟩ = false := hfr15 1
            clear hcl15 hcc15 hfr15 hM15
            replace p15 := eq_true p15
            replace q15 := eq_true q15
            have HX17 := Aside0.mk (show Kd.R k48 48 wr w.heap.size (fun _ => True) (.slice (some ⟨go15, 0, none⟩) x3_1.length co16) x3_1 from (by (with_reducible repeat (first | apply Kd.R_alloc | apply Kd.R_drewN | apply Kd.R_drew)); exact HO_3.out))
            obtain ⟨ce17, hcl17, hM17, hcc17, hfr17⟩ := Kd.R_elem HX17.out z48 ((ji12) : Int) (of_decide_eq_true (by assumption)) (by have h_ : ((ji12) : Int) < ((x3_1.length : Int) : Int) := of_decide_eq_true (by assumption); first | exact h_ | (have e_ := (Kd.R_reads' HO_3.out).1; omega) | simpa using h_)
            obtain rfl := k48_openM hM17
            have HP17 := Kd.R_seg HX17.out ((ji12) : Int) (of_decide_eq_true (by assumption)) (by have h_ : ((ji12) : Int) < ((x3_1.length : Int) : Int) := of_decide_eq_true (by assumption); first | exact h_ | (have e_ := (Kd.R_reads' HO_3.out).1; omega) | simpa using h_) (seg := [.int .i64 (wrap64 (((rd_T48 x3_1 (ji12)).f1) + 1))]) (j := 1) hcl17 hcc17 (show 2 ≤ 2 from by decide) (x' := (⟨(rd_T48 x3_1 (ji12)).f0, wrap64 (((rd_T48 x3_1 (ji12)).f1) + 1)⟩ : S48)) (k48_mkM _ _ _ (⟨(rd_T48 x3_1 (ji12)).f0, wrap64 (((rd_T48 x3_1 (ji12)).f1) + 1)⟩ : S48) ) (fun _ hk => hk)
            have hx17_1 := hcc17 1 _ rfl
            (try simp only [show (k48).sz = 2 from rfl, Nat.mul_one, Nat.add_zero] at hx17_1)
            have hf17_1 := hfr17 1
            (try simp only [show (k48).sz = 2 from rfl, Nat.mul_one, Nat.add_zero] at hf17_1)
            clear hcl17 hcc17 hfr17 hM17
            go_wp2_with (first | ((with_reducible refine gate_store (t := 3) (p := 34) rfl ?_); refine store_event (t := 3) (p := 34) (v := ?vo_w18) (w1 := (wr.setCell ⟨go15, ((ji12) : Int).toNat * 2 + 1, none⟩ (.int .i64 (wrap64 (((rd_T48 x3_1 (ji12)).f1) + 1))))) ?hg ?ho ?hn ?hr ?_; (case ho => rfl); (case hg => rfl); (case hn => rfl); (case hr => first | (go_simp; done) | (go_simp; rfl)); intro w18 hw; have hg : wr.grownBy w18 (some go15) := (by rw [hw]; exact HP17.2); have hp_ : Kd.R k48 48 w18 w.heap.size (fun _ => True) (.slice (some ⟨go15, 0, none⟩) x3_1.length co16) y212 := (by rw [hw, Ny212.out]; exact HP17.1); clear HP17; have n0_ := Aside0.mk (hp_); have n1_ := Aside0.mk ((by rw [hw]; exact below_set (HB.out) GB15.out : Below w.heap.size w w18)); clear HO_3; clear HB; have HO_3 := n0_; have HB := n1_; clear n0_ n1_; clear hg hw hp_))
            go_roundg k1
            case measure => have := HK1.out; omega
            case rel => exact ⟨(y212), (wrap64 (x4_1 + 1)), (by first | rfl | (simp; done) | (simp [*]; done)), (by first | exact H' | (simp only [hji7, hji12]; exact H')), ⟨by have := HK1.out; omega⟩, ⟨by (with_reducible repeat (first | apply Kd.R_alloc | apply Kd.R_drewN | apply Kd.R_drew)); exact HO_3.out⟩, ⟨by repeat (first | (with_reducible first | exact HB.out | apply below_alloc | apply pw_below_drewN | apply below_drew1) | exact HB.out)⟩⟩
           ·rw [if_neg c14] at H
            exact absurd H (by simp)
          ·rw [if_neg c13] at H
           exact absurd H (by simp)
         ·replace c11 := Bool.eq_false_iff.mpr c11
          subst c11
          have H1 : (if x3_1.length < 8796093022208 then (peristyleref14_Spans.l0 k1 l0 (x3_1 ++ [(⟨x4_1, wrap64 (x4_1 + 1)⟩ : S48)]) (wrap64 (x4_1 + 1))) else (none)) = some r := by rw [if_neg (show ¬ (false = true) by decide)] at H; exact H
          clear H
          have H := H1
          clear H1
          by_cases c19 : x3_1.length < 8796093022208
          ·rw [if_pos c19] at H
           have LMc19 := Aside0.mk c19
           clear c19
           obtain ⟨y213, hy213⟩ : ∃ y_ : List (S48), y_ = (x3_1 ++ [(⟨x4_1, wrap64 (x4_1 + 1)⟩ : S48)]) := ⟨_, rfl⟩
           replace H : (peristyleref14_Spans.l0 k1 l0 y213 (wrap64 (x4_1 + 1))) = some r := by first | (rw [hy213]; with_reducible exact H) | (have H2_ := (Option.bind_some _ _).symm.trans H; rw [hy213]; with_reducible exact H2_) | (have H2_ := (Option.bind_some _ _).symm.trans H; with_reducible exact H2_) | with_reducible exact H | (rw [hy213]; exact H) | exact H
           have Ny213 := Aside0.mk hy213
           clear hy213
           have H' := Aside0.mk H
           clear H
           have p209 : 0 ≤ (x4_1 : Int) := of_decide_eq_true (by assumption)
           have q209 : x4_1 < (l0.length : Int) := of_decide_eq_true (by assumption)
           obtain ⟨ad209, e209, hx209_0⟩ := Kd.at_bool HR0.out x4_1 p209 q209
           (try rw [← Nbq4.out] at hx209_0)
           (try rw [← Nbq10.out] at hx209_0)
           cases e209
           replace hx209_0 := (HB.out.cell (World.block_lt_of_cell? w _ hx209_0)).trans hx209_0
           replace p209 := eq_true p209
           replace q209 := eq_true q209
           have p210 : 0 ≤ ((ji7) : Int) := of_decide_eq_true (by assumption)
           have q210 : (ji7) < (l0.length : Int) := of_decide_eq_true (by assumption)
           obtain ⟨ad210, e210, hx210_0⟩ := Kd.at_bool HR0.out (ji7) p210 q210
           (try rw [← Nbq4.out] at hx210_0)
           (try rw [← Nbq10.out] at hx210_0)
           obtain rfl : ad209 = ad210 := (by injection e210)
           replace hx210_0 := (HB.out.cell (World.block_lt_of_cell? w _ hx210_0)).trans hx210_0
           replace p210 := eq_true p210
           replace q210 := eq_true q210
           go_wp2_with (first | ((with_reducible refine gate_builtin (b := .append) (xs := #[.tmp 35, .tmp 40]) rfl ?_); at_builtin; refine Kd.R_append k48 (w0 := w) w.heap.size rfl (.tmp 35) (.tmp 40) 22 48 (.agg #[(.int .i64 0), (.int .i64 0)]) 16 rfl Try.underlying22 info48 rfl (by decide) (by omega) u3 x3_1 (⟨x4_1, wrap64 (x4_1 + 1)⟩ : S48) [.int .i64 x4_1, .int .i64 (wrap64 (x4_1 + 1))] (fun _ => True) (fun _ => False) rfl rfl ?aP (fun _ hk => hk.elim) ?aF ?aO ?aB ?aS ?aL ?_; (case aP => exact k48_mkM _ _ _ (⟨x4_1, wrap64 (x4_1 + 1)⟩ : S48)); (case aB => exact (by repeat (first | exact HB.out | apply below_alloc | apply pw_below_drewN | apply below_drew1))); (case aF => exact (fun _ _ => trivial)); (case aO => exact (by (with_reducible repeat (first | apply Kd.R_alloc | apply Kd.R_drewN | apply Kd.R_drew)); exact HO_3.out)); (case aS => exact (below_size (by repeat (first | exact HB.out | apply below_alloc | apply pw_below_drewN | apply below_drew1)))); (case aL => have := LMc19.out; omega); intro v214 w20 ho hb hg hat; rw [← Ny213.out] at ho; have n0_ := Aside0.mk (hb); have n1_ := Aside0.mk (ho); clear HB; clear HO_3; have HB := n0_; have HO215 := n1_; clear n0_ n1_; clear ho hb hg hat))
           go_roundg k1
           case measure => have := HK1.out; omega
           case rel => exact ⟨(y213), (wrap64 (x4_1 + 1)), (by first | rfl | (simp; done) | (simp [*]; done)), (by first | exact H' | (simp only [hji7]; exact H')), ⟨by have := HK1.out; omega⟩, ⟨by (with_reducible repeat (first | apply Kd.R_alloc | apply Kd.R_drewN | apply Kd.R_drew)); exact HO215.out⟩, ⟨by repeat (first | (with_reducible first | exact HB.out | apply below_alloc | apply pw_below_drewN | apply below_drew1) | exact HB.out)⟩⟩
          ·rw [if_neg c19] at H
           exact absurd H (by simp)
        ·rw [if_neg c9] at H
         exact absurd H (by simp)
       ·rw [if_neg c8] at H
        exact absurd H (by simp)
      ·rw [if_neg c6] at H
       have c6b0 : decide (0 < x4_1) = false := decide_eq_false c6
       clear c6
       by_cases c21 : x3_1.length < 8796093022208
       ·rw [if_pos c21] at H
        have LMc21 := Aside0.mk c21
        clear c21
        obtain ⟨y216, hy216⟩ : ∃ y_ : List (S48), y_ = (x3_1 ++ [(⟨x4_1, wrap64 (x4_1 + 1)⟩ : S48)]) := ⟨_, rfl⟩
        replace H : (peristyleref14_Spans.l0 k1 l0 y216 (wrap64 (x4_1 + 1))) = some r := by first | (rw [hy216]; with_reducible exact H) | (have H2_ := (Option.bind_some _ _).symm.trans H; rw [hy216]; with_reducible exact H2_) | (have H2_ := (Option.bind_some _ _).symm.trans H; with_reducible exact H2_) | with_reducible exact H | (rw [hy216]; exact H) | exact H
        have Ny216 := Aside0.mk hy216
        clear hy216
        have H' := Aside0.mk H
        clear H
        have p209 : 0 ≤ (x4_1 : Int) := of_decide_eq_true (by assumption)
        have q209 : x4_1 < (l0.length : Int) := of_decide_eq_true (by assumption)
        obtain ⟨ad209, e209, hx209_0⟩ := Kd.at_bool HR0.out x4_1 p209 q209
        (try rw [← Nbq4.out] at hx209_0)
        cases e209
        replace hx209_0 := (HB.out.cell (World.block_lt_of_cell? w _ hx209_0)).trans hx209_0
        replace p209 := eq_true p209
        replace q209 := eq_true q209
        go_wp2_with (first | ((with_reducible refine gate_builtin (b := .append) (xs := #[.tmp 35, .tmp 40]) rfl ?_); at_builtin; refine Kd.R_append k48 (w0 := w) w.heap.size rfl (.tmp 35) (.tmp 40) 22 48 (.agg #[(.int .i64 0), (.int .i64 0)]) 16 rfl Try.underlying22 info48 rfl (by decide) (by omega) u3 x3_1 (⟨x4_1, wrap64 (x4_1 + 1)⟩ : S48) [.int .i64 x4_1, .int .i64 (wrap64 (x4_1 + 1))] (fun _ => True) (fun _ => False) rfl rfl ?aP (fun _ hk => hk.elim) ?aF ?aO ?aB ?aS ?aL ?_; (case aP => exact k48_mkM _ _ _ (⟨x4_1, wrap64 (x4_1 + 1)⟩ : S48)); (case aB => exact (by repeat (first | exact HB.out | apply below_alloc | apply pw_below_drewN | apply below_drew1))); (case aF => exact (fun _ _ => trivial)); (case aO => exact (by (with_reducible repeat (first | apply Kd.R_alloc | apply Kd.R_drewN | apply Kd.R_drew)); exact HO_3.out)); (case aS => exact (below_size (by repeat (first | exact HB.out | apply below_alloc | apply pw_below_drewN | apply below_drew1)))); (case aL => have := LMc21.out; omega); intro v217 w22 ho hb hg hat; rw [← Ny216.out] at ho; have n0_ := Aside0.mk (hb); have n1_ := Aside0.mk (ho); clear HB; clear HO_3; have HB := n0_; have HO218 := n1_; clear n0_ n1_; clear ho hb hg hat))
        go_roundg k1
        case measure => have := HK1.out; omega
        case rel => exact ⟨(y216), (wrap64 (x4_1 + 1)), (by first | rfl | (simp; done) | (simp [*]; done)), H', ⟨by have := HK1.out; omega⟩, ⟨by (with_reducible repeat (first | apply Kd.R_alloc | apply Kd.R_drewN | apply Kd.R_drew)); exact HO218.out⟩, ⟨by repeat (first | (with_reducible first | exact HB.out | apply below_alloc | apply pw_below_drewN | apply below_drew1) | exact HB.out)⟩⟩
       ·rw [if_neg c21] at H
        exact absurd H (by simp)
     ·replace c5 := Bool.eq_false_iff.mpr c5
      subst c5
      have H1 : (peristyleref14_Spans.l0 k1 l0 x3_1 (wrap64 (x4_1 + 1))) = some r := by rw [if_neg (show ¬ (false = true) by decide)] at H; exact H
      clear H
      have H := H1
      clear H1
      have H' := Aside0.mk H
      clear H
      have p209 : 0 ≤ (x4_1 : Int) := of_decide_eq_true (by assumption)
      have q209 : x4_1 < (l0.length : Int) := of_decide_eq_true (by assumption)
      obtain ⟨ad209, e209, hx209_0⟩ := Kd.at_bool HR0.out x4_1 p209 q209
      (try rw [← Nbq4.out] at hx209_0)
      cases e209
      replace hx209_0 := (HB.out.cell (World.block_lt_of_cell? w _ hx209_0)).trans hx209_0
      replace p209 := eq_true p209
      replace q209 := eq_true q209
      go_wp2
      go_roundg k1
      case measure => have := HK1.out; omega
      case rel => exact ⟨(x3_1), (wrap64 (x4_1 + 1)), (by first | rfl | (simp; done) | (simp [*]; done)), H', ⟨by have := HK1.out; omega⟩, ⟨by (with_reducible repeat (first | apply Kd.R_alloc | apply Kd.R_drewN | apply Kd.R_drew)); exact HO_3.out⟩, ⟨by repeat (first | (with_reducible first | exact HB.out | apply below_alloc | apply pw_below_drewN | apply below_drew1) | exact HB.out)⟩⟩
    ·rw [if_neg c3] at H
     exact absurd H (by simp)
   ·rw [if_neg c2] at H
    have c2b0 : decide (x4_1 < (l0.length : Int)) = false := decide_eq_false c2
    clear c2
    obtain rfl := Option.some.inj H
    go_wp2
    go_ret
    exact ⟨_, by first | rfl | (simp [errW_none, errW_some] <;> rfl) | (simp [*, errW_none, errW_some] <;> rfl), by (with_reducible repeat (first | apply Kd.R_alloc | apply Kd.R_drewN | apply Kd.R_drew)); exact HO_3.out, by repeat (first | (with_reducible first | exact HB.out | apply below_alloc | apply pw_below_drewN | apply below_drew1) | exact HB.out)⟩

/-! ### peristyleref15_Spans: function 22 -/
mutual
def peristyleref15_Spans.l0 : Nat → List Int → List Bool → Int → Option ((List (S48)) × Int)
 | 0, _, _, _ => none
 | k + 1, x0, x4, x5 => if x5 < (x0.length : Int) then (peristyleref15_Spans.l1 k x0 x4 x5 0) else ((peristyleref14_Spans.f k x4).bind fun t223 => (some (t223, 0)))
def peristyleref15_Spans.l1 : Nat → List Int → List Bool → Int → Int → Option ((List (S48)) × Int)
 | 0, _, _, _, _ => none
 | k + 1, x0, x4, x5, x6 => if x6 < 64 then (if 0 ≤ x5 then (if x5 < (x0.length : Int) then (if 0 ≤ x6 then (if 0 ≤ (wrap64 ((wrap64 (64 * x5)) + x6)) then (if (wrap64 ((wrap64 (64 * x5)) + x6)) < (x4.length : Int) then (peristyleref15_Spans.l1 k x0 (x4.set ((wrap64 ((wrap64 (64 * x5)) + x6)) : Int).toNat ((Go.bits .and .i64 (shr .i64 (rd x0 x5) x6) 1) == 1)) x5 (wrap64 (x6 + 1))) else (none)) else (none)) else (none)) else (none)) else (none)) else (peristyleref15_Spans.l0 k x0 x4 (wrap64 (x5 + 1)))
end
def peristyleref15_Spans.f (k : Nat) (l0 : List Int) : Option ((List (S48)) × Int) := (peristyleref15_May.f l0).bind fun t219 => (if t219 = true then (if 0 ≤ (wrap64 (64 * (l0.length : Int))) then (if (wrap64 (64 * (l0.length : Int)) : Int).toNat ≤ 281474976710656 then (peristyleref15_Spans.l0 k l0 (List.replicate (wrap64 (64 * (l0.length : Int)) : Int).toNat false) 0) else (none)) else (none)) else (some (([] : List (S48)), 1)))
theorem peristyleref15_Spans.l0_succ (k : Nat) (x0 : List Int) (x4 : List Bool) (x5 : Int) : peristyleref15_Spans.l0 (k + 1) x0 x4 x5 = (if x5 < (x0.length : Int) then (peristyleref15_Spans.l1 k x0 x4 x5 0) else ((peristyleref14_Spans.f k x4).bind fun t223 => (some (t223, 0)))) := by
 simp only [peristyleref15_Spans.l0]
theorem peristyleref15_Spans.l1_succ (k : Nat) (x0 : List Int) (x4 : List Bool) (x5 : Int) (x6 : Int) : peristyleref15_Spans.l1 (k + 1) x0 x4 x5 x6 = (if x6 < 64 then (if 0 ≤ x5 then (if x5 < (x0.length : Int) then (if 0 ≤ x6 then (if 0 ≤ (wrap64 ((wrap64 (64 * x5)) + x6)) then (if (wrap64 ((wrap64 (64 * x5)) + x6)) < (x4.length : Int) then (peristyleref15_Spans.l1 k x0 (x4.set ((wrap64 ((wrap64 (64 * x5)) + x6)) : Int).toNat ((Go.bits .and .i64 (shr .i64 (rd x0 x5) x6) 1) == 1)) x5 (wrap64 (x6 + 1))) else (none)) else (none)) else (none)) else (none)) else (none)) else (peristyleref15_Spans.l0 k x0 x4 (wrap64 (x5 + 1)))) := by
 simp only [peristyleref15_Spans.l1]
theorem peristyleref15_Spans.mono_l : ∀ k, (∀ y0 y1 y2, LeO (peristyleref15_Spans.l0 k y0 y1 y2) (peristyleref15_Spans.l0 (k + 1) y0 y1 y2)) ∧ (∀ y0 y1 y2 y3, LeO (peristyleref15_Spans.l1 k y0 y1 y2 y3) (peristyleref15_Spans.l1 (k + 1) y0 y1 y2 y3))
 | 0 => ⟨fun _ _ _ r h => by simp [peristyleref15_Spans.l0] at h, fun _ _ _ _ r h => by simp [peristyleref15_Spans.l1] at h⟩
 | k + 1 => by
  obtain ⟨ih0, ih1⟩ := peristyleref15_Spans.mono_l k
  refine ⟨?_, ?_⟩
  ·intro y0 y1 y2
   unfold peristyleref15_Spans.l0
   repeat' first
   | (with_reducible exact ih0 _ _ _)
   | (with_reducible exact ih1 _ _ _ _)
   | (with_reducible exact peristyleref14_Spans.mono _ _)
   | (with_reducible exact LeO.refl _)
   | (with_reducible exact LeO.none _)
   | (with_reducible refine LeO.ite ?_ ?_)
   | (with_reducible refine LeO.bind ?_ (fun _ => ?_))
   | exact ih0 _ _ _
   | exact ih1 _ _ _ _
   | exact peristyleref14_Spans.mono _ _
   | exact LeO.none _
   | refine LeO.ite ?_ ?_
   | refine LeO.bind ?_ (fun _ => ?_)
  ·intro y0 y1 y2 y3
   unfold peristyleref15_Spans.l1
   repeat' first
   | (with_reducible exact ih0 _ _ _)
   | (with_reducible exact ih1 _ _ _ _)
   | (with_reducible exact peristyleref14_Spans.mono _ _)
   | (with_reducible exact LeO.refl _)
   | (with_reducible exact LeO.none _)
   | (with_reducible refine LeO.ite ?_ ?_)
   | (with_reducible refine LeO.bind ?_ (fun _ => ?_))
   | exact ih0 _ _ _
   | exact ih1 _ _ _ _
   | exact peristyleref14_Spans.mono _ _
   | exact LeO.none _
   | refine LeO.ite ?_ ?_
   | refine LeO.bind ?_ (fun _ => ?_)
theorem peristyleref15_Spans.mono : ∀ a0 k, LeO (peristyleref15_Spans.f k a0) (peristyleref15_Spans.f (k + 1) a0) := by
 intro a0 k
 obtain ⟨ih0, ih1⟩ := peristyleref15_Spans.mono_l k
 unfold peristyleref15_Spans.f
 repeat' first
   | (with_reducible exact ih0 _ _ _)
   | (with_reducible exact ih1 _ _ _ _)
   | (with_reducible exact peristyleref14_Spans.mono _ _)
   | (with_reducible exact LeO.refl _)
   | (with_reducible exact LeO.none _)
   | (with_reducible refine LeO.ite ?_ ?_)
   | (with_reducible refine LeO.bind ?_ (fun _ => ?_))
   | exact ih0 _ _ _
   | exact ih1 _ _ _ _
   | exact peristyleref14_Spans.mono _ _
   | exact LeO.none _
   | refine LeO.ite ?_ ?_
   | refine LeO.bind ?_ (fun _ => ?_)
set_option maxHeartbeats 8000000 in
set_option maxRecDepth 100000 in
theorem peristyleref15_Spans.calls (k : Nat) (A0 : Option Addr) (c0 : Nat) (l0 : List Int) (r1 : List (S48)) (r2 : Int) (w : World) (hr0 : Kd.C (Kd.int .i64) w A0 l0.length l0) (hc0 : l0.length ≤ c0) (h : peristyleref15_Spans.f k l0 = some (r1, r2)) :
  Calls Try.prog 22 #[.slice A0 l0.length c0] w fun e w' => ∃ v0_ : Value, e = .returned (.tuple #[v0_, .int .i64 r2]) ∧ Kd.R k48 48 w' w.heap.size (fun _ => True) v0_ r1 ∧ Below w.heap.size w w' := by
 have HR0 := Aside0.mk hr0
 have HC0 := Aside0.mk hc0
 clear hr0 hc0
 have HB := Aside0.mk (Below.refl w.heap.size w)
 have H : ((peristyleref15_May.f l0).bind fun t219 => (if t219 = true then (if 0 ≤ (wrap64 (64 * (l0.length : Int))) then (if (wrap64 (64 * (l0.length : Int)) : Int).toNat ≤ 281474976710656 then (peristyleref15_Spans.l0 k l0 (List.replicate (wrap64 (64 * (l0.length : Int)) : Int).toNat false) 0) else (none)) else (none)) else (some (([] : List (S48)), 1)))) = some (r1, r2) := h
 clear h
 replace H := Option.bind_eq_some_iff.mp H
 obtain ⟨t219, A20, H⟩ := H
 replace H : (if t219 = true then (if 0 ≤ (wrap64 (64 * (l0.length : Int))) then (if (wrap64 (64 * (l0.length : Int)) : Int).toNat ≤ 281474976710656 then (peristyleref15_Spans.l0 k l0 (List.replicate (wrap64 (64 * (l0.length : Int)) : Int).toNat false) 0) else (none)) else (none)) else (some (([] : List (S48)), 1))) = some (r1, r2) := H
 have A2 := Aside0.mk A20
 clear A20
 by_cases c3 : t219 = true
 ·subst c3
  have H1 : (if 0 ≤ (wrap64 (64 * (l0.length : Int))) then (if (wrap64 (64 * (l0.length : Int)) : Int).toNat ≤ 281474976710656 then (peristyleref15_Spans.l0 k l0 (List.replicate (wrap64 (64 * (l0.length : Int)) : Int).toNat false) 0) else (none)) else (none)) = some (r1, r2) := by rw [if_pos rfl] at H; exact H
  clear H
  have H := H1
  clear H1
  obtain ⟨ji4, hji4⟩ : ∃ j_ : Int, (wrap64 (64 * (l0.length : Int))) = j_ := ⟨_, rfl⟩
  replace H : (if 0 ≤ (ji4) then (if (ji4 : Int).toNat ≤ 281474976710656 then (peristyleref15_Spans.l0 k l0 (List.replicate (ji4 : Int).toNat false) 0) else (none)) else (none)) = some (r1, r2) := by first | (rw [hji4] at H; exact H) | (simp only [hji4] at H ⊢; exact H)
  (try rw [hji4] at A2)
  have hji4w : (IntKind.i64.wrap (64 * (l0.length : Int))) = ji4 := (i64_w _).trans hji4
  by_cases c5 : 0 ≤ (ji4)
  ·rw [if_pos c5] at H
   have c5b0 := eq_true c5
   have c5b1 : decide (0 ≤ (ji4)) = true := decide_eq_true c5
   clear c5
   by_cases c6 : (ji4 : Int).toNat ≤ 281474976710656
   ·rw [if_pos c6] at H
    have c6b0 := eq_true c6
    have c6b1 : decide ((ji4 : Int).toNat ≤ 281474976710656) = true := decide_eq_true c6
    clear c6
    obtain ⟨y220, hy220⟩ : ∃ y_ : List Bool, y_ = (List.replicate (ji4 : Int).toNat false) := ⟨_, rfl⟩
    replace H : (peristyleref15_Spans.l0 k l0 y220 0) = some (r1, r2) := by first | (rw [hy220]; with_reducible exact H) | (have H2_ := (Option.bind_some _ _).symm.trans H; rw [hy220]; with_reducible exact H2_) | (have H2_ := (Option.bind_some _ _).symm.trans H; with_reducible exact H2_) | with_reducible exact H | (rw [hy220]; exact H) | exact H
    have Ny220 := Aside0.mk hy220
    clear hy220
    have H' := Aside0.mk H
    clear H
    go_enter Try.func22, Try.ntmps22
    go_wp2_with (first | ((with_reducible refine gate_callee (f := 20) rfl ?_); refine goesL_ (some 8) rfl rfl Try.func20 (by kernel_rfl) rfl #[.slice A0 l0.length c0] rfl (by (try simp only [List.map_toArray, List.map_cons, List.map_nil]); first | done | rfl) ?_; (with_reducible refine (peristyleref15_May.calls _ _ l0 true _ ?side1 ?side2 A2.out).mono ?_); (case side1 => repeat (first | exact HR0.out | (with_reducible refine Kd.C_alloc ?_ _) | (with_reducible refine Kd.C_drewN ?_ _) | (with_reducible refine Kd.C_drew ?_))); (case side2 => exact HC0.out); rintro e w' ⟨rfl, ⟨nd, rfl⟩⟩; refine ⟨_, rfl, ?_⟩) | ((with_reducible refine gate_dst (N := 13) rfl ?_); refine Kd.R_make Kd.bool _ 4 rfl (N := 13) rfl 51 _ _ rfl ji4 (by first | rfl | exact congrArg (Value.int .i64) hji4_ | (refine congrArg (Value.int .i64) ?_; have hq_ := hji4_; split at hq_ <;> split <;> omega)) (by first | rfl | exact congrArg (Value.int .i64) hji4_ | (refine congrArg (Value.int .i64) ?_; have hq_ := hji4_; split at hq_ <;> split <;> omega)) Try.underlying51 (.bool false) 1 info4 rfl (by decide) (by omega) false (ok := fun _ => True) (okp := fun _ => True) rfl (fun _ hk => hk) trivial (of_decide_eq_true (by assumption)) (Nat.le_trans (Nat.mul_le_mul_right _ (of_decide_eq_true (by assumption) : ji4.toNat ≤ 281474976710656)) (by omega)) (Below.refl _ _) (Nat.le_refl _) ?_; intro v221 w7 ho8 hb hg_ hnew_; clear hg_ hnew_; (first | rw [← Ny220.out] at ho8 | (simp only [Int.reduceToNat] at ho8; rw [← Ny220.out] at ho8)); have n0_ := Aside0.mk (Kd.R_lower ho8 (below_size (by repeat (first | exact HB.out | apply below_alloc | apply pw_below_drewN | apply below_drew1)))); have n1_ := Aside0.mk (below_step (by repeat (first | exact HB.out | apply below_alloc | apply pw_below_drewN | apply below_drew1)) hb); clear HB; have HO222 := n0_; have HB := n1_; clear n0_ n1_; clear hb ho8))
    go_loopg [5] k (fun kq v5 w' => ∃ (x4_1 : List Bool) (x5_1 : Int), v5 = .int .i64 x5_1 ∧ Aside0 (peristyleref15_Spans.l0 kq l0 x4_1 x5_1 = some (r1, r2)) ∧ Aside0 (kq ≤ k) ∧ Aside0 (Kd.R Kd.bool 4 w' w.heap.size (fun _ => True) v221 x4_1) ∧ Aside0 (Below w.heap.size w w'))
    case atStart => exact ⟨(y220), (0), (by first | rfl | (simp; done) | (simp [*]; done)), H', ⟨Nat.le_refl _⟩, ⟨by (with_reducible repeat (first | apply Kd.R_alloc | apply Kd.R_drewN | apply Kd.R_drew)); exact HO222.out⟩, ⟨by repeat (first | (with_reducible first | exact HB.out | apply below_alloc | apply pw_below_drewN | apply below_drew1) | exact HB.out)⟩⟩
    case round =>
     clear H'
     try clear c2
     try clear p2
     try clear c3
     try clear c5
     try clear c5b0
     try clear c5b1
     try clear c6
     try clear c6b0
     try clear c6b1
     try clear p6
     obtain ⟨x4_1, x5_1, rfl, HA, HK1, HO_4, HB⟩ := hrel
     cases gk with
     | zero => exact absurd HA.out (by simp [peristyleref15_Spans.l0])
     | succ k1 =>
      have H := HA.out
      clear HA
      simp only [peristyleref15_Spans.l0] at H
      by_cases c9 : x5_1 < (l0.length : Int)
      ·rw [if_pos c9] at H
       have c9b0 : decide (x5_1 < (l0.length : Int)) = true := decide_eq_true c9
       clear c9
       have H' := Aside0.mk H
       clear H
       go_wp2
       go_loopg [6] k1 (fun kq v6 w' => ∃ (x4_2 : List Bool) (x6_2 : Int), v6 = .int .i64 x6_2 ∧ Aside0 (peristyleref15_Spans.l1 kq l0 x4_2 x5_1 x6_2 = some (r1, r2)) ∧ Aside0 (kq ≤ k1) ∧ Aside0 (Kd.R Kd.bool 4 w' w.heap.size (fun _ => True) v221 x4_2) ∧ Aside0 (Below w.heap.size w w'))
       case atStart => exact ⟨(x4_1), (0), (by first | rfl | (simp; done) | (simp [*]; done)), H', ⟨Nat.le_refl _⟩, ⟨by (with_reducible repeat (first | apply Kd.R_alloc | apply Kd.R_drewN | apply Kd.R_drew)); exact HO_4.out⟩, ⟨by repeat (first | (with_reducible first | exact HB.out | apply below_alloc | apply pw_below_drewN | apply below_drew1) | exact HB.out)⟩⟩
       case round =>
        clear H'
        try clear c2
        try clear p2
        try clear c3
        try clear c5
        try clear c5b0
        try clear c5b1
        try clear c6
        try clear c6b0
        try clear c6b1
        try clear p6
        try clear c9
        try clear c9b0
        try clear p2
        try clear p6
        obtain ⟨x4_2, x6_2, rfl, HA, HK2, HO_4, HB⟩ := hrel
        cases gk with
        | zero => exact absurd HA.out (by simp [peristyleref15_Spans.l1])
        | succ k2 =>
         have H := HA.out
         clear HA
         simp only [peristyleref15_Spans.l1] at H
         by_cases c10 : x6_2 < 64
         ·rw [if_pos c10] at H
          have c10b0 : decide (x6_2 < 64) = true := decide_eq_true c10
          clear c10
          by_cases c11 : 0 ≤ x5_1
          ·rw [if_pos c11] at H
           have c11b0 : decide (0 ≤ x5_1) = true := decide_eq_true c11
           clear c11
           by_cases c12 : x5_1 < (l0.length : Int)
           ·rw [if_pos c12] at H
            have c12b0 : decide (x5_1 < (l0.length : Int)) = true := decide_eq_true c12
            clear c12
            by_cases c13 : 0 ≤ x6_2
            ·rw [if_pos c13] at H
             have c13b0 := eq_true c13
             have c13b1 : decide (0 ≤ x6_2) = true := decide_eq_true c13
             clear c13
             obtain ⟨ji14, hji14⟩ : ∃ j_ : Int, (shr .i64 (rd l0 x5_1) x6_2) = j_ := ⟨_, rfl⟩
             replace H : (if 0 ≤ (wrap64 ((wrap64 (64 * x5_1)) + x6_2)) then (if (wrap64 ((wrap64 (64 * x5_1)) + x6_2)) < (x4_2.length : Int) then (peristyleref15_Spans.l1 k2 l0 (x4_2.set ((wrap64 ((wrap64 (64 * x5_1)) + x6_2)) : Int).toNat ((Go.bits .and .i64 (ji14) 1) == 1)) x5_1 (wrap64 (x6_2 + 1))) else (none)) else (none)) = some (r1, r2) := by first | (rw [hji14] at H; exact H) | (simp only [hji14] at H ⊢; exact H)
             have hji14_ : ((rd l0 x5_1) / 2 ^ min x6_2.toNat 64) = ji14 := hji14
             have hji14z : x6_2 ≤ 64 → ((rd l0 x5_1) / 2 ^ x6_2.toNat) = ji14 := shr_small hji14
             obtain ⟨ji15, hji15⟩ : ∃ j_ : Int, (wrap64 ((wrap64 (64 * x5_1)) + x6_2)) = j_ := ⟨_, rfl⟩
             replace H : (if 0 ≤ (ji15) then (if (ji15) < (x4_2.length : Int) then (peristyleref15_Spans.l1 k2 l0 (x4_2.set ((ji15) : Int).toNat ((Go.bits .and .i64 (ji14) 1) == 1)) x5_1 (wrap64 (x6_2 + 1))) else (none)) else (none)) = some (r1, r2) := by first | (rw [hji15] at H; exact H) | (simp only [hji15] at H ⊢; exact H)
             have hji15w : (IntKind.i64.wrap ((wrap64 (64 * x5_1)) + x6_2)) = ji15 := (i64_w _).trans hji15
             by_cases c16 : 0 ≤ (ji15)
             ·rw [if_pos c16] at H
              have c16b0 : decide (0 ≤ (ji15)) = true := decide_eq_true c16
              clear c16
              by_cases c17 : (ji15) < (x4_2.length : Int)
              ·rw [if_pos c17] at H
               have c17b0 : decide ((ji15) < (x4_2.length : Int)) = true := decide_eq_true c17
               clear c17
               obtain ⟨y227, hy227⟩ : ∃ y_ : List Bool, y_ = (x4_2.set ((ji15) : Int).toNat ((Go.bits .and .i64 (ji14) 1) == 1)) := ⟨_, rfl⟩
               replace H : (peristyleref15_Spans.l1 k2 l0 y227 x5_1 (wrap64 (x6_2 + 1))) = some (r1, r2) := by first | (rw [hy227]; with_reducible exact H) | (have H2_ := (Option.bind_some _ _).symm.trans H; rw [hy227]; with_reducible exact H2_) | (have H2_ := (Option.bind_some _ _).symm.trans H; with_reducible exact H2_) | with_reducible exact H | (rw [hy227]; exact H) | exact H
               have Ny227 := Aside0.mk hy227
               clear hy227
               have H' := Aside0.mk H
               clear H
               have p226 : 0 ≤ (x5_1 : Int) := of_decide_eq_true (by assumption)
               have q226 : x5_1 < (l0.length : Int) := of_decide_eq_true (by assumption)
               obtain ⟨ad226, e226, hx226_0⟩ := Kd.at_int HR0.out x5_1 p226 q226
               cases e226
               replace hx226_0 := (HB.out.cell (World.block_lt_of_cell? w _ hx226_0)).trans hx226_0
               replace p226 := eq_true p226
               replace q226 := eq_true q226
               have p18 : 0 ≤ ((ji15) : Int) := of_decide_eq_true (by assumption)
               have q18 : ((ji15) : Int) < ((x4_2.length : Int) : Int) := of_decide_eq_true (by assumption)
               obtain ⟨go18, co18, eo18, gb18, gl18, cl18, HG18⟩ := Kd.R_form HO_4.out (by omega)
               (first | cases eo18 | (injection eo18 with ea_ en_ ec_; (first | subst ea_ | (injection ea_ with ea_; subst ea_)); subst ec_; clear en_))
               have GB18 := Aside0.mk gb18
               have GG18 := Aside0.mk HG18
               clear gb18 gl18 HG18
               obtain ⟨hx18_0, hf18_0⟩ := Kd.R_celln false HO_4.out ((ji15) : Int) p18 q18
               replace p18 := eq_true p18
               replace q18 := eq_true q18
               have HP19 := Kd.R_putg HO_4.out ((ji15) : Int) ((Go.bits .and .i64 (ji14) 1) == 1)
               go_wp2_with (first | ((with_reducible refine gate_store (t := 4) (p := 37) rfl ?_); refine store_event (t := 4) (p := 37) (v := ?vo_w20) (w1 := (wr.setCell ⟨go18, ((ji15) : Int).toNat, none⟩ (.bool ((Go.bits .and .i64 (ji14) 1) == 1)))) ?hg ?ho ?hn ?hr ?_; (case ho => rfl); (case hg => rfl); (case hn => rfl); (case hr => first | (go_simp; done) | (go_simp; rfl)); intro w20 hw; have hg : wr.grownBy w20 (some go18) := (by rw [hw]; exact HP19.2); have hp_ : Kd.R Kd.bool 4 w20 w.heap.size (fun _ => True) (.slice (some ⟨go18, 0, none⟩) x4_2.length co18) y227 := (by rw [hw, Ny227.out]; exact HP19.1); clear HP19; have n0_ := Aside0.mk (hp_); have n1_ := Aside0.mk ((by rw [hw]; exact below_set (HB.out) GB18.out : Below w.heap.size w w20)); clear HO_4; clear HB; have HO_4 := n0_; have HB := n1_; clear n0_ n1_; clear hg hw hp_))
               go_roundg k2
               case measure => have := HK1.out; have := HK2.out; omega
               case rel => exact ⟨(y227), (wrap64 (x6_2 + 1)), (by first | rfl | (simp; done) | (simp [*]; done)), (by first | exact H' | (simp only [hji4, hji14, hji15]; exact H')), ⟨by have := HK1.out; have := HK2.out; omega⟩, ⟨by (with_reducible repeat (first | apply Kd.R_alloc | apply Kd.R_drewN | apply Kd.R_drew)); exact HO_4.out⟩, ⟨by repeat (first | (with_reducible first | exact HB.out | apply below_alloc | apply pw_below_drewN | apply below_drew1) | exact HB.out)⟩⟩
              ·rw [if_neg c17] at H
               exact absurd H (by simp)
             ·rw [if_neg c16] at H
              exact absurd H (by simp)
            ·rw [if_neg c13] at H
             exact absurd H (by simp)
           ·rw [if_neg c12] at H
            exact absurd H (by simp)
          ·rw [if_neg c11] at H
           exact absurd H (by simp)
         ·rw [if_neg c10] at H
          have c10b0 : decide (x6_2 < 64) = false := decide_eq_false c10
          clear c10
          have H' := Aside0.mk H
          clear H
          go_wp2
          go_roundg k2
          case measure => have := HK1.out; have := HK2.out; omega
          case rel => exact ⟨(x4_2), (wrap64 (x5_1 + 1)), (by first | rfl | (simp; done) | (simp [*]; done)), (by first | exact H' | (simp only [hji4]; exact H')), ⟨by have := HK1.out; have := HK2.out; omega⟩, ⟨by (with_reducible repeat (first | apply Kd.R_alloc | apply Kd.R_drewN | apply Kd.R_drew)); exact HO_4.out⟩, ⟨by repeat (first | (with_reducible first | exact HB.out | apply below_alloc | apply pw_below_drewN | apply below_drew1) | exact HB.out)⟩⟩
      ·rw [if_neg c9] at H
       have c9b0 : decide (x5_1 < (l0.length : Int)) = false := decide_eq_false c9
       clear c9
       replace H := Option.bind_eq_some_iff.mp H
       obtain ⟨t223, A210, H⟩ := H
       replace H : (some (t223, 0)) = some (r1, r2) := H
       have A21 := Aside0.mk A210
       clear A210
       simp only [Option.some.injEq, Prod.mk.injEq] at H
       obtain ⟨rfl, rfl⟩ := H
       obtain ⟨Ao22, co22, eo22⟩ := Kd.R_slice HO_4.out
       subst eo22
       go_wp2_with (first | ((with_reducible refine gate_callee (f := 44) rfl ?_); refine goesL_ (some 39) rfl rfl Try.func44 (by kernel_rfl) rfl #[.slice Ao22 x4_1.length co22] rfl (by (try simp only [List.map_toArray, List.map_cons, List.map_nil]); first | done | rfl) ?_; (with_reducible refine (peristyleref14_Spans.calls k1 _ _ x4_1 t223 _ ?side1 ?side2 A21.out).mono ?_); (case side1 => repeat (first | exact (Kd.R_reads' HO_4.out).2.2 | (with_reducible refine Kd.C_alloc ?_ _) | (with_reducible refine Kd.C_drewN ?_ _) | (with_reducible refine Kd.C_drew ?_))); (case side2 => exact (Kd.R_reads' HO_4.out).2.1); rintro e w23 ⟨v224, rfl, ho0, hb⟩; refine ⟨_, rfl, ?_⟩; have n0_ := Aside0.mk (Kd.R_below (by (with_reducible repeat (first | apply Kd.R_alloc | apply Kd.R_drewN | apply Kd.R_drew)); exact HO_4.out) hb); have n1_ := Aside0.mk (Kd.R_lower ho0 (below_size (by repeat (first | exact HB.out | apply below_alloc | apply pw_below_drewN | apply below_drew1)))); have n2_ := Aside0.mk (below_step (by repeat (first | exact HB.out | apply below_alloc | apply pw_below_drewN | apply below_drew1)) hb); clear HO_4; clear HB; have HO_4 := n0_; have HO225 := n1_; have HB := n2_; clear n0_ n1_ n2_; (try clear hb); (try clear ho0)))
       go_ret2
       exact ⟨_, by first | rfl | (simp [errW_none, errW_some] <;> rfl) | (simp only [← hji4]; first | rfl | (simp [errW_none, errW_some] <;> rfl)) | (simp [*, errW_none, errW_some] <;> rfl), by (with_reducible repeat (first | apply Kd.R_alloc | apply Kd.R_drewN | apply Kd.R_drew)); exact HO225.out, by repeat (first | (with_reducible first | exact HB.out | apply below_alloc | apply pw_below_drewN | apply below_drew1) | exact HB.out)⟩
   ·rw [if_neg c6] at H
    exact absurd H (by simp)
  ·rw [if_neg c5] at H
   exact absurd H (by simp)
 ·replace c3 := Bool.eq_false_iff.mpr c3
  subst c3
  have H1 : (some (([] : List (S48)), 1)) = some (r1, r2) := by rw [if_neg (show ¬ (false = true) by decide)] at H; exact H
  clear H
  have H := H1
  clear H1
  simp only [Option.some.injEq, Prod.mk.injEq] at H
  obtain ⟨rfl, rfl⟩ := H
  go_enter Try.func22, Try.ntmps22
  go_wp2_with (first | ((with_reducible refine gate_callee (f := 20) rfl ?_); refine goesL_ (some 8) rfl rfl Try.func20 (by kernel_rfl) rfl #[.slice A0 l0.length c0] rfl (by (try simp only [List.map_toArray, List.map_cons, List.map_nil]); first | done | rfl) ?_; (with_reducible refine (peristyleref15_May.calls _ _ l0 false _ ?side1 ?side2 A2.out).mono ?_); (case side1 => repeat (first | exact HR0.out | (with_reducible refine Kd.C_alloc ?_ _) | (with_reducible refine Kd.C_drewN ?_ _) | (with_reducible refine Kd.C_drew ?_))); (case side2 => exact HC0.out); rintro e w' ⟨rfl, ⟨nd, rfl⟩⟩; refine ⟨_, rfl, ?_⟩))
  go_ret2
  exact ⟨_, by first | rfl | (simp [errW_none, errW_some] <;> rfl) | (simp [*, errW_none, errW_some] <;> rfl), by first | exact Kd.R_nil _ _ _ _ _ | exact Kd.N_nil _ _ _ _ _ | exact Kd.V_nil _ _ _ _ _ | exact Kd.Q_nil _ _ _ _ _ | exact Kd.S_nil _ _ _ _ _, by repeat (first | (with_reducible first | exact HB.out | apply below_alloc | apply pw_below_drewN | apply below_drew1) | exact HB.out)⟩

/-! ### peristyleref14_May: function 32 -/
def peristyleref14_May.l0 : Nat → List (S48) → Int → Option (Bool)
 | 0, _, _ => none
 | k + 1, x0, x3 => if x3 < (x0.length : Int) then (if 0 ≤ x3 then (if ((rd_T48 x0 x3).f0) < 0 then (some false) else (if ((rd_T48 x0 x3).f0) ≥ ((rd_T48 x0 x3).f1) then (some false) else (if ((rd_T48 x0 x3).f1) > 65536 then (some false) else (if x3 > 0 then (if 0 ≤ (wrap64 (x3 - 1)) then (if (wrap64 (x3 - 1)) < (x0.length : Int) then (if ((rd_T48 x0 x3).f0) ≤ ((rd_T48 x0 (wrap64 (x3 - 1))).f1) then (some false) else (peristyleref14_May.l0 k x0 (wrap64 (x3 + 1)))) else (none)) else (none)) else (peristyleref14_May.l0 k x0 (wrap64 (x3 + 1))))))) else (none)) else (some true)
def peristyleref14_May.f (k : Nat) (l0 : List (S48)) : Option (Bool) := peristyleref14_May.l0 k l0 0
theorem peristyleref14_May.l0_succ (k : Nat) (x0 : List (S48)) (x3 : Int) : peristyleref14_May.l0 (k + 1) x0 x3 = (if x3 < (x0.length : Int) then (if 0 ≤ x3 then (if ((rd_T48 x0 x3).f0) < 0 then (some false) else (if ((rd_T48 x0 x3).f0) ≥ ((rd_T48 x0 x3).f1) then (some false) else (if ((rd_T48 x0 x3).f1) > 65536 then (some false) else (if x3 > 0 then (if 0 ≤ (wrap64 (x3 - 1)) then (if (wrap64 (x3 - 1)) < (x0.length : Int) then (if ((rd_T48 x0 x3).f0) ≤ ((rd_T48 x0 (wrap64 (x3 - 1))).f1) then (some false) else (peristyleref14_May.l0 k x0 (wrap64 (x3 + 1)))) else (none)) else (none)) else (peristyleref14_May.l0 k x0 (wrap64 (x3 + 1))))))) else (none)) else (some true)) := by
 simp only [peristyleref14_May.l0]
theorem peristyleref14_May.mono_l : ∀ k, (∀ y0 y1, LeO (peristyleref14_May.l0 k y0 y1) (peristyleref14_May.l0 (k + 1) y0 y1))
 | 0 => fun _ _ r h => by simp [peristyleref14_May.l0] at h
 | k + 1 => by
  have ih0 := peristyleref14_May.mono_l k
  ·intro y0 y1
   unfold peristyleref14_May.l0
   repeat' first
   | (with_reducible exact ih0 _ _)
   | (with_reducible exact LeO.refl _)
   | (with_reducible exact LeO.none _)
   | (with_reducible refine LeO.ite ?_ ?_)
   | (with_reducible refine LeO.bind ?_ (fun _ => ?_))
   | exact ih0 _ _
   | exact LeO.none _
   | refine LeO.ite ?_ ?_
   | refine LeO.bind ?_ (fun _ => ?_)
theorem peristyleref14_May.mono : ∀ a0 k, LeO (peristyleref14_May.f k a0) (peristyleref14_May.f (k + 1) a0) := by
 intro a0 k
 have ih0 := peristyleref14_May.mono_l k
 unfold peristyleref14_May.f
 repeat' first
   | (with_reducible exact ih0 _ _)
   | (with_reducible exact LeO.refl _)
   | (with_reducible exact LeO.none _)
   | (with_reducible refine LeO.ite ?_ ?_)
   | (with_reducible refine LeO.bind ?_ (fun _ => ?_))
   | exact ih0 _ _
   | exact LeO.none _
   | refine LeO.ite ?_ ?_
   | refine LeO.bind ?_ (fun _ => ?_)
set_option maxHeartbeats 8000000 in
set_option maxRecDepth 100000 in
theorem peristyleref14_May.calls (k : Nat) (A0 : Option Addr) (c0 : Nat) (l0 : List (S48)) (r : Bool) (w : World) (hr0 : Kd.C k48 w A0 l0.length l0) (hc0 : l0.length ≤ c0) (h : peristyleref14_May.f k l0 = some r) :
  Calls Try.prog 32 #[.slice A0 l0.length c0] w fun e w' => e = .returned (.bool r) ∧ Drawn0 w w' := by
 have HR0 := Aside0.mk hr0
 have HC0 := Aside0.mk hc0
 clear hr0 hc0
 have H : (peristyleref14_May.l0 k l0 0) = some r := h
 clear h
 have H' := Aside0.mk H
 clear H
 go_enter Try.func32, Try.ntmps32
 go_wp2
 repeat (go_quiet (fail); try go_wp2)
 go_loopg [3] k (fun kq v3 w' => ∃ (x3_1 : Int), v3 = .int .i64 x3_1 ∧ Aside0 (peristyleref14_May.l0 kq l0 x3_1 = some r) ∧ Aside0 (kq ≤ k) ∧ Drawn0 w w')
 case atStart => exact ⟨(0), (by first | rfl | (simp; done) | (simp [*]; done)), H', ⟨Nat.le_refl _⟩, by repeat (first | exact Drawn0.refl _ | apply Drawn0.step)⟩
 case round =>
  clear H'
  obtain ⟨x3_1, rfl, HA, HK1, ⟨m1, rfl⟩⟩ := hrel
  cases gk with
  | zero => exact absurd HA.out (by simp [peristyleref14_May.l0])
  | succ k1 =>
   have H := HA.out
   clear HA
   simp only [peristyleref14_May.l0] at H
   by_cases c2 : x3_1 < (l0.length : Int)
   ·rw [if_pos c2] at H
    have c2b0 : decide (x3_1 < (l0.length : Int)) = true := decide_eq_true c2
    clear c2
    by_cases c3 : 0 ≤ x3_1
    ·rw [if_pos c3] at H
     have c3b0 : decide (0 ≤ x3_1) = true := decide_eq_true c3
     clear c3
     by_cases c4 : ((rd_T48 l0 x3_1).f0) < 0
     ·rw [if_pos c4] at H
      have c4b0 : decide (((rd_T48 l0 x3_1).f0) < 0) = true := decide_eq_true c4
      clear c4
      obtain rfl := Option.some.inj H
      have p228 : 0 ≤ (x3_1 : Int) := of_decide_eq_true (by assumption)
      have q228 : x3_1 < (l0.length : Int) := of_decide_eq_true (by assumption)
      obtain ⟨ad228, e228, hx228_0, hx228_1⟩ := at_T48 HR0.out x3_1 p228 q228
      cases e228
      replace p228 := eq_true p228
      replace q228 := eq_true q228
      go_wp2
      repeat (go_quiet (fail); try go_wp2)
      go_ret
      exact ⟨by first | rfl | (unfold wrap64; rfl) | (simp; done) | (simp [*]; done), by repeat (first | exact Drawn0.refl _ | apply Drawn0.step)⟩
     ·rw [if_neg c4] at H
      have c4b0 : decide (((rd_T48 l0 x3_1).f0) < 0) = false := decide_eq_false c4
      clear c4
      by_cases c5 : ((rd_T48 l0 x3_1).f0) ≥ ((rd_T48 l0 x3_1).f1)
      ·rw [if_pos c5] at H
       have c5b0 : decide (((rd_T48 l0 x3_1).f1) ≤ ((rd_T48 l0 x3_1).f0)) = true := decide_eq_true c5
       clear c5
       obtain rfl := Option.some.inj H
       have p228 : 0 ≤ (x3_1 : Int) := of_decide_eq_true (by assumption)
       have q228 : x3_1 < (l0.length : Int) := of_decide_eq_true (by assumption)
       obtain ⟨ad228, e228, hx228_0, hx228_1⟩ := at_T48 HR0.out x3_1 p228 q228
       cases e228
       replace p228 := eq_true p228
       replace q228 := eq_true q228
       have p229 : 0 ≤ (x3_1 : Int) := of_decide_eq_true (by assumption)
       have q229 : x3_1 < (l0.length : Int) := of_decide_eq_true (by assumption)
       obtain ⟨ad229, e229, hx229_0, hx229_1⟩ := at_T48 HR0.out x3_1 p229 q229
       obtain rfl : ad228 = ad229 := (by injection e229)
       replace p229 := eq_true p229
       replace q229 := eq_true q229
       have p230 : 0 ≤ (x3_1 : Int) := of_decide_eq_true (by assumption)
       have q230 : x3_1 < (l0.length : Int) := of_decide_eq_true (by assumption)
       obtain ⟨ad230, e230, hx230_0, hx230_1⟩ := at_T48 HR0.out x3_1 p230 q230
       obtain rfl : ad228 = ad230 := (by injection e230)
       replace p230 := eq_true p230
       replace q230 := eq_true q230
       go_wp2
       repeat (go_quiet (fail); try go_wp2)
       go_ret
       exact ⟨by first | rfl | (unfold wrap64; rfl) | (simp; done) | (simp [*]; done), by repeat (first | exact Drawn0.refl _ | apply Drawn0.step)⟩
      ·rw [if_neg c5] at H
       have c5b0 : decide (((rd_T48 l0 x3_1).f1) ≤ ((rd_T48 l0 x3_1).f0)) = false := decide_eq_false c5
       clear c5
       by_cases c6 : ((rd_T48 l0 x3_1).f1) > 65536
       ·rw [if_pos c6] at H
        have c6b0 : decide (65536 < ((rd_T48 l0 x3_1).f1)) = true := decide_eq_true c6
        clear c6
        obtain rfl := Option.some.inj H
        have p228 : 0 ≤ (x3_1 : Int) := of_decide_eq_true (by assumption)
        have q228 : x3_1 < (l0.length : Int) := of_decide_eq_true (by assumption)
        obtain ⟨ad228, e228, hx228_0, hx228_1⟩ := at_T48 HR0.out x3_1 p228 q228
        cases e228
        replace p228 := eq_true p228
        replace q228 := eq_true q228
        have p229 : 0 ≤ (x3_1 : Int) := of_decide_eq_true (by assumption)
        have q229 : x3_1 < (l0.length : Int) := of_decide_eq_true (by assumption)
        obtain ⟨ad229, e229, hx229_0, hx229_1⟩ := at_T48 HR0.out x3_1 p229 q229
        obtain rfl : ad228 = ad229 := (by injection e229)
        replace p229 := eq_true p229
        replace q229 := eq_true q229
        have p230 : 0 ≤ (x3_1 : Int) := of_decide_eq_true (by assumption)
        have q230 : x3_1 < (l0.length : Int) := of_decide_eq_true (by assumption)
        obtain ⟨ad230, e230, hx230_0, hx230_1⟩ := at_T48 HR0.out x3_1 p230 q230
        obtain rfl : ad228 = ad230 := (by injection e230)
        replace p230 := eq_true p230
        replace q230 := eq_true q230
        have p231 : 0 ≤ (x3_1 : Int) := of_decide_eq_true (by assumption)
        have q231 : x3_1 < (l0.length : Int) := of_decide_eq_true (by assumption)
        obtain ⟨ad231, e231, hx231_0, hx231_1⟩ := at_T48 HR0.out x3_1 p231 q231
        obtain rfl : ad228 = ad231 := (by injection e231)
        replace p231 := eq_true p231
        replace q231 := eq_true q231
        go_wp2
        repeat (go_quiet (fail); try go_wp2)
        go_ret
        exact ⟨by first | rfl | (unfold wrap64; rfl) | (simp; done) | (simp [*]; done), by repeat (first | exact Drawn0.refl _ | apply Drawn0.step)⟩
       ·rw [if_neg c6] at H
        have c6b0 : decide (65536 < ((rd_T48 l0 x3_1).f1)) = false := decide_eq_false c6
        clear c6
        by_cases c7 : x3_1 > 0
        ·rw [if_pos c7] at H
         have c7b0 : decide (0 < x3_1) = true := decide_eq_true c7
         clear c7
         obtain ⟨ji8, hji8⟩ : ∃ j_ : Int, (wrap64 (x3_1 - 1)) = j_ := ⟨_, rfl⟩
         replace H : (if 0 ≤ (ji8) then (if (ji8) < (l0.length : Int) then (if ((rd_T48 l0 x3_1).f0) ≤ ((rd_T48 l0 (ji8)).f1) then (some false) else (peristyleref14_May.l0 k1 l0 (wrap64 (x3_1 + 1)))) else (none)) else (none)) = some r := by first | (rw [hji8] at H; exact H) | (simp only [hji8] at H ⊢; exact H)
         have hji8w : (IntKind.i64.wrap (x3_1 - 1)) = ji8 := (i64_w _).trans hji8
         by_cases c9 : 0 ≤ (ji8)
         ·rw [if_pos c9] at H
          have c9b0 : decide (0 ≤ (ji8)) = true := decide_eq_true c9
          clear c9
          by_cases c10 : (ji8) < (l0.length : Int)
          ·rw [if_pos c10] at H
           have c10b0 : decide ((ji8) < (l0.length : Int)) = true := decide_eq_true c10
           clear c10
           by_cases c11 : ((rd_T48 l0 x3_1).f0) ≤ ((rd_T48 l0 (ji8)).f1)
           ·rw [if_pos c11] at H
            have c11b0 : decide (((rd_T48 l0 x3_1).f0) ≤ ((rd_T48 l0 (ji8)).f1)) = true := decide_eq_true c11
            clear c11
            obtain rfl := Option.some.inj H
            have p228 : 0 ≤ (x3_1 : Int) := of_decide_eq_true (by assumption)
            have q228 : x3_1 < (l0.length : Int) := of_decide_eq_true (by assumption)
            obtain ⟨ad228, e228, hx228_0, hx228_1⟩ := at_T48 HR0.out x3_1 p228 q228
            cases e228
            replace p228 := eq_true p228
            replace q228 := eq_true q228
            have p229 : 0 ≤ (x3_1 : Int) := of_decide_eq_true (by assumption)
            have q229 : x3_1 < (l0.length : Int) := of_decide_eq_true (by assumption)
            obtain ⟨ad229, e229, hx229_0, hx229_1⟩ := at_T48 HR0.out x3_1 p229 q229
            obtain rfl : ad228 = ad229 := (by injection e229)
            replace p229 := eq_true p229
            replace q229 := eq_true q229
            have p230 : 0 ≤ (x3_1 : Int) := of_decide_eq_true (by assumption)
            have q230 : x3_1 < (l0.length : Int) := of_decide_eq_true (by assumption)
            obtain ⟨ad230, e230, hx230_0, hx230_1⟩ := at_T48 HR0.out x3_1 p230 q230
            obtain rfl : ad228 = ad230 := (by injection e230)
            replace p230 := eq_true p230
            replace q230 := eq_true q230
            have p231 : 0 ≤ (x3_1 : Int) := of_decide_eq_true (by assumption)
            have q231 : x3_1 < (l0.length : Int) := of_decide_eq_true (by assumption)
            obtain ⟨ad231, e231, hx231_0, hx231_1⟩ := at_T48 HR0.out x3_1 p231 q231
            obtain rfl : ad228 = ad231 := (by injection e231)
            replace p231 := eq_true p231
            replace q231 := eq_true q231
            have p232 : 0 ≤ (x3_1 : Int) := of_decide_eq_true (by assumption)
            have q232 : x3_1 < (l0.length : Int) := of_decide_eq_true (by assumption)
            obtain ⟨ad232, e232, hx232_0, hx232_1⟩ := at_T48 HR0.out x3_1 p232 q232
            obtain rfl : ad228 = ad232 := (by injection e232)
            replace p232 := eq_true p232
            replace q232 := eq_true q232
            have p233 : 0 ≤ ((ji8) : Int) := of_decide_eq_true (by assumption)
            have q233 : (ji8) < (l0.length : Int) := of_decide_eq_true (by assumption)
            obtain ⟨ad233, e233, hx233_0, hx233_1⟩ := at_T48 HR0.out (ji8) p233 q233
            obtain rfl : ad228 = ad233 := (by injection e233)
            replace p233 := eq_true p233
            replace q233 := eq_true q233
            go_wp2
            repeat (go_quiet (fail); try go_wp2)
            go_ret
            exact ⟨by first | rfl | (unfold wrap64; rfl) | (simp; done) | (simp only [← hji8] <;> (first | rfl | simp)) | (simp [*]; done), by repeat (first | exact Drawn0.refl _ | apply Drawn0.step)⟩
           ·rw [if_neg c11] at H
            have c11b0 : decide (((rd_T48 l0 x3_1).f0) ≤ ((rd_T48 l0 (ji8)).f1)) = false := decide_eq_false c11
            clear c11
            have H' := Aside0.mk H
            clear H
            have p228 : 0 ≤ (x3_1 : Int) := of_decide_eq_true (by assumption)
            have q228 : x3_1 < (l0.length : Int) := of_decide_eq_true (by assumption)
            obtain ⟨ad228, e228, hx228_0, hx228_1⟩ := at_T48 HR0.out x3_1 p228 q228
            cases e228
            replace p228 := eq_true p228
            replace q228 := eq_true q228
            have p229 : 0 ≤ (x3_1 : Int) := of_decide_eq_true (by assumption)
            have q229 : x3_1 < (l0.length : Int) := of_decide_eq_true (by assumption)
            obtain ⟨ad229, e229, hx229_0, hx229_1⟩ := at_T48 HR0.out x3_1 p229 q229
            obtain rfl : ad228 = ad229 := (by injection e229)
            replace p229 := eq_true p229
            replace q229 := eq_true q229
            have p230 : 0 ≤ (x3_1 : Int) := of_decide_eq_true (by assumption)
            have q230 : x3_1 < (l0.length : Int) := of_decide_eq_true (by assumption)
            obtain ⟨ad230, e230, hx230_0, hx230_1⟩ := at_T48 HR0.out x3_1 p230 q230
            obtain rfl : ad228 = ad230 := (by injection e230)
            replace p230 := eq_true p230
            replace q230 := eq_true q230
            have p231 : 0 ≤ (x3_1 : Int) := of_decide_eq_true (by assumption)
            have q231 : x3_1 < (l0.length : Int) := of_decide_eq_true (by assumption)
            obtain ⟨ad231, e231, hx231_0, hx231_1⟩ := at_T48 HR0.out x3_1 p231 q231
            obtain rfl : ad228 = ad231 := (by injection e231)
            replace p231 := eq_true p231
            replace q231 := eq_true q231
            have p232 : 0 ≤ (x3_1 : Int) := of_decide_eq_true (by assumption)
            have q232 : x3_1 < (l0.length : Int) := of_decide_eq_true (by assumption)
            obtain ⟨ad232, e232, hx232_0, hx232_1⟩ := at_T48 HR0.out x3_1 p232 q232
            obtain rfl : ad228 = ad232 := (by injection e232)
            replace p232 := eq_true p232
            replace q232 := eq_true q232
            have p233 : 0 ≤ ((ji8) : Int) := of_decide_eq_true (by assumption)
            have q233 : (ji8) < (l0.length : Int) := of_decide_eq_true (by assumption)
            obtain ⟨ad233, e233, hx233_0, hx233_1⟩ := at_T48 HR0.out (ji8) p233 q233
            obtain rfl : ad228 = ad233 := (by injection e233)
            replace p233 := eq_true p233
            replace q233 := eq_true q233
            go_wp2
            repeat (go_quiet (fail); try go_wp2)
            go_roundg k1
            case measure => have := HK1.out; omega
            case rel => exact ⟨(wrap64 (x3_1 + 1)), (by first | rfl | (simp; done) | (simp [*]; done)), (by first | exact H' | (simp only [hji8]; exact H')), ⟨by have := HK1.out; omega⟩, by repeat (first | exact Drawn0.refl _ | apply Drawn0.step)⟩
          ·rw [if_neg c10] at H
           exact absurd H (by simp)
         ·rw [if_neg c9] at H
          exact absurd H (by simp)
        ·rw [if_neg c7] at H
         have c7b0 : decide (0 < x3_1) = false := decide_eq_false c7
         clear c7
         have H' := Aside0.mk H
         clear H
         have p228 : 0 ≤ (x3_1 : Int) := of_decide_eq_true (by assumption)
         have q228 : x3_1 < (l0.length : Int) := of_decide_eq_true (by assumption)
         obtain ⟨ad228, e228, hx228_0, hx228_1⟩ := at_T48 HR0.out x3_1 p228 q228
         cases e228
         replace p228 := eq_true p228
         replace q228 := eq_true q228
         have p229 : 0 ≤ (x3_1 : Int) := of_decide_eq_true (by assumption)
         have q229 : x3_1 < (l0.length : Int) := of_decide_eq_true (by assumption)
         obtain ⟨ad229, e229, hx229_0, hx229_1⟩ := at_T48 HR0.out x3_1 p229 q229
         obtain rfl : ad228 = ad229 := (by injection e229)
         replace p229 := eq_true p229
         replace q229 := eq_true q229
         have p230 : 0 ≤ (x3_1 : Int) := of_decide_eq_true (by assumption)
         have q230 : x3_1 < (l0.length : Int) := of_decide_eq_true (by assumption)
         obtain ⟨ad230, e230, hx230_0, hx230_1⟩ := at_T48 HR0.out x3_1 p230 q230
         obtain rfl : ad228 = ad230 := (by injection e230)
         replace p230 := eq_true p230
         replace q230 := eq_true q230
         have p231 : 0 ≤ (x3_1 : Int) := of_decide_eq_true (by assumption)
         have q231 : x3_1 < (l0.length : Int) := of_decide_eq_true (by assumption)
         obtain ⟨ad231, e231, hx231_0, hx231_1⟩ := at_T48 HR0.out x3_1 p231 q231
         obtain rfl : ad228 = ad231 := (by injection e231)
         replace p231 := eq_true p231
         replace q231 := eq_true q231
         go_wp2
         repeat (go_quiet (fail); try go_wp2)
         go_roundg k1
         case measure => have := HK1.out; omega
         case rel => exact ⟨(wrap64 (x3_1 + 1)), (by first | rfl | (simp; done) | (simp [*]; done)), H', ⟨by have := HK1.out; omega⟩, by repeat (first | exact Drawn0.refl _ | apply Drawn0.step)⟩
    ·rw [if_neg c3] at H
     exact absurd H (by simp)
   ·rw [if_neg c2] at H
    have c2b0 : decide (x3_1 < (l0.length : Int)) = false := decide_eq_false c2
    clear c2
    obtain rfl := Option.some.inj H
    go_wp2
    repeat (go_quiet (fail); try go_wp2)
    go_ret
    exact ⟨by first | rfl | (unfold wrap64; rfl) | (simp; done) | (simp [*]; done), by repeat (first | exact Drawn0.refl _ | apply Drawn0.step)⟩

end Go.Proofs.Ytgielanobeclnaa.Print
