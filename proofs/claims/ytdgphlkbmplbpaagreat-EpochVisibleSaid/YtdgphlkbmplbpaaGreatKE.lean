-- Functions and laws: texts of the session's own and of the kit's print program, joined; what nothing names is left out.
import Derived.Test.YtdgphlkbmplbpaaGreatKA
import Derived.Test.YtdgphlkbmplbpaaGreatKW
import Derived.Test.YtdgphlkbmplbpaaGreatKC
import Derived.Test.YtdgphlkbmplbpaaGreatKD
import Derived.Test.YtdgphlkbmplbpaaGreatKB
section
namespace Go.Proofs.YtdgphlkbmplbpaaGreat.Print
open Go.RowKit Go.Proofs.YtdgphlkbmplbpaaGreatW.PrintWords Go.Proofs.YtdgphlkbmplbpaaGreatW.PrintLast Go.Proofs.YtdgphlkbmplbpaaGreatW.PrintMore
attribute [local go_sem] max2_int min2_int max_two min_two max_three min_three max_four min_four   -- for this text's walks alone
set_option linter.unusedVariables false
set_option linter.unusedSimpArgs false
/-! ### peristyleref14_Spans: function 13 -/
def peristyleref14_Spans.l0 : Nat → List Bool → List (S70) → Int → Option ((List (S70)))
 | 0, _, _, _ => none
 | k + 1, x0, x3, x4 => if x4 < (x0.length : Int) then (if 0 ≤ x4 then (if rdOf false x0 x4 = true then (if x4 > 0 then (if 0 ≤ (wrap64 (x4 - 1)) then (if (wrap64 (x4 - 1)) < (x0.length : Int) then (if rdOf false x0 (wrap64 (x4 - 1)) = true then (if 0 ≤ (wrap64 ((x3.length : Int) - 1)) then (if (wrap64 ((x3.length : Int) - 1)) < (x3.length : Int) then (peristyleref14_Spans.l0 k x0 (x3.set ((wrap64 ((x3.length : Int) - 1)) : Int).toNat (⟨(rd_T70 x3 (wrap64 ((x3.length : Int) - 1))).f0, wrap64 (((rd_T70 x3 (wrap64 ((x3.length : Int) - 1))).f1) + 1)⟩ : S70)) (wrap64 (x4 + 1))) else (none)) else (none)) else (if x3.length < 8796093022208 then (peristyleref14_Spans.l0 k x0 (x3 ++ [(⟨x4, wrap64 (x4 + 1)⟩ : S70)]) (wrap64 (x4 + 1))) else (none))) else (none)) else (none)) else (if x3.length < 8796093022208 then (peristyleref14_Spans.l0 k x0 (x3 ++ [(⟨x4, wrap64 (x4 + 1)⟩ : S70)]) (wrap64 (x4 + 1))) else (none))) else (peristyleref14_Spans.l0 k x0 x3 (wrap64 (x4 + 1)))) else (none)) else (some x3)
def peristyleref14_Spans.f (k : Nat) (l0 : List Bool) : Option ((List (S70))) := peristyleref14_Spans.l0 k l0 ([] : List (S70)) 0
theorem peristyleref14_Spans.l0_succ (k) (a0) (a1) (a2) : type_of% (@peristyleref14_Spans.l0.eq_2 a0 a1 a2 k) := peristyleref14_Spans.l0.eq_2 a0 a1 a2 k
set_option maxHeartbeats 8000000 in
set_option maxRecDepth 100000 in
theorem peristyleref14_Spans.calls (k : Nat) (A0 : Option Addr) (c0 : Nat) (l0 : List Bool) (r : List (S70)) (w : World) (hr0 : Kd.C Kd.bool w A0 l0.length l0) (hc0 : l0.length ≤ c0) (h : peristyleref14_Spans.f k l0 = some r) :
  Calls Tryz.prog 13 #[.slice A0 l0.length c0] w fun e w' => ∃ v0_ : Value, e = .returned (v0_) ∧ Kd.R k70 70 w' w.heap.size (fun _ => True) v0_ r ∧ Below w.heap.size w w' := by
 have hu70 := Tryz.underlying70
 have HR0 := Aside0.mk hr0
 have HC0 := Aside0.mk hc0
 clear hr0 hc0
 have HB := Aside0.mk (Below.refl w.heap.size w)
 have H := h
 clear h
 unfold peristyleref14_Spans.f at H
 have H' := Aside0.mk H
 clear H
 go_enter Tryz.func13, Tryz.ntmps13
 go_wp2
 go_loopg [3, 4] k (fun kq v3 v4 w' => ∃ (x3_1 : List (S70)) (x4_1 : Int), v4 = .int .i64 x4_1 ∧ Aside0 (peristyleref14_Spans.l0 kq l0 x3_1 x4_1 = some r) ∧ Aside0 (kq ≤ k) ∧ Aside0 (Kd.R k70 70 w' w.heap.size (fun _ => True) v3 x3_1) ∧ Aside0 (Below w.heap.size w w'))
 case atStart => exact ⟨(([] : List (S70))), (0), (by rfl), H', ⟨Nat.le_refl _⟩, ⟨nl⟩, ⟨bh HB.out⟩⟩
 case round =>
  clear H'
  obtain ⟨x3_1, x4_1, rfl, HA, HK1, HO_3, HB⟩ := hrel
  cases gk with
  | zero => exact absurd HA.out (by simp [peristyleref14_Spans.l0])
  | succ k1 =>
   have H := HA.out
   clear HA
   simp only [peristyleref14_Spans.l0] at H
   replace H := ifd H
   rcases H with ⟨-, c2b0, H⟩ | ⟨-, c2b0, H⟩
   ·replace H := ifn H
    obtain ⟨-, c3b0, H⟩ := H
    obtain ⟨bq4, hbq4⟩ : ∃ b_ : Bool, b_ = (rdOf false l0 x4_1) := ⟨_, rfl⟩
    replace H : (if bq4 = true then (if x4_1 > 0 then (if 0 ≤ (wrap64 (x4_1 - 1)) then (if (wrap64 (x4_1 - 1)) < (l0.length : Int) then (if rdOf false l0 (wrap64 (x4_1 - 1)) = true then (if 0 ≤ (wrap64 ((x3_1.length : Int) - 1)) then (if (wrap64 ((x3_1.length : Int) - 1)) < (x3_1.length : Int) then (peristyleref14_Spans.l0 k1 l0 (x3_1.set ((wrap64 ((x3_1.length : Int) - 1)) : Int).toNat (⟨(rd_T70 x3_1 (wrap64 ((x3_1.length : Int) - 1))).f0, wrap64 (((rd_T70 x3_1 (wrap64 ((x3_1.length : Int) - 1))).f1) + 1)⟩ : S70)) (wrap64 (x4_1 + 1))) else (none)) else (none)) else (if x3_1.length < 8796093022208 then (peristyleref14_Spans.l0 k1 l0 (x3_1 ++ [(⟨x4_1, wrap64 (x4_1 + 1)⟩ : S70)]) (wrap64 (x4_1 + 1))) else (none))) else (none)) else (none)) else (if x3_1.length < 8796093022208 then (peristyleref14_Spans.l0 k1 l0 (x3_1 ++ [(⟨x4_1, wrap64 (x4_1 + 1)⟩ : S70)]) (wrap64 (x4_1 + 1))) else (none))) else (peristyleref14_Spans.l0 k1 l0 x3_1 (wrap64 (x4_1 + 1)))) = some r := by rw [← hbq4] at H; exact H
    have Nbq4 := Aside0.mk hbq4
    clear hbq4
    replace H := ifb H
    rcases H with ⟨rfl, H⟩ | ⟨rfl, H⟩
    ·replace H := ifd H
     rcases H with ⟨-, c6b0, H⟩ | ⟨-, c6b0, H⟩
     ·obtain ⟨ji7, hji7⟩ : ∃ j_ : Int, (wrap64 (x4_1 - 1)) = j_ := ⟨_, rfl⟩
      replace H : (if 0 ≤ (ji7) then (if (ji7) < (l0.length : Int) then (if rdOf false l0 (ji7) = true then (if 0 ≤ (wrap64 ((x3_1.length : Int) - 1)) then (if (wrap64 ((x3_1.length : Int) - 1)) < (x3_1.length : Int) then (peristyleref14_Spans.l0 k1 l0 (x3_1.set ((wrap64 ((x3_1.length : Int) - 1)) : Int).toNat (⟨(rd_T70 x3_1 (wrap64 ((x3_1.length : Int) - 1))).f0, wrap64 (((rd_T70 x3_1 (wrap64 ((x3_1.length : Int) - 1))).f1) + 1)⟩ : S70)) (wrap64 (x4_1 + 1))) else (none)) else (none)) else (if x3_1.length < 8796093022208 then (peristyleref14_Spans.l0 k1 l0 (x3_1 ++ [(⟨x4_1, wrap64 (x4_1 + 1)⟩ : S70)]) (wrap64 (x4_1 + 1))) else (none))) else (none)) else (none)) = some r := by (rw [hji7] at H; exact H)
      have hji7w : (IntKind.i64.wrap (x4_1 - 1)) = ji7 := (i64_w _).trans hji7
      replace H := ifn H
      obtain ⟨-, c8b0, H⟩ := H
      replace H := ifn H
      obtain ⟨-, c9b0, H⟩ := H
      obtain ⟨bq10, hbq10⟩ : ∃ b_ : Bool, b_ = (rdOf false l0 (ji7)) := ⟨_, rfl⟩
      replace H : (if bq10 = true then (if 0 ≤ (wrap64 ((x3_1.length : Int) - 1)) then (if (wrap64 ((x3_1.length : Int) - 1)) < (x3_1.length : Int) then (peristyleref14_Spans.l0 k1 l0 (x3_1.set ((wrap64 ((x3_1.length : Int) - 1)) : Int).toNat (⟨(rd_T70 x3_1 (wrap64 ((x3_1.length : Int) - 1))).f0, wrap64 (((rd_T70 x3_1 (wrap64 ((x3_1.length : Int) - 1))).f1) + 1)⟩ : S70)) (wrap64 (x4_1 + 1))) else (none)) else (none)) else (if x3_1.length < 8796093022208 then (peristyleref14_Spans.l0 k1 l0 (x3_1 ++ [(⟨x4_1, wrap64 (x4_1 + 1)⟩ : S70)]) (wrap64 (x4_1 + 1))) else (none))) = some r := by rw [← hbq10] at H; exact H
      have Nbq10 := Aside0.mk hbq10
      clear hbq10
      replace H := ifb H
      rcases H with ⟨rfl, H⟩ | ⟨rfl, H⟩
      ·obtain ⟨ji12, hji12⟩ : ∃ j_ : Int, (wrap64 ((x3_1.length : Int) - 1)) = j_ := ⟨_, rfl⟩
       replace H : (if 0 ≤ (ji12) then (if (ji12) < (x3_1.length : Int) then (peristyleref14_Spans.l0 k1 l0 (x3_1.set ((ji12) : Int).toNat (⟨(rd_T70 x3_1 (ji12)).f0, wrap64 (((rd_T70 x3_1 (ji12)).f1) + 1)⟩ : S70)) (wrap64 (x4_1 + 1))) else (none)) else (none)) = some r := by (rw [hji12] at H; exact H)
       have hji12w : (IntKind.i64.wrap ((x3_1.length : Int) - 1)) = ji12 := (i64_w _).trans hji12
       replace H := ifn H
       obtain ⟨-, c13b0, H⟩ := H
       replace H := ifn H
       obtain ⟨-, c14b0, H⟩ := H
       obtain ⟨y534, hy534⟩ : ∃ y_ : List (S70), y_ = (x3_1.set ((ji12) : Int).toNat (⟨(rd_T70 x3_1 (ji12)).f0, wrap64 (((rd_T70 x3_1 (ji12)).f1) + 1)⟩ : S70)) := ⟨_, rfl⟩
       replace H : (peristyleref14_Spans.l0 k1 l0 y534 (wrap64 (x4_1 + 1))) = some r := by (rw [hy534]; with_reducible exact H)
       have Ny534 := Aside0.mk hy534
       clear hy534
       have H' := Aside0.mk H
       clear H
       have p531 : 0 ≤ (x4_1 : Int) := ad
       have q531 : x4_1 < (l0.length : Int) := ad
       obtain ⟨ad531, e531, hx531_0⟩ := Kd.at_bool HR0.out x4_1 p531 q531
       (rw [← Nbq4.out] at hx531_0)
       cases e531
       replace hx531_0 := cb HB.out.cell hx531_0
       replace p531 := eq_true p531
       replace q531 := eq_true q531
       have p532 : 0 ≤ ((ji7) : Int) := ad
       have q532 : (ji7) < (l0.length : Int) := ad
       obtain ⟨ad532, e532, hx532_0⟩ := Kd.at_bool HR0.out (ji7) p532 q532
       (rw [← Nbq10.out] at hx532_0)
       obtain rfl : ad531 = ad532 := (by injection e532)
       replace hx532_0 := cb HB.out.cell hx532_0
       replace p532 := eq_true p532
       replace q532 := eq_true q532
       obtain ⟨Ao16, co16, eo16⟩ := Kd.R_slice HO_3.out
       subst eo16
       have p533 : 0 ≤ ((ji12) : Int) := ad
       have q533 : (ji12) < (x3_1.length : Int) := ad
       obtain ⟨ad533, e533, hx533_0, hx533_1⟩ := at_T70 (Kd.R_reads' HO_3.out).2.2 (ji12) p533 q533
       cases e533
       replace p533 := eq_true p533
       replace q533 := eq_true q533
       have p15 : 0 ≤ ((ji12) : Int) := ad
       have q15 : ((ji12) : Int) < ((x3_1.length : Int) : Int) := ad
       obtain ⟨go15, co15, eo15, gb15, gl15, cl15, HG15⟩ := Kd.R_form HO_3.out (by omega)
       (cases eo15)
       have GB15 := Aside0.mk gb15
       have GG15 := Aside0.mk HG15
       clear gb15 gl15 HG15
       (simp only [add_plain] at hx533_0)
       (simp only [add_plain] at hx533_1)
       obtain ⟨ce15, hcl15, hM15, hcc15, hfr15⟩ := Kd.R_elem HO_3.out z70 ((ji12) : Int) p15 q15
       obtain rfl := k70_openM hM15
       have hx15_0 : wr.cell? ⟨go15, ((ji12) : Int).toNat * 2, none⟩ = some (.int .i64 ((rd_T70 x3_1 (ji12)).f0)) := hcc15 0 _ rfl
       have hx15_1 : wr.cell? ⟨go15, ((ji12) : Int).toNat * 2 + 1, none⟩ = some (.int .i64 ((rd_T70 x3_1 (ji12)).f1)) := hcc15 1 _ rfl
       have hf15_0 : wr.frozen? ⟨go15, ((ji12) : Int).toNat * 2, none⟩ = false := hfr15 0
       have hf15_1 : wr.frozen? ⟨go15, ((ji12) : Int).toNat * 2 + 1, none⟩ = false := hfr15 1
       clear hcl15 hcc15 hfr15 hM15
       replace p15 := eq_true p15
       replace q15 := eq_true q15
       have HX17 := Aside0.mk (show Kd.R k70 70 wr w.heap.size (fun _ => True) (.slice (some ⟨go15, 0, none⟩) x3_1.length co16) x3_1 from (rx HO_3.out))
       obtain ⟨ce17, hcl17, hM17, hcc17, hfr17⟩ := Kd.R_elem HX17.out z70 ((ji12) : Int) (of_decide_eq_true (by assumption)) (by have h_ : ((ji12) : Int) < ((x3_1.length : Int) : Int) := of_decide_eq_true (by assumption); exact h_)
       obtain rfl := k70_openM hM17
       have HP17 := Kd.R_seg HX17.out ((ji12) : Int) (of_decide_eq_true (by assumption)) (by have h_ : ((ji12) : Int) < ((x3_1.length : Int) : Int) := of_decide_eq_true (by assumption); exact h_) (seg := [.int .i64 (wrap64 (((rd_T70 x3_1 (ji12)).f1) + 1))]) (j := 1) hcl17 hcc17 (show 2 ≤ 2 from by decide) (x' := (⟨(rd_T70 x3_1 (ji12)).f0, wrap64 (((rd_T70 x3_1 (ji12)).f1) + 1)⟩ : S70)) (k70_mkM _ _ _ (⟨(rd_T70 x3_1 (ji12)).f0, wrap64 (((rd_T70 x3_1 (ji12)).f1) + 1)⟩ : S70) ) (fun _ hk => hk)
       have hx17_1 := hcc17 1 _ rfl
       (simp only [show (k70).sz = 2 from rfl, Nat.mul_one, Nat.add_zero] at hx17_1)
       have hf17_1 := hfr17 1
       (simp only [show (k70).sz = 2 from rfl, Nat.mul_one, Nat.add_zero] at hf17_1)
       clear hcl17 hcc17 hfr17 hM17
       go_wp2_with (((with_reducible refine gate_store (t := 3) (p := 34) rfl ?_); refine stE 3 34 (wr.setCell ⟨go15, ((ji12) : Int).toNat * 2 + 1, none⟩ (.int .i64 (wrap64 (((rd_T70 x3_1 (ji12)).f1) + 1)))) ?_; intro w18 hw; have hg : wr.grownBy w18 (some go15) := (by rw [hw]; exact HP17.2); have hp_ : Kd.R k70 70 w18 w.heap.size (fun _ => True) (.slice (some ⟨go15, 0, none⟩) x3_1.length co16) y534 := (by rw [hw, Ny534.out]; exact HP17.1); clear HP17; replace HO_3 := Aside0.mk (hp_); replace HB := Aside0.mk ((by rw [hw]; exact below_set (HB.out) GB15.out : Below w.heap.size w w18)); clear hg hw hp_))
       go_roundg k1
       case measure => have := HK1.out; omega
       case rel => exact ⟨(y534), (wrap64 (x4_1 + 1)), (by rfl), (by exact H'), ⟨by have := HK1.out; omega⟩, ⟨by exact HO_3.out⟩, ⟨bh HB.out⟩⟩
      ·replace H := ifn H
       obtain ⟨c19, -, H⟩ := H
       have LMc19 := Aside0.mk c19
       clear c19
       obtain ⟨y535, hy535⟩ : ∃ y_ : List (S70), y_ = (x3_1 ++ [(⟨x4_1, wrap64 (x4_1 + 1)⟩ : S70)]) := ⟨_, rfl⟩
       replace H : (peristyleref14_Spans.l0 k1 l0 y535 (wrap64 (x4_1 + 1))) = some r := by (rw [hy535]; with_reducible exact H)
       have Ny535 := Aside0.mk hy535
       clear hy535
       have H' := Aside0.mk H
       clear H
       have p531 : 0 ≤ (x4_1 : Int) := ad
       have q531 : x4_1 < (l0.length : Int) := ad
       obtain ⟨ad531, e531, hx531_0⟩ := Kd.at_bool HR0.out x4_1 p531 q531
       (rw [← Nbq4.out] at hx531_0)
       cases e531
       replace hx531_0 := cb HB.out.cell hx531_0
       replace p531 := eq_true p531
       replace q531 := eq_true q531
       have p532 : 0 ≤ ((ji7) : Int) := ad
       have q532 : (ji7) < (l0.length : Int) := ad
       obtain ⟨ad532, e532, hx532_0⟩ := Kd.at_bool HR0.out (ji7) p532 q532
       (rw [← Nbq10.out] at hx532_0)
       obtain rfl : ad531 = ad532 := (by injection e532)
       replace hx532_0 := cb HB.out.cell hx532_0
       replace p532 := eq_true p532
       replace q532 := eq_true q532
       go_wp2_with (((with_reducible refine gate_builtin (b := .append) (xs := #[.tmp 35, .tmp 40]) rfl ?_); at_builtin; refine Kd.R_append k70 (w0 := w) w.heap.size rfl (.tmp 35) (.tmp 40) 26 70 (.agg #[(.int .i64 0), (.int .i64 0)]) 16 rfl Tryz.underlying26 info70 rfl (by decide) (by omega) u3 x3_1 (⟨x4_1, wrap64 (x4_1 + 1)⟩ : S70) [.int .i64 x4_1, .int .i64 (wrap64 (x4_1 + 1))] (fun _ => True) (fun _ => False) rfl rfl ?aP (fun _ hk => hk.elim) ?aF ?aO ?aB ?aS ?aL ?_; (case aP => exact k70_mkM _ _ _ (⟨x4_1, wrap64 (x4_1 + 1)⟩ : S70)); (case aB => exact (bh HB.out)); (case aF => exact (fun _ _ => trivial)); (case aO => exact (rx HO_3.out)); (case aS => exact (below_size (bh HB.out))); (case aL => have := LMc19.out; omega); intro v536 w20 ho hb hg hat; rw [← Ny535.out] at ho; have n0_ := Aside0.mk (hb); have n1_ := Aside0.mk (ho); clear HB HO_3; have HB := n0_; have HO537 := n1_; clear n0_ n1_ ho hb hg hat))
       go_roundg k1
       case measure => have := HK1.out; omega
       case rel => exact ⟨(y535), (wrap64 (x4_1 + 1)), (by rfl), (by exact H'), ⟨by have := HK1.out; omega⟩, ⟨by exact HO537.out⟩, ⟨bh HB.out⟩⟩
     ·replace H := ifn H
      obtain ⟨c21, -, H⟩ := H
      have LMc21 := Aside0.mk c21
      clear c21
      obtain ⟨y538, hy538⟩ : ∃ y_ : List (S70), y_ = (x3_1 ++ [(⟨x4_1, wrap64 (x4_1 + 1)⟩ : S70)]) := ⟨_, rfl⟩
      replace H : (peristyleref14_Spans.l0 k1 l0 y538 (wrap64 (x4_1 + 1))) = some r := by (rw [hy538]; with_reducible exact H)
      have Ny538 := Aside0.mk hy538
      clear hy538
      have H' := Aside0.mk H
      clear H
      have p531 : 0 ≤ (x4_1 : Int) := ad
      have q531 : x4_1 < (l0.length : Int) := ad
      obtain ⟨ad531, e531, hx531_0⟩ := Kd.at_bool HR0.out x4_1 p531 q531
      (rw [← Nbq4.out] at hx531_0)
      cases e531
      replace hx531_0 := cb HB.out.cell hx531_0
      replace p531 := eq_true p531
      replace q531 := eq_true q531
      go_wp2_with (((with_reducible refine gate_builtin (b := .append) (xs := #[.tmp 35, .tmp 40]) rfl ?_); at_builtin; refine Kd.R_append k70 (w0 := w) w.heap.size rfl (.tmp 35) (.tmp 40) 26 70 (.agg #[(.int .i64 0), (.int .i64 0)]) 16 rfl Tryz.underlying26 info70 rfl (by decide) (by omega) u3 x3_1 (⟨x4_1, wrap64 (x4_1 + 1)⟩ : S70) [.int .i64 x4_1, .int .i64 (wrap64 (x4_1 + 1))] (fun _ => True) (fun _ => False) rfl rfl ?aP (fun _ hk => hk.elim) ?aF ?aO ?aB ?aS ?aL ?_; (case aP => exact k70_mkM _ _ _ (⟨x4_1, wrap64 (x4_1 + 1)⟩ : S70)); (case aB => exact (bh HB.out)); (case aF => exact (fun _ _ => trivial)); (case aO => exact (rx HO_3.out)); (case aS => exact (below_size (bh HB.out))); (case aL => have := LMc21.out; omega); intro v539 w22 ho hb hg hat; rw [← Ny538.out] at ho; have n0_ := Aside0.mk (hb); have n1_ := Aside0.mk (ho); clear HB HO_3; have HB := n0_; have HO540 := n1_; clear n0_ n1_ ho hb hg hat))
      go_roundg k1
      case measure => have := HK1.out; omega
      case rel => exact ⟨(y538), (wrap64 (x4_1 + 1)), (by rfl), H', ⟨by have := HK1.out; omega⟩, ⟨by exact HO540.out⟩, ⟨bh HB.out⟩⟩
    ·have H' := Aside0.mk H
     clear H
     have p531 : 0 ≤ (x4_1 : Int) := ad
     have q531 : x4_1 < (l0.length : Int) := ad
     obtain ⟨ad531, e531, hx531_0⟩ := Kd.at_bool HR0.out x4_1 p531 q531
     (rw [← Nbq4.out] at hx531_0)
     cases e531
     replace hx531_0 := cb HB.out.cell hx531_0
     replace p531 := eq_true p531
     replace q531 := eq_true q531
     go_wp2
     go_roundg k1
     case measure => have := HK1.out; omega
     case rel => exact ⟨(x3_1), (wrap64 (x4_1 + 1)), (by rfl), H', ⟨by have := HK1.out; omega⟩, ⟨by exact HO_3.out⟩, ⟨bh HB.out⟩⟩
   ·obtain rfl := Option.some.inj H
    go_wp2
    go_ret
    exact ⟨_, er, by exact HO_3.out, bh HB.out⟩
/-! ### peristylelaw21_EpochVisible: function 3 -/
def peristylelaw21_EpochVisible.f (k : Nat) (l0 : List (S66)) (l1 : List (S68)) (a2 : Int) : Option (Bool) := (peristylelaw21_few.f k l0 l1).bind fun t541 => (if t541 = true then ((epoch_Visible.f k l0 l1 a2).bind fun bt543 => ((peristyleref21_Visible.f k l0 l1 a2).bind fun bt555 => (if bt543.2.2.2.2 = bt555.2 then ((poslist_List_Spans.f k bt543.1 bt543.2.1 bt543.2.2.1 bt543.2.2.2.1).bind fun t559 => ((peristyleref14_Spans.f k bt555.1).bind fun t562 => ((peristyleref14_Same.f k t559 t562).bind fun t565 => (if t565 = true then ((peristylelaw21_awake.f k).bind fun t566 => (some t566)) else (none))))) else (none)))) else ((peristylelaw21_awake.f k).bind fun t542 => (some t542)))
set_option maxHeartbeats 8000000 in
set_option maxRecDepth 100000 in
theorem peristylelaw21_EpochVisible.calls (k : Nat) (A0 : Option Addr) (c0 : Nat) (l0 : List (S66)) (A1 : Option Addr) (c1 : Nat) (l1 : List (S68)) (a2 : Int) (r : Bool) (w : World) (hr0 : Kd.C k66 w A0 l0.length l0) (hc0 : l0.length ≤ c0) (hr1 : Kd.C k68 w A1 l1.length l1) (hc1 : l1.length ≤ c1) (h : peristylelaw21_EpochVisible.f k l0 l1 a2 = some r) :
  Calls Tryz.prog 3 #[.slice A0 l0.length c0, .slice A1 l1.length c1, .int .i64 a2] w fun e w' => e = .returned (.bool r) ∧ Below w.heap.size w w' := by
 have hu29 := Tryz.underlying29
 have HR0 := Aside0.mk hr0
 have HC0 := Aside0.mk hc0
 clear hr0 hc0
 have HR1 := Aside0.mk hr1
 have HC1 := Aside0.mk hc1
 clear hr1 hc1
 have HB := Aside0.mk (Below.refl w.heap.size w)
 have H := h
 clear h
 unfold peristylelaw21_EpochVisible.f at H
 replace H := bd H
 obtain ⟨t541, A4, H⟩ := H
 replace H := ifb H
 rcases H with ⟨rfl, H⟩ | ⟨rfl, H⟩
 ·replace H := bd H
  obtain ⟨⟨t543, t544, t547, t550, t553⟩, A6, H⟩ := H
  dsimp only at H
  replace H := bd H
  obtain ⟨⟨t555, t556⟩, A7, H⟩ := H
  dsimp only at H
  replace H := ife H
  rcases H with ⟨-, c8b0, c8b1, H⟩ | ⟨-, -, -, ⟨⟩⟩
  replace H := bd H
  obtain ⟨t559, A9, H⟩ := H
  replace H := bd H
  obtain ⟨t562, A10, H⟩ := H
  replace H := bd H
  obtain ⟨t565, A11, H⟩ := H
  replace H := ifb H
  rcases H with ⟨rfl, H⟩ | ⟨-, ⟨⟩⟩
  replace H := bd H
  obtain ⟨t566, A13, H⟩ := H
  obtain rfl := Option.some.inj H
  go_enter Tryz.func3, Tryz.ntmps3
  go_wp2_with (first | ((with_reducible refine gate_callee (f := 7) rfl ?_); refine gL 13 Tryz.func7 #[.slice A0 l0.length c0, .slice A1 l1.length c1] ?_; (with_reducible refine (peristylelaw21_few.calls k _ _ l0 _ _ l1 true _ ?side1 ?side2 ?side3 ?side4 A4.out).mono ?_); (case side1 => exact cx HR0.out); (case side2 => exact HC0.out); (case side3 => exact cx HR1.out); (case side4 => exact HC1.out); rintro e w14 ⟨rfl, hb⟩; refine ⟨_, rfl, ?_⟩; replace HB := bsa HB hb; clear hb) | ((with_reducible refine gate_callee (f := 9) rfl ?_); refine gL 20 Tryz.func9 #[.slice A0 l0.length c0, .slice A1 l1.length c1, .int .i64 a2] ?_; (with_reducible refine (epoch_Visible.calls k _ _ l0 _ _ l1 a2 t543 t544 t547 t550 t553 _ ?side1 ?side2 ?side3 ?side4 A6.out).mono ?_); (case side1 => exact cx (Kd.C_below HR0.out HB.out)); (case side2 => exact HC0.out); (case side3 => exact cx (Kd.C_below HR1.out HB.out)); (case side4 => exact HC1.out); rintro e w15 ⟨v545, v548, v551, rfl, ho0, ho1, ho2, hb⟩; refine ⟨_, rfl, ?_⟩; have HO546 := Aside0.mk (Kd.R_lower ho0 (below_size (bh HB.out))); have HO549 := Aside0.mk (Kd.R_lower ho1 (below_size (bh HB.out))); have HO552 := Aside0.mk (Kd.R_lower ho2 (below_size (bh HB.out))); replace HB := bsa HB hb; clear hb ho0 ho1 ho2) | ((with_reducible refine gate_dst (N := 7) rfl ?_); refine box_event ?hg (N := 7) ?hd (cs := #[.int .i64 0, .slice none 0 0, .slice none 0 0, .slice none 0 0]) (t := 29) ?hr ?_; (case hd => rfl); (case hg => rfl); (case hr => (go_simp; done)); intro gb554 hg w16 hbox hb; replace HO546 := rba HO546 hb; replace HO549 := rba HO549 hb; replace HO552 := rba HO552 hb; have BK554 := Aside0.mk (hbox); have GW554 := bza HB hg; have GE554 := bza HB hg; replace HB := bsa HB hb; clear hb hbox hg; obtain ⟨hcz17_0, hcz17_1, hcz17_2, hcz17_3, hfz17_0, hfz17_1, hfz17_2, hfz17_3⟩ := b4 BK554; obtain ⟨Ao18, co18, eo18⟩ := Kd.R_slice HO546.out; subst eo18; obtain ⟨Ao19, co19, eo19⟩ := Kd.R_slice HO549.out; subst eo19; obtain ⟨Ao20, co20, eo20⟩ := Kd.R_slice HO552.out; subst eo20) | ((with_reducible refine gate_store (t := 29) (p := 7) rfl ?_); refine stE 29 7 ((((w16.setCell ⟨gb554, 0, none⟩ (.int .i64 t543)).setCell ⟨gb554, 1, none⟩ (.slice Ao18 t544.length co18)).setCell ⟨gb554, 2, none⟩ (.slice Ao19 t547.length co19)).setCell ⟨gb554, 3, none⟩ (.slice Ao20 t550.length co20)) ?_; intro w21 hw; replace HO546 := rsm (fun _ => True) HO546 hw (fun _ hk => trivial); replace HO549 := rst HO549 hw; replace HO552 := rst HO552 hw; replace BK554 := sps #[.int .i64 t543, .slice Ao18 t544.length co18, .slice Ao19 t547.length co19, .slice Ao20 t550.length co20] BK554 hw (.p (.p (.p (.p .nil)))); replace HB := bhw HB hw; clear hw) | ((with_reducible refine gate_callee (f := 10) rfl ?_); refine gL 27 Tryz.func10 #[.slice A0 l0.length c0, .slice A1 l1.length c1, .int .i64 a2] ?_; (with_reducible refine (peristyleref21_Visible.calls k _ _ l0 _ _ l1 a2 t555 t556 _ ?side1 ?side2 ?side3 ?side4 A7.out).mono ?_); (case side1 => exact cx (Kd.C_below HR0.out HB.out)); (case side2 => exact HC0.out); (case side3 => exact cx (Kd.C_below HR1.out HB.out)); (case side4 => exact HC1.out); rintro e w22 ⟨v557, rfl, ho0, hb⟩; refine ⟨_, rfl, ?_⟩; replace HO546 := rba HO546 hb; replace HO549 := rba HO549 hb; replace HO552 := rba HO552 hb; have HO558 := Aside0.mk (Kd.R_lower ho0 (below_size (bh HB.out))); replace BK554 := bba BK554 hb; replace HB := bsa HB hb; clear hb ho0; obtain ⟨hcz23_0, hcz23_1, hcz23_2, hcz23_3, hfz23_0, hfz23_1, hfz23_2, hfz23_3⟩ := b4 BK554) | (go_at_call 12; (with_reducible refine (poslist_List_Spans.calls k t543 _ _ t544 _ _ t547 _ _ t550 t559 _ ?side1 ?side2 ?side3 ?side4 ?side5 ?side6 A9.out).mono ?_); (case side1 => exact cx (Kd.R_reads' HO546.out).2.2); (case side2 => exact (Kd.R_reads' HO546.out).2.1); (case side3 => exact cx (Kd.R_reads' HO549.out).2.2); (case side4 => exact (Kd.R_reads' HO549.out).2.1); (case side5 => exact cx (Kd.R_reads' HO552.out).2.2); (case side6 => exact (Kd.R_reads' HO552.out).2.1); rintro e w24 ⟨v560, rfl, ho0, hb⟩; replace HO549 := rba HO549 hb; replace HO552 := rba HO552 hb; replace HO558 := rba HO558 hb; have HO561 := Aside0.mk (Kd.R_lower (Kd.R_new' ho0 (Kd.R_lt (rx HO546.out))) (below_size (bh HB.out))); replace HO546 := Aside0.mk (Kd.R_elder' (rx HO546.out) (Kd.R_base ho0) hb); replace BK554 := bba BK554 hb; replace HB := bsa HB hb; clear hb ho0 A9; obtain ⟨Ao25, co25, eo25⟩ := Kd.R_slice HO558.out; subst eo25) | (go_at_call 13; (with_reducible refine (peristyleref14_Spans.calls k _ _ t555 t562 _ ?side1 ?side2 A10.out).mono ?_); (case side1 => exact cx (Kd.R_reads' HO558.out).2.2); (case side2 => exact (Kd.R_reads' HO558.out).2.1); rintro e w26 ⟨v563, rfl, ho0, hb⟩; replace HO549 := rba HO549 hb; replace HO552 := rba HO552 hb; replace HO558 := rba HO558 hb; have HO564 := Aside0.mk (Kd.R_lower (Kd.R_new' (Kd.R_new' ho0 (Kd.R_lt (rx HO546.out))) (Kd.R_lt (rx HO561.out))) (below_size (bh HB.out))); replace HO546 := Aside0.mk (Kd.R_elder' (rx HO546.out) (Kd.R_base ho0) hb); replace HO561 := Aside0.mk (Kd.R_elder' (rx HO561.out) (Kd.R_base ho0) hb); replace BK554 := bba BK554 hb; replace HB := bsa HB hb; clear hb ho0 A10; obtain ⟨Ao27, co27, eo27⟩ := Kd.R_slice HO561.out; subst eo27; obtain ⟨Ao28, co28, eo28⟩ := Kd.R_slice HO564.out; subst eo28) | (go_at_call 11; (with_reducible refine (peristyleref14_Same.calls k _ _ t559 _ _ t562 true _ ?side1 ?side2 ?side3 ?side4 A11.out).mono ?_); (case side1 => exact cx (Kd.R_reads' HO561.out).2.2); (case side2 => exact (Kd.R_reads' HO561.out).2.1); (case side3 => exact cx (Kd.R_reads' HO564.out).2.2); (case side4 => exact (Kd.R_reads' HO564.out).2.1); rintro e w' ⟨rfl, ⟨nd, rfl⟩⟩; clear A11) | (go_at_call 8; (with_reducible refine (peristylelaw21_awake.calls k  t566 _ A13.out).mono ?_); rintro e w29 ⟨rfl, hb⟩; replace HO546 := rba HO546 hb; replace HO549 := rba HO549 hb; replace HO552 := rba HO552 hb; replace HO558 := rba HO558 hb; replace HO561 := rba HO561 hb; replace HO564 := rba HO564 hb; replace BK554 := bba BK554 hb; replace HB := bsa HB hb; clear hb A13))
  go_ret
  exact ⟨er, bh HB.out⟩
 ·replace H := bd H
  obtain ⟨t542, A30, H⟩ := H
  obtain rfl := Option.some.inj H
  go_enter Tryz.func3, Tryz.ntmps3
  go_wp2_with (first | ((with_reducible refine gate_callee (f := 7) rfl ?_); refine gL 13 Tryz.func7 #[.slice A0 l0.length c0, .slice A1 l1.length c1] ?_; (with_reducible refine (peristylelaw21_few.calls k _ _ l0 _ _ l1 false _ ?side1 ?side2 ?side3 ?side4 A4.out).mono ?_); (case side1 => exact cx HR0.out); (case side2 => exact HC0.out); (case side3 => exact cx HR1.out); (case side4 => exact HC1.out); rintro e w31 ⟨rfl, hb⟩; refine ⟨_, rfl, ?_⟩; replace HB := bsa HB hb; clear hb) | ((with_reducible refine gate_callee (f := 8) rfl ?_); refine gL 15 Tryz.func8 #[] ?_; (with_reducible refine (peristylelaw21_awake.calls k  t542 _ A30.out).mono ?_); rintro e w32 ⟨rfl, hb⟩; refine ⟨_, rfl, ?_⟩; replace HB := bsa HB hb; clear hb))
  go_ret
  exact ⟨er, bh HB.out⟩
def peristylelaw21_EpochVisible.Pure : Prop := ∀ (l0 : List (S66)) (l1 : List (S68)) (a2 : Int), (fun l : List (S66) => l.length ≤ maxLen ∧ l.length * 24 ≤ 140737488351232 ∧ ∀ x ∈ l, (fun x : S66 => (fun z : Int => (Lit.int .i64 z).wf = true) x.f0 ∧ (fun z : Int => (Lit.int .i64 z).wf = true) x.f1 ∧ (fun z : Int => (Lit.int .i64 z).wf = true) x.f2) x) l0 → (fun l : List (S68) => l.length ≤ maxLen ∧ l.length * 16 ≤ 140737488351232 ∧ ∀ x ∈ l, (fun x : S68 => (fun z : Int => (Lit.int .i64 z).wf = true) x.f0 ∧ (fun z : Int => (Lit.int .i64 z).wf = true) x.f1) x) l1 → (fun z : Int => (Lit.int .i64 z).wf = true) a2 → ∃ k, peristylelaw21_EpochVisible.f k l0 l1 a2 = some true
theorem peristylelaw21_EpochVisible.walk (P : peristylelaw21_EpochVisible.Pure) (A0 : Option Addr) (c0 : Nat) (l0 : List (S66)) (A1 : Option Addr) (c1 : Nat) (l1 : List (S68)) (a2 : Int) (w : World) (hr0 : Kd.C k66 w A0 l0.length l0) (hc0 : l0.length ≤ c0) (w0 : (fun l : List (S66) => l.length ≤ maxLen ∧ l.length * 24 ≤ 140737488351232 ∧ ∀ x ∈ l, (fun x : S66 => (fun z : Int => (Lit.int .i64 z).wf = true) x.f0 ∧ (fun z : Int => (Lit.int .i64 z).wf = true) x.f1 ∧ (fun z : Int => (Lit.int .i64 z).wf = true) x.f2) x) l0) (hr1 : Kd.C k68 w A1 l1.length l1) (hc1 : l1.length ≤ c1) (w1 : (fun l : List (S68) => l.length ≤ maxLen ∧ l.length * 16 ≤ 140737488351232 ∧ ∀ x ∈ l, (fun x : S68 => (fun z : Int => (Lit.int .i64 z).wf = true) x.f0 ∧ (fun z : Int => (Lit.int .i64 z).wf = true) x.f1) x) l1) (w2 : (fun z : Int => (Lit.int .i64 z).wf = true) a2) :
  Calls Tryz.prog 3 #[.slice A0 l0.length c0, .slice A1 l1.length c1, .int .i64 a2] w fun e w' => e = .returned (.bool true) ∧ Below w.heap.size w w' := by
 obtain ⟨k, h⟩ := P l0 l1 a2 w0 w1 w2
 refine (peristylelaw21_EpochVisible.calls k _ _ l0 _ _ l1 a2 true w hr0 hc0 hr1 hc1 h).mono ?_
 rintro e w' ⟨rfl, hd⟩
 exact ⟨rfl, hd⟩
/-! ### epoch_Put: function 23 (a contract of the session's own) -/
def epoch_Put.l0 : Nat → List S68 → Int → ByteArray → Int → Option ByteArray
  | 0, _, _, _, _ => none
  | k + 1, l0, last, s, i => if i < (l0.length : Int) then (if 0 ≤ i then ((vint_Put.f (wrap64 ((rd_T68 l0 i).f0 - last))).bind fun x => ((vint_Put.f (rd_T68 l0 i).f1).bind fun y => if s.size + (x.size + y.size) ≤ 100000000000000 then epoch_Put.l0 k l0 (rd_T68 l0 i).f0 (s ++ x ++ y) (wrap64 (i + 1)) else none)) else none) else some s
def epoch_Put.f (k : Nat) (l0 : List S68) : Option (ByteArray × Int) := (epoch_good.f k l0 4096).bind fun t => if t = true then ((vint_Put.f (l0.length : Int)).bind fun x => if x.size ≤ 100000000000000 then ((epoch_Put.l0 k l0 (-1) (ByteArray.empty ++ x) 0).bind fun s => some (s, 0)) else none) else some (ByteArray.empty, 1)
/-! ### peristyleref01_Of: function 115 (a contract of the session's own) -/
theorem peristyleref01_Of.size : (Tryz.prog.info? 155).map (·.size) = some 64 := by kernel_rfl
/-! ### peristyleref01_Word: function 116 (a contract of the session's own) -/
/-! ### peristyleref01_Zig: function 80 (a contract of the session's own) -/
def zigAt (l : List Bool) (k : Nat) : Bool := if k = 0 then bAt l 63 else (bAt l (k - 1) != bAt l 63)
def peristyleref01_Zig.f (a0 : Int) : Option (Int) := some (wordTo (fillTo (zigAt (bitsOf a0)) zB 64) 64)
/-! ### peristyleref01_Field: function 81 (a contract of the session's own) -/
def peristyleref01_Field.f (a0 a1 a2 : Int) : Option (Int) := some (wordTo (fillTo (fun k => bAt (bitsOf a0) (a1.toNat + k)) zB (fieldN a1 a2)) 64)
/-! ### peristyleref02_Put: function 48 -/
def peristyleref02_Put.l0 : Nat → Int → List Int → Option (ByteArray)
 | 0, _, _ => none
 | k + 1, x3, x4 => (peristyleref01_Field.f x3 0 7).bind fun t568 => ((peristyleref01_Field.f x3 7 64).bind fun t569 => (if t569 = 0 then (if x4.length < 140737488355328 then (some (strOfNums (x4 ++ [(t568) % 256]))) else (none)) else (if x4.length < 140737488355328 then (peristyleref02_Put.l0 k t569 (x4 ++ [(wrap64 (128 + t568)) % 256])) else (none))))
def peristyleref02_Put.f (k : Nat) (a0 : Int) : Option (ByteArray) := (peristyleref01_Zig.f a0).bind fun t567 => (peristyleref02_Put.l0 k t567 ([] : List Int))
end Go.Proofs.YtdgphlkbmplbpaaGreat.Print
end
section
namespace Go.Proofs.YtdgphlkbmplbpaaGreat.Print
open Go.RowKit Go.Proofs.YtdgphlkbmplbpaaGreatW.PrintWords Go.Proofs.YtdgphlkbmplbpaaGreatW.PrintLast Go.Proofs.YtdgphlkbmplbpaaGreatW.PrintMore
attribute [local go_sem] max2_int min2_int max_two min_two max_three min_three max_four min_four   -- for this text's walks alone
set_option linter.unusedVariables false
set_option linter.unusedSimpArgs false
/-! ### peristyleref21_Put: function 24 -/
def peristyleref21_Put.l0 : Nat → List (S68) → ByteArray → Int → Int → Option (ByteArray × Int)
 | 0, _, _, _, _ => none
 | k + 1, x0, x4, x5, x6 => if x6 < (x0.length : Int) then (if 0 ≤ x6 then ((peristyleref02_Put.f k (wrap64 (((rd_T68 x0 x6).f0) - x5))).bind fun t579 => (if x4.size + t579.size ≤ 9223372036854775807 then ((peristyleref02_Put.f k ((rd_T68 x0 x6).f1)).bind fun t581 => (if (x4 ++ t579).size + t581.size ≤ 9223372036854775807 then (peristyleref21_Put.l0 k x0 ((x4 ++ t579) ++ t581) ((rd_T68 x0 x6).f0) (wrap64 (x6 + 1))) else (none))) else (none))) else (none)) else (some (x4, 0))
def peristyleref21_Put.f (k : Nat) (l0 : List (S68)) : Option (ByteArray × Int) := (peristyleref21_MayMarks.f k l0).bind fun t576 => (if t576 = true then ((peristyleref02_Put.f k (l0.length : Int)).bind fun t577 => (peristyleref21_Put.l0 k l0 t577 (-1) 0)) else (some ((⟨#[]⟩ : ByteArray), 1)))
/-! ### bits_Zag: function 82 -/
def bits_Zag.f (a0 : Int) : Option (Int) := some (wrap64 (Go.bits .xor .u64 ((IntKind.u64.wrap (a0)) / 2) (IntKind.u64.wrap (-(Go.bits .and .u64 (IntKind.u64.wrap (a0)) 1)))))
/-! ### vint_Len: function 83 -/
def vint_Len.f (k : Nat) (a0 : Int) : Option (Int) := (bits_Zig.f a0).bind fun t583 => ((bits_Width.f k t583).bind fun t584 => (some (mx 1 (wrap64 (Int.tdiv (wrap64 ((wrap64 (t584 + 7)) - 1)) 7)))))
/-! ### vint_Take: function 49 -/
def vint_Take.l0 : Nat → ByteArray → Int → Int → Int → Option (Int × Int × Int)
 | 0, _, _, _, _ => none
 | k + 1, x0, x5, x11, x12 => if x12 < x11 then (if 0 ≤ x12 then (if x12 < (x0.size : Int) then (if 0 ≤ (wrap64 (7 * x12)) then (if (bt x0 x12) ≥ 128 then (vint_Take.l0 k x0 (Go.bits .or .u64 x5 (shl .u64 (IntKind.u64.wrap (Go.bits .andNot .u8 (bt x0 x12) 128)) (wrap64 (7 * x12)))) x11 (wrap64 (x12 + 1))) else ((bits_Zag.f (wrap64 (Go.bits .or .u64 x5 (shl .u64 (IntKind.u64.wrap (Go.bits .andNot .u8 (bt x0 x12) 128)) (wrap64 (7 * x12)))))).bind fun t585 => ((vint_Len.f k t585).bind fun t586 => (if t586 = (wrap64 (x12 + 1)) then (if x12 < 9 then (some (t585, wrap64 (x12 + 1), 0)) else (if (bt x0 x12) = 1 then (some (t585, wrap64 (x12 + 1), 0)) else (some (0, 0, 20)))) else (some (0, 0, 20)))))) else (none)) else (none)) else (none)) else (some (0, 0, 20))
def vint_Take.f (k : Nat) (a0 : ByteArray) : Option (Int × Int × Int) := vint_Take.l0 k a0 0 (mn (a0.size : Int) 10) 0
/-! ### peristyleref01_With: function 84 (a contract of the session's own) -/
def peristyleref01_With.f (a0 a1 a2 a3 : Int) : Option (Int) := some (wordTo (putTo (bitsOf a0) (bitsOf a3) a1.toNat (fieldN a1 a2)) 64)
/-! ### peristyleref01_Zag: function 85 (a contract of the session's own) -/
def zagAt (l : List Bool) (k : Nat) : Bool := bAt l (k + 1) != bAt l 0
def peristyleref01_Zag.f (a0 : Int) : Option (Int) := some (wordTo ((fillTo (zagAt (bitsOf a0)) zB 63).set 63 (bAt (bitsOf a0) 0)) 64)
end Go.Proofs.YtdgphlkbmplbpaaGreat.Print
end
section
namespace Go.Proofs.YtdgphlkbmplbpaaGreat.Print
open Go.RowKit Go.Proofs.YtdgphlkbmplbpaaGreatW.PrintWords Go.Proofs.YtdgphlkbmplbpaaGreatW.PrintLast Go.Proofs.YtdgphlkbmplbpaaGreatW.PrintMore
attribute [local go_sem] max2_int min2_int max_two min_two max_three min_three max_four min_four   -- for this text's walks alone
set_option linter.unusedVariables false
set_option linter.unusedSimpArgs false
/-! ### peristyleref02_Take: function 50 -/
mutual
def peristyleref02_Take.l0 : Nat → ByteArray → Int → Int → Option (Int × Int × Int)
 | 0, _, _, _ => none
 | k + 1, x0, x5, x6 => if x6 < (x0.size : Int) then (peristyleref02_Take.j1 k x0 x5 x6 (decide (x6 < 10))) else (peristyleref02_Take.j1 k x0 x5 x6 false)
def peristyleref02_Take.j1 : Nat → ByteArray → Int → Int → Bool → Option (Int × Int × Int)
 | 0, _, _, _, _ => none
 | k + 1, x0, x5, x6, x15 => if x15 = true then (if 0 ≤ x6 then (if x6 < (x0.size : Int) then ((peristyleref01_With.f x5 (wrap64 (7 * x6)) 7 (wrap64 (Go.bits .and .u8 (bt x0 x6) 127))).bind fun t595 => (if (bt x0 x6) < 128 then ((peristyleref01_Zag.f t595).bind fun t596 => ((peristyleref02_Put.f k t596).bind fun t597 => (if 0 ≤ (wrap64 (x6 + 1)) then (if (wrap64 (x6 + 1)) ≤ (x0.size : Int) then (if t597.toList = (x0.extract 0 ((wrap64 (x6 + 1)) : Int).toNat).toList then (some (t596, wrap64 (x6 + 1), 0)) else (some (0, 0, 20))) else (none)) else (none)))) else (peristyleref02_Take.l0 k x0 t595 (wrap64 (x6 + 1))))) else (none)) else (none)) else (some (0, 0, 20))
end
def peristyleref02_Take.f (k : Nat) (a0 : ByteArray) : Option (Int × Int × Int) := peristyleref02_Take.l0 k a0 0 0
/-! ### peristyleref21_Take: function 26 -/
mutual
def peristyleref21_Take.j0 : Nat → ByteArray → Int → Int → Bool → Option ((List (S68)) × Int × Int)
 | 0, _, _, _, _ => none
 | k + 1, x0, x5, x6, x32 => if x32 = true then (some (([] : List (S68)), 0, 20)) else (peristyleref21_Take.l0 k x0 x5 x6 ([] : List (S68)) (-1) 0)
def peristyleref21_Take.l0 : Nat → ByteArray → Int → Int → List (S68) → Int → Int → Option ((List (S68)) × Int × Int)
 | 0, _, _, _, _, _, _ => none
 | k + 1, x0, x5, x6, x8, x9, x10 => if x10 < x5 then (if 0 ≤ x6 then (if x6 ≤ (x0.size : Int) then ((peristyleref02_Take.f k (x0.extract (x6 : Int).toNat x0.size)).bind fun bt602 => (if bt602.2.2 = 0 then (if bt602.1 < 1 then (peristyleref21_Take.j2 k x0 x5 x6 x8 x9 x10 bt602.1 bt602.2.1 true) else (peristyleref21_Take.j2 k x0 x5 x6 x8 x9 x10 bt602.1 bt602.2.1 (decide (bt602.1 > 4096)))) else (peristyleref21_Take.j2 k x0 x5 x6 x8 x9 x10 bt602.1 bt602.2.1 true))) else (none)) else (none)) else ((peristyleref21_MayMarks.f k x8).bind fun t601 => (if t601 = true then (some (x8, x6, 0)) else (some (([] : List (S68)), 0, 20))))
def peristyleref21_Take.j2 : Nat → ByteArray → Int → Int → List (S68) → Int → Int → Int → Int → Bool → Option ((List (S68)) × Int × Int)
 | 0, _, _, _, _, _, _, _, _, _ => none
 | k + 1, x0, x5, x6, x8, x9, x10, x11, x12, x55 => if x55 = true then (some (([] : List (S68)), 0, 20)) else (if 0 ≤ (wrap64 (x6 + x12)) then (if (wrap64 (x6 + x12)) ≤ (x0.size : Int) then ((peristyleref02_Take.f k (x0.extract ((wrap64 (x6 + x12)) : Int).toNat x0.size)).bind fun bt605 => (if bt605.2.2 = 0 then (if x8.length < 8796093022208 then (peristyleref21_Take.l0 k x0 x5 (wrap64 ((wrap64 (x6 + x12)) + bt605.2.1)) (x8 ++ [(⟨wrap64 (x9 + x11), bt605.1⟩ : S68)]) (wrap64 (x9 + x11)) (wrap64 (x10 + 1))) else (none)) else (some (([] : List (S68)), 0, 20)))) else (none)) else (none))
end
def peristyleref21_Take.f (k : Nat) (a0 : ByteArray) : Option ((List (S68)) × Int × Int) := (peristyleref02_Take.f k a0).bind fun bt598 => (if bt598.2.2 = 0 then (if bt598.1 < 0 then (peristyleref21_Take.j0 k a0 bt598.1 bt598.2.1 true) else (peristyleref21_Take.j0 k a0 bt598.1 bt598.2.1 (decide (bt598.1 > 4096)))) else (peristyleref21_Take.j0 k a0 bt598.1 bt598.2.1 true))
end Go.Proofs.YtdgphlkbmplbpaaGreat.Print
end
