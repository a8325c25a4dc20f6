-- Functions and laws: texts of the session's own and of the kit's print program, joined; what nothing names is left out.
import Derived.Test.YtdgphlkbmplbpaaGreatVA
import Derived.Test.YtdgphlkbmplbpaaGreatVW
import Derived.Test.YtdgphlkbmplbpaaGreatVB
import Derived.Test.YtdgphlkbmplbpaaGreatVR
section
namespace Go.Proofs.YtdgphlkbmplbpaaGreat.Print
open Go.RowKit Go.Proofs.YtdgphlkbmplbpaaGreatW.PrintWords Go.Proofs.YtdgphlkbmplbpaaGreatW.PrintLast Go.Proofs.YtdgphlkbmplbpaaGreatW.PrintMore
attribute [local go_sem] max2_int min2_int max_two min_two max_three min_three max_four min_four   -- for this text's walks alone
set_option linter.unusedVariables false
set_option linter.unusedSimpArgs false
/-! ### span_parts_1: function 142 -/
mutual
def span_parts_1.l0 : Nat → Int → Int → Int → List (S70) → List (S70) → Option (List (S147))
 | 0, _, _, _, _, _ => none
 | k + 1, x16, x17, x18, x284000, x285000 => if x17 < (x284000.length : Int) then (span_parts_1.j1 k x16 x17 x18 true x284000 x285000) else (span_parts_1.j1 k x16 x17 x18 (decide (x18 < (x285000.length : Int))) x284000 x285000)
def span_parts_1.j1 : Nat → Int → Int → Int → Bool → List (S70) → List (S70) → Option (List (S147))
 | 0, _, _, _, _, _, _ => none
 | k + 1, x16, x17, x18, x29, x284000, x285000 => if x29 = true then (if x17 < (x284000.length : Int) then (if 0 ≤ x17 then ((span_edge.f ((rd_T70 x284000 x17).f0) ((rd_T70 x284000 x17).f1) x16).bind fun t288 => (span_parts_1.j2 k x16 x17 x18 x284000 x285000 x16 (mn 65536 t288) (decide (((rd_T70 x284000 x17).f0) ≤ x16)) false)) else (none)) else (span_parts_1.j2 k x16 x17 x18 x284000 x285000 x16 65536 false false)) else (some [])
def span_parts_1.j2 : Nat → Int → Int → Int → List (S70) → List (S70) → Int → Int → Bool → Bool → Option (List (S147))
 | 0, _, _, _, _, _, _, _, _, _ => none
 | k + 1, x16, x17, x18, x284000, x285000, x286000, x286001, x286002, x286003 => if x18 < (x285000.length : Int) then (if 0 ≤ x18 then ((span_edge.f ((rd_T70 x285000 x18).f0) ((rd_T70 x285000 x18).f1) x16).bind fun t291 => (span_parts_1.j3 k x17 x18 x284000 x285000 x286000 (mn x286001 t291) x286002 (decide (((rd_T70 x285000 x18).f0) ≤ x16)))) else (none)) else (span_parts_1.j3 k x17 x18 x284000 x285000 x286000 x286001 x286002 x286003)
def span_parts_1.j3 : Nat → Int → Int → List (S70) → List (S70) → Int → Int → Bool → Bool → Option (List (S147))
 | 0, _, _, _, _, _, _, _, _ => none
 | k + 1, x17, x18, x284000, x285000, x286000, x286001, x286002, x286003 => (if x17 < (x284000.length : Int) then (if 0 ≤ x17 then (span_parts_1.j4 k x286001 x17 x18 (decide (((rd_T70 x284000 x17).f1) ≤ x286001)) x284000 x285000) else (none)) else (span_parts_1.j4 k x286001 x17 x18 false x284000 x285000)).bind fun lr_ => (some ((⟨(⟨x286000, x286001⟩ : S70), x286002, x286003⟩ : S147) :: lr_))
def span_parts_1.j4 : Nat → Int → Int → Int → Bool → List (S70) → List (S70) → Option (List (S147))
 | 0, _, _, _, _, _, _ => none
 | k + 1, x16, x17, x18, x100, x284000, x285000 => if x100 = true then (span_parts_1.j5 k x16 (wrap64 (x17 + 1)) x18 x284000 x285000) else (span_parts_1.j5 k x16 x17 x18 x284000 x285000)
def span_parts_1.j5 : Nat → Int → Int → Int → List (S70) → List (S70) → Option (List (S147))
 | 0, _, _, _, _, _ => none
 | k + 1, x16, x17, x18, x284000, x285000 => if x18 < (x285000.length : Int) then (if 0 ≤ x18 then (span_parts_1.j6 k x16 x17 x18 (decide (((rd_T70 x285000 x18).f1) ≤ x16)) x284000 x285000) else (none)) else (span_parts_1.j6 k x16 x17 x18 false x284000 x285000)
def span_parts_1.j6 : Nat → Int → Int → Int → Bool → List (S70) → List (S70) → Option (List (S147))
 | 0, _, _, _, _, _, _ => none
 | k + 1, x16, x17, x18, x115, x284000, x285000 => if x115 = true then (span_parts_1.l0 k x16 x17 (wrap64 (x18 + 1)) x284000 x285000) else (span_parts_1.l0 k x16 x17 x18 x284000 x285000)
end
def span_parts_1.f (k : Nat) (l0 : List (S70)) (l1 : List (S70)) : Option (List (S147)) := span_parts_1.l0 k 0 0 0 l0 l1
theorem span_parts_1.l0_succ (k) (a0) (a1) (a2) (a3) (a4) : type_of% (@span_parts_1.l0.eq_2 a0 a1 a2 a3 a4 k) := span_parts_1.l0.eq_2 a0 a1 a2 a3 a4 k
theorem span_parts_1.j1_succ (k) (a0) (a1) (a2) (a3) (a4) (a5) : type_of% (@span_parts_1.j1.eq_2 a0 a1 a2 a3 a4 a5 k) := span_parts_1.j1.eq_2 a0 a1 a2 a3 a4 a5 k
theorem span_parts_1.j2_succ (k) (a0) (a1) (a2) (a3) (a4) (a5) (a6) (a7) (a8) : type_of% (@span_parts_1.j2.eq_2 a0 a1 a2 a3 a4 a5 a6 a7 a8 k) := span_parts_1.j2.eq_2 a0 a1 a2 a3 a4 a5 a6 a7 a8 k
theorem span_parts_1.j3_succ (k) (a0) (a1) (a2) (a3) (a4) (a5) (a6) (a7) : type_of% (@span_parts_1.j3.eq_2 a0 a1 a2 a3 a4 a5 a6 a7 k) := span_parts_1.j3.eq_2 a0 a1 a2 a3 a4 a5 a6 a7 k
theorem span_parts_1.j4_succ (k) (a0) (a1) (a2) (a3) (a4) (a5) : type_of% (@span_parts_1.j4.eq_2 a0 a1 a2 a3 a4 a5 k) := span_parts_1.j4.eq_2 a0 a1 a2 a3 a4 a5 k
theorem span_parts_1.j5_succ (k) (a0) (a1) (a2) (a3) (a4) : type_of% (@span_parts_1.j5.eq_2 a0 a1 a2 a3 a4 k) := span_parts_1.j5.eq_2 a0 a1 a2 a3 a4 k
theorem span_parts_1.j6_succ (k) (a0) (a1) (a2) (a3) (a4) (a5) : type_of% (@span_parts_1.j6.eq_2 a0 a1 a2 a3 a4 a5 k) := span_parts_1.j6.eq_2 a0 a1 a2 a3 a4 a5 k
def span_parts_1.T5 : Bool × List (List Nat × List Nat) := (true, [([], []), ([0], [0]), ([1], [1]), ([], []), ([], []), ([3, 4], [3, 4]), ([5], [5]), ([], []), ([6, 7], [6, 7]), ([2, 8], [2, 8]), ([0, 1, 2, 3, 4, 5, 6, 7, 8, 9], []), ([10, 0, 1, 2, 3, 4, 5, 6, 7, 8, 9], [10]), ([11, 9, 8, 0, 1, 2, 3, 4, 5, 6, 7, 8, 9], [9, 11])])
def span_parts_1.B5 : List Nat := [0, 1, 3, 0, 0, 24, 56, 0, 248, 511, 1023, 2047, 4095]
theorem span_parts_1.tab5 : rtab .any (opsOf Tryz.f142 5) = span_parts_1.T5 := by kernel_rfl
theorem span_parts_1.bits5 : waitsOk span_parts_1.T5.2 span_parts_1.B5 = true := by kernel_rfl
def span_parts_1.T8 : Bool × List (List Nat × List Nat) := (true, [([], []), ([0], [0]), ([1], [1]), ([], []), ([], []), ([3, 4], [3, 4]), ([5], [5]), ([], []), ([6, 7], [6, 7]), ([2, 8], [2, 8]), ([0, 1, 2, 3, 4, 5, 6, 7, 8, 9], []), ([10, 0, 1, 2, 3, 4, 5, 6, 7, 8, 9], [10]), ([11, 9, 8, 0, 1, 2, 3, 4, 5, 6, 7, 8, 9], [9, 11])])
def span_parts_1.B8 : List Nat := [0, 1, 3, 0, 0, 24, 56, 0, 248, 511, 1023, 2047, 4095]
theorem span_parts_1.tab8 : rtab .any (opsOf Tryz.f142 8) = span_parts_1.T8 := by kernel_rfl
theorem span_parts_1.bits8 : waitsOk span_parts_1.T8.2 span_parts_1.B8 = true := by kernel_rfl
set_option maxHeartbeats 8000000 in
set_option maxRecDepth 100000 in
theorem span_parts_1.iter (k : Nat) (A0 : Option Addr) (c0 : Nat) (l0 : List (S70)) (A1 : Option Addr) (c1 : Nat) (l1 : List (S70)) (xs : List (S147)) (w W0 : World) (gb283 gb284 : Nat) (hr0 : Kd.C k70 w A0 l0.length l0) (hc0 : l0.length ≤ c0) (hr1 : Kd.C k70 w A1 l1.length l1) (hc1 : l1.length ≤ c1) (hB0 : Below w.heap.size w W0) (hg0 : W0.heap[gb283]? = some (.cells #[.slice A0 l0.length c0] 26 (0, 0))) (hg1 : W0.heap[gb284]? = some (.cells #[.slice A1 l1.length c1] 26 (0, 0))) (he0 : w.heap.size ≤ gb283) (he1 : w.heap.size ≤ gb284) (hn0_1 : gb283 ≠ gb284) (h : span_parts_1.f k l0 l1 = some xs) :
  XR.Iter Tryz.prog (fun x : S147 => #[.agg #[.int .i64 x.f0.f0, .int .i64 x.f0.f1, .bool x.f1, .bool x.f2]]) w (fun k_ => k_ = gb283 ∨ k_ = gb284) 142 #[.pointer (some ⟨gb283, 0, none⟩), .pointer (some ⟨gb284, 0, none⟩)] xs W0 := by
 intro n_ l_ J_ Jx_ W_ hWs_ hWf_ hJs_ hJxs_ hJB_ hY_ h0_
 refine callsIn_wide.2 ?_
 have hu70 := Tryz.underlying70
 have hu147 := Tryz.underlying147
 have HR0 := Aside0.mk hr0
 have HC0 := Aside0.mk hc0
 clear hr0 hc0
 have HR1 := Aside0.mk hr1
 have HC1 := Aside0.mk hc1
 clear hr1 hc1
 have H : (span_parts_1.l0 k 0 0 0 l0 l1) = some xs := h
 clear h
 have H' := Aside0.mk H
 clear H
 have BK283 := Aside0.mk ((hWf_ _ (Array.getElem?_eq_some_iff.1 hg0).1 (.inl rfl)).trans hg0)
 have GE283 := Aside0.mk he0
 have GW283 := Aside0.mk he0
 have NB283_284 := Aside0.mk hn0_1
 have NB284_283 := Aside0.mk (Ne.symm hn0_1)
 have BK284 := Aside0.mk ((hWf_ _ (Array.getElem?_eq_some_iff.1 hg1).1 (.inr rfl)).trans hg1)
 have GE284 := Aside0.mk he1
 have GW284 := Aside0.mk he1
 have HB := Aside0.mk (XR.b2_refl (hJB_ _ _ _ h0_))
 obtain ⟨G_, HJ_⟩ : ∃ G', Aside0 (J_ G' [] W_) := ⟨_, ⟨h0_⟩⟩
 have HX_ := Aside0.mk (show xs = [] ++ xs from rfl)
 go_enter Tryz.func142, Tryz.ntmps142
 go_wp2
 go_loopg [4, 5, 6] k (fun kq v16 v17 v18 w' => ∃ (G_ : Nat → Prop) (pre_ r : List (S147)) (x16_1 : Int) (x17_1 : Int) (x18_1 : Int), v16 = .int .i64 x16_1 ∧ v17 = .int .i64 x17_1 ∧ v18 = .int .i64 x18_1 ∧ Aside0 (span_parts_1.l0 kq x16_1 x17_1 x18_1 l0 l1 = some r) ∧ Aside0 (xs = pre_ ++ r) ∧ Aside0 (J_ G_ pre_ w') ∧ Aside0 (kq ≤ k) ∧ Aside0 (w'.heap[gb283]? = some (.cells #[(.slice A0 l0.length c0)] 26 (0, 0))) ∧ Aside0 (w'.heap[gb284]? = some (.cells #[(.slice A1 l1.length c1)] 26 (0, 0))) ∧ Aside0 (Below w.heap.size w w'))
 case atStart => exact ⟨XR.grow G_ W_ _, [], xs, (0), (0), (0), (by rfl), (by rfl), (by rfl), H', ⟨HX_.out⟩, ⟨hJs_ _ _ _ _ HJ_.out (XR.B2.two (w := w) (by repeat ((with_reducible exact HB.out))))⟩, ⟨Nat.le_refl _⟩, ⟨bx BK283.out⟩, ⟨bx BK284.out⟩, ⟨XR.B2.one (w1 := W_) (by repeat ((with_reducible exact HB.out)))⟩⟩
 case round =>
  clear H'
  obtain ⟨G_, pre_, r, x16_1, x17_1, x18_1, rfl, rfl, rfl, HA, HX_, HJ_, HK1, BK283, BK284, HB⟩ := hrel
  have HB := Aside0.mk (XR.b2_refl HB.out)
  cases gk with
  | zero => exact absurd HA.out (by simp [span_parts_1.l0])
  | succ k1 =>
   have H := HA.out
   clear HA
   simp only [span_parts_1.l0] at H
   have HC5 := Aside0.mk H
   clear H
   go_upto_region 1 with (go_in)
   go_cut [17] (fun v29 wc => ∃ (kq : Nat) (x29_4 : Bool), v29 = .bool x29_4 ∧ Aside0 (span_parts_1.j1 kq x16_1 x17_1 x18_1 x29_4 l0 l1 = some r) ∧ Aside0 (kq ≤ k1) ∧ Aside0 (wc.heap[gb283]? = some (.cells #[(.slice A0 l0.length c0)] 26 (0, 0))) ∧ Aside0 (wc.heap[gb284]? = some (.cells #[(.slice A1 l1.length c1)] 26 (0, 0))) ∧ Aside0 (XR.B2 w wr wc))
   case first =>
    have H := HC5.out
    clear HC5
    replace H := ifd H
    rcases H with ⟨-, c6b0, H⟩ | ⟨-, c6b0, H⟩
    ·(skip)
     have H' := Aside0.mk H
     clear H
     have hnb7 := NB283_284.out
     have hnc7 := NB284_283.out
     obtain ⟨hcz8_0, hfz8_0⟩ := b1 BK283
     go_wp2
     go_meet
     case rel => exact ⟨_, (true), (by rfl), H', ⟨by have := HK1.out; omega⟩, ⟨bx BK283.out⟩, ⟨bx BK284.out⟩, ⟨by repeat ((with_reducible exact HB.out))⟩⟩
    ·(skip)
     have H' := Aside0.mk H
     clear H
     have hnb9 := NB283_284.out
     have hnc9 := NB284_283.out
     obtain ⟨hcz10_0, hfz10_0⟩ := b1 BK283
     obtain ⟨hcz11_0, hfz11_0⟩ := b1 BK284
     go_wp2
     go_meet
     case rel => exact ⟨_, (decide (x18_1 < (l1.length : Int))), (by rfl), H', ⟨by have := HK1.out; omega⟩, ⟨bx BK283.out⟩, ⟨bx BK284.out⟩, ⟨by repeat ((with_reducible exact HB.out))⟩⟩
   case rest =>
    clear HC5
    obtain ⟨kq, x29_4, rfl, HA, HJ4, BK283, BK284, HB⟩ := hcut
    cases kq with
    | zero => exact absurd HA.out (by simp [span_parts_1.j1])
    | succ kj4 =>
     have H := HA.out
     clear HA
     simp only [span_parts_1.j1] at H
     replace H := ifb H
     rcases H with ⟨rfl, H⟩ | ⟨rfl, H⟩
     ·have HC13 := Aside0.mk H
      clear H
      go_upto_if 24 with (first | ((with_reducible refine gate_dst (N := 7) rfl ?_); ((refine gate_guard (by rfl) ?_; dsimp only)); refine box_event ?hg (N := 7) ?hd (cs := #[.int .i64 0, .int .i64 0, .bool false, .bool false]) (t := 147) ?hr ?_; (case hd => rfl); (case hg => rfl); (case hr => (go_simp; done)); intro gb285 hg w14 hbox hb; have BK285 := Aside0.mk (hbox); have GW285 := Aside0.mk ((by rw [hg]; exact (XR.b2_size (by repeat ((with_reducible exact HB.out)))) : w.heap.size ≤ gb285 ∧ wr.heap.size ≤ gb285)); have GE285 := Aside0.mk ((by rw [hg]; exact (XR.b2_size (by repeat ((with_reducible exact HB.out)))) : w.heap.size ≤ gb285 ∧ wr.heap.size ≤ gb285)); replace HB := Aside0.mk (XR.b2_step (by repeat ((with_reducible exact HB.out))) hb); obtain ⟨NB283_285, NB285_283⟩ := bnm BK283 hg; replace BK283 := bba BK283 hb; obtain ⟨NB284_285, NB285_284⟩ := bnm BK284 hg; replace BK284 := bba BK284 hb; clear hb hbox hg; have hnb15 := NB285_283.out; have hnc15 := NB283_285.out; have hnb16 := NB285_284.out; have hnc16 := NB284_285.out; obtain ⟨hcz17_0, hcz17_1, hcz17_2, hcz17_3, hfz17_0, hfz17_1, hfz17_2, hfz17_3⟩ := b4 BK285) | ((with_reducible refine gate_store (t := 147) (p := 7) rfl ?_); refine stE 147 7 ((((w14.setCell ⟨gb285, 0, none⟩ (.int .i64 x16_1)).setCell ⟨gb285, 1, none⟩ (.int .i64 65536)).setCell ⟨gb285, 2, none⟩ (.bool false)).setCell ⟨gb285, 3, none⟩ (.bool false)) ?_; intro w18 hw; have n0_ : Aside0 (w18.heap[gb283]? = some (.cells #[.slice A0 l0.length c0] 26 (0, 0))) := ⟨(by rw [hw]; exact (bx BK283.out))⟩; have n1_ : Aside0 (w18.heap[gb284]? = some (.cells #[.slice A1 l1.length c1] 26 (0, 0))) := ⟨(by rw [hw]; exact (bx BK284.out))⟩; have n2_ := sps #[.int .i64 x16_1, .int .i64 65536, .bool false, .bool false] BK285 hw (.p (.p (.p (.p .nil)))); have n3_ : Aside0 (XR.B2 w wr w18) := ⟨(by rw [hw]; exact (by repeat ((with_reducible first | exact HB.out | refine XR.b2_set ?_ GE285.out))))⟩; clear hw BK283 BK284 BK285 HB; have BK283 := n0_; have BK284 := n1_; have BK285 := n2_; have HB := n3_; clear n0_ n1_ n2_ n3_; have hnb19 := NB283_284.out; have hnc19 := NB284_283.out; obtain ⟨hcz20_0, hfz20_0⟩ := b1 BK283))
      go_cut [] (fun wc => ∃ (kq : Nat) (x286001_12 : Int) (x286002_12 : Bool), Aside0 (span_parts_1.j2 kq x16_1 x17_1 x18_1 l0 l1 x16_1 x286001_12 x286002_12 false = some r) ∧ Aside0 (kq ≤ kj4) ∧ Aside0 (wc.heap[gb283]? = some (.cells #[(.slice A0 l0.length c0)] 26 (0, 0))) ∧ Aside0 (wc.heap[gb284]? = some (.cells #[(.slice A1 l1.length c1)] 26 (0, 0))) ∧ Aside0 (wc.heap[gb285]? = some (.cells #[.int .i64 x16_1, .int .i64 x286001_12, .bool x286002_12, .bool false] 147 (0, 0))) ∧ Aside0 (XR.B2 w wr wc))
      case first =>
       have H := HC13.out
       clear HC13
       replace H := ifd H
       rcases H with ⟨-, c21b0, H⟩ | ⟨-, c21b0, H⟩
       ·(rw [c21b0])
        replace H := ifn H
        obtain ⟨-, c22b0, H⟩ := H
        replace H := bd H
        obtain ⟨t288, A23, H⟩ := H
        obtain ⟨ji24, hji24⟩ : ∃ j_ : Int, (mn 65536 t288) = j_ := ⟨_, rfl⟩
        replace H : (span_parts_1.j2 kj4 x16_1 x17_1 x18_1 l0 l1 x16_1 ji24 (decide (((rd_T70 l0 x17_1).f0) ≤ x16_1)) false) = some r := by (rw [hji24] at H; exact H)
        ((have hji24h : ji24 ≤ 65536 := by (rw [← hji24]; unfold mn; (repeat' split) <;> omega)))
        have hji24_ : (if t288 < 65536 then t288 else 65536) = ji24 := hji24
        have H' := Aside0.mk H
        clear H
        have hnb25 := NB283_284.out
        have hnc25 := NB284_283.out
        have hnb26 := NB283_285.out
        have hnc26 := NB285_283.out
        obtain ⟨hcz27_0, hfz27_0⟩ := b1 BK283
        have p286 : 0 ≤ (x17_1 : Int) := ad
        have q286 : x17_1 < (l0.length : Int) := ad
        obtain ⟨ad286, e286, hx286_0, hx286_1⟩ := at_T70 HR0.out x17_1 p286 q286
        cases e286
        replace hx286_0 := cb HB.out.cell hx286_0
        replace hx286_1 := cb HB.out.cell hx286_1
        replace p286 := eq_true p286
        replace q286 := eq_true q286
        have hnb28 := NB285_284.out
        have hnc28 := NB284_285.out
        obtain ⟨hcz29_0, hcz29_1, hcz29_2, hcz29_3, hfz29_0, hfz29_1, hfz29_2, hfz29_3⟩ := b4 BK285
        go_wp2
        have n0_ : Aside0 ((w18.setCell ⟨gb285, 2, none⟩ (.bool (decide (((rd_T70 l0 x17_1).f0) ≤ x16_1)))).heap[gb283]? = some (.cells #[.slice (some ad286) l0.length c0] 26 (0, 0))) := ⟨bx BK283.out⟩
        have n1_ : Aside0 ((w18.setCell ⟨gb285, 2, none⟩ (.bool (decide (((rd_T70 l0 x17_1).f0) ≤ x16_1)))).heap[gb284]? = some (.cells #[.slice A1 l1.length c1] 26 (0, 0))) := ⟨bx BK284.out⟩
        have n2_ : Aside0 ((w18.setCell ⟨gb285, 2, none⟩ (.bool (decide (((rd_T70 l0 x17_1).f0) ≤ x16_1)))).heap[gb285]? = some (.cells #[.int .i64 x16_1, .int .i64 65536, .bool (decide (((rd_T70 l0 x17_1).f0) ≤ x16_1)), .bool false] 147 (0, 0))) := ⟨by refine blk_put (cs := #[.int .i64 x16_1, .int .i64 65536, .bool false, .bool false]) ?_ 2 _ rfl; exact BK285.out⟩
        have n3_ : Aside0 (XR.B2 w wr (w18.setCell ⟨gb285, 2, none⟩ (.bool (decide (((rd_T70 l0 x17_1).f0) ≤ x16_1))))) := ⟨by repeat ((with_reducible first | exact HB.out | refine XR.b2_set ?_ GE285.out))⟩
        clear BK283 BK284 BK285 HB
        generalize (w18.setCell ⟨gb285, 2, none⟩ (.bool (decide (((rd_T70 l0 x17_1).f0) ≤ x16_1)))) = w30 at n0_ n1_ n2_ n3_ ⊢
        have BK283 := n0_
        have BK284 := n1_
        have BK285 := n2_
        have HB := n3_
        clear n0_ n1_ n2_ n3_
        replace BK283 := Aside0.mk (blk_drew BK283.out)
        replace BK284 := Aside0.mk (blk_drew BK284.out)
        replace BK285 := Aside0.mk (blk_drew BK285.out)
        replace HB := Aside0.mk (XR.b2_drew1 HB.out)
        have p287 : 0 ≤ (x17_1 : Int) := ad
        have q287 : x17_1 < (l0.length : Int) := ad
        obtain ⟨ad287, e287, hx287_0, hx287_1⟩ := at_T70 HR0.out x17_1 p287 q287
        have hw287_1 := hx287_1
        have hw287_0 := hx287_0
        obtain rfl : ad286 = ad287 := (by injection e287)
        replace hx287_0 := cb HB.out.cell hx287_0
        replace hx287_1 := cb HB.out.cell hx287_1
        replace p287 := eq_true p287
        replace q287 := eq_true q287
        refine start_ (n := 13) (S := fun w' => w'.cell? ⟨gb285, 0, none⟩ = some (.int .i64 x16_1) ∧ w'.cell? ⟨gb285, 1, none⟩ = some (.int .i64 65536) ∧ w'.cell? ⟨gb285, 2, none⟩ = some (.bool (decide (((rd_T70 l0 x17_1).f0) ≤ x16_1))) ∧ w'.cell? ⟨gb285, 3, none⟩ = some (.bool false) ∧ w'.cell? ⟨gb283, 0, none⟩ = some (.slice (some ad286) l0.length c0) ∧ w'.cell? (ad286.add ((x17_1).toNat * 2)) = some (.int .i64 ((rd_T70 l0 x17_1).f0)) ∧ w'.cell? ⟨(ad286.add ((x17_1).toNat * 2)).block, (ad286.add ((x17_1).toNat * 2)).off + 1, none⟩ = some (.int .i64 ((rd_T70 l0 x17_1).f1))) (ds := [12]) #[false, false, false, false, false, false, false, false, false, false, false, false, false] (by kernel_rfl) rfl rfl ⟨(blk_cell BK285.out 0).trans rfl, (blk_cell BK285.out 1).trans rfl, (blk_cell BK285.out 2).trans rfl, (blk_cell BK285.out 3).trans rfl, (blk_cell BK283.out 0).trans rfl, ((HB.out.cell (World.block_lt_of_cell? w _ hw287_0)).trans hw287_0), ((HB.out.cell (World.block_lt_of_cell? w _ hw287_1)).trans hw287_1)⟩ (fun hHeld => ?_); refine with_tabW span_parts_1.tab5 span_parts_1.bits5 (fun HT_ HW_ => ?_)
        generalize w30.drew = w31 at BK283 BK284 BK285 HB hx287_0 hx287_1 hHeld ⊢
        refine puA HT_ 0 33 (bv 13 1) ?_
        refine puA HT_ 1 34 (bv 13 3) ?_
        refine puA HT_ 4 37 (bv 13 19) ?_
        refine puA HT_ 7 40 (bv 13 147) ?_
        refine taA HT_ HW_ hHeld 2 35 (bv 13 151) ?_
        refine taA HT_ HW_ hHeld 3 36 (bv 13 159) ?_
        refine puA HT_ 5 38 (bv 13 191) ?_
        refine taA HT_ HW_ hHeld 6 39 (bv 13 255) ?_
        refine one_ (i := 8) (N := some 41) #[true, true, true, true, true, true, true, true, true, false, false, false, false] rfl rfl (one_of HT_.out (by kernel_rfl)) (by decide) (fun K hK => ?_)
        refine goes_ Tryz.func143 (by kernel_rfl) rfl #[.agg #[.int .i64 ((rd_T70 l0 x17_1).f0), .int .i64 ((rd_T70 l0 x17_1).f1)], .int .i64 x16_1] (by rfl) rfl rfl (by (simp only [List.map_toArray, List.map_cons, List.map_nil]); rfl) ?_
        with_reducible refine (span_edge.calls ((rd_T70 l0 x17_1).f0) ((rd_T70 l0 x17_1).f1) x16_1 t288 _ A23.out).mono ?_
        rintro e w32 ⟨rfl, hb⟩
        refine ⟨_, rfl, ?_⟩
        replace BK283 := bba BK283 hb
        replace BK284 := bba BK284 hb
        replace BK285 := bba BK285 hb
        replace HB := Aside0.mk (XR.b2_step (by repeat ((with_reducible exact HB.out))) hb)
        clear hb
        refine hK.out _ _ ⟨(blk_cell BK285.out 0).trans rfl, (blk_cell BK285.out 1).trans rfl, (blk_cell BK285.out 2).trans rfl, (blk_cell BK285.out 3).trans rfl, (blk_cell BK283.out 0).trans rfl, ((HB.out.cell (World.block_lt_of_cell? w _ hw287_0)).trans hw287_0), ((HB.out.cell (World.block_lt_of_cell? w _ hw287_1)).trans hw287_1)⟩ (fun hHeld => ?_)
        clear hK K
        refine norm_ (a' := ?_) ?_ ?_
        rotate_left
        ·show Act.put _ (some 41) _ = _
         simp only [Act.put, List.setIfInBounds_toArray, List.set_cons_zero, List.set_cons_succ, i64_w, i32_w]
         rfl
        refine puA HT_ 9 42 (bv 13 1023) ?_
        refine puA HT_ 10 43 (bv 13 2047) ?_
        refine puA HT_ 11 44 (bv 13 4095) ?_
        refine last_ (i := 12) (N := none) #[true, true, true, true, true, true, true, true, true, true, true, true, true] rfl rfl (one_of HT_.out (by kernel_rfl)) (by decide) (fun K hK => ?_)
        have hs33 : w32.cell? ⟨gb285, 1, none⟩ = some (.int .i64 65536) := (blk_cell BK285.out 1).trans rfl
        have hfs33 := blk_frozen BK285.out 1
        have hns33_0 := NB283_285.out
        have hns33_1 := NB284_285.out
        have hms33_0 := NB285_283.out
        have hms33_1 := NB285_284.out
        refine skip_ (w1 := ?_) (by rfl) rfl ?_ ?_
        rotate_left
        ·go_simp
         rfl
        refine hK.out _ _ ?_
        clear hK K
        refine done_ (done_of HT_.out (by kernel_rfl)) ?_
        go_wp2
        go_meet
        case rel => exact ⟨_, (ji24), (decide (((rd_T70 l0 x17_1).f0) ≤ x16_1)), (by exact H'), ⟨by have := HK1.out; have := HJ4.out; omega⟩, ⟨bx BK283.out⟩, ⟨bx BK284.out⟩, ⟨by refine blk_put (cs := #[.int .i64 x16_1, .int .i64 65536, .bool (decide (((rd_T70 l0 x17_1).f0) ≤ x16_1)), .bool false]) ?_ 1 _ rfl; exact BK285.out⟩, ⟨by repeat ((with_reducible first | exact HB.out | refine XR.b2_set ?_ GE285.out))⟩⟩
       ·(rw [c21b0])
        have H' := Aside0.mk H
        clear H
        go_wp2
        go_meet
        case rel => exact ⟨_, (65536), (false), H', ⟨by have := HK1.out; have := HJ4.out; omega⟩, ⟨bx BK283.out⟩, ⟨bx BK284.out⟩, ⟨bx BK285.out⟩, ⟨by repeat ((with_reducible exact HB.out))⟩⟩
      case rest =>
       clear HC13 hcz17_0 hcz17_1 hcz17_2 hcz17_3 hcz20_0 hfz17_0 hfz17_1 hfz17_2 hfz17_3 hfz20_0
       obtain ⟨kq, x286001_12, x286002_12, HA, HJ12, BK283, BK284, BK285, HB⟩ := hcut
       cases kq with
       | zero => exact absurd HA.out (by simp [span_parts_1.j2])
       | succ kj12 =>
        have H := HA.out
        clear HA
        simp only [span_parts_1.j2] at H
        have HC34 := Aside0.mk H
        clear H
        have hnb35 := NB284_283.out
        have hnc35 := NB283_284.out
        have hnb36 := NB284_285.out
        have hnc36 := NB285_284.out
        obtain ⟨hcz37_0, hfz37_0⟩ := b1 BK284
        go_upto_if 48 with (go_in)
        go_cut [] (fun wc => ∃ (kq : Nat) (x286001_33 : Int) (x286003_33 : Bool), Aside0 (span_parts_1.j3 kq x17_1 x18_1 l0 l1 x16_1 x286001_33 x286002_12 x286003_33 = some r) ∧ Aside0 (kq ≤ kj12) ∧ Aside0 (wc.heap[gb283]? = some (.cells #[(.slice A0 l0.length c0)] 26 (0, 0))) ∧ Aside0 (wc.heap[gb284]? = some (.cells #[(.slice A1 l1.length c1)] 26 (0, 0))) ∧ Aside0 (wc.heap[gb285]? = some (.cells #[.int .i64 x16_1, .int .i64 x286001_33, .bool x286002_12, .bool x286003_33] 147 (0, 0))) ∧ Aside0 (XR.B2 w wr wc))
        case first =>
         have H := HC34.out
         clear HC34
         replace H := ifd H
         rcases H with ⟨-, c38b0, H⟩ | ⟨-, c38b0, H⟩
         ·(rw [c38b0])
          replace H := ifn H
          obtain ⟨-, c39b0, H⟩ := H
          replace H := bd H
          obtain ⟨t291, A40, H⟩ := H
          obtain ⟨ji41, hji41⟩ : ∃ j_ : Int, (mn x286001_12 t291) = j_ := ⟨_, rfl⟩
          replace H : (span_parts_1.j3 kj12 x17_1 x18_1 l0 l1 x16_1 ji41 x286002_12 (decide (((rd_T70 l1 x18_1).f0) ≤ x16_1))) = some r := by (rw [hji41] at H; exact H)
          have hji41_ : (if t291 < x286001_12 then t291 else x286001_12) = ji41 := hji41
          have H' := Aside0.mk H
          clear H
          have hnb42 := NB284_283.out
          have hnc42 := NB283_284.out
          have hnb43 := NB284_285.out
          have hnc43 := NB285_284.out
          obtain ⟨hcz44_0, hfz44_0⟩ := b1 BK284
          have p289 : 0 ≤ (x18_1 : Int) := ad
          have q289 : x18_1 < (l1.length : Int) := ad
          obtain ⟨ad289, e289, hx289_0, hx289_1⟩ := at_T70 HR1.out x18_1 p289 q289
          cases e289
          replace hx289_0 := cb HB.out.cell hx289_0
          replace hx289_1 := cb HB.out.cell hx289_1
          replace p289 := eq_true p289
          replace q289 := eq_true q289
          have hnb45 := NB285_283.out
          have hnc45 := NB283_285.out
          obtain ⟨hcz46_0, hcz46_1, hcz46_2, hcz46_3, hfz46_0, hfz46_1, hfz46_2, hfz46_3⟩ := b4 BK285
          go_wp2
          have n0_ : Aside0 ((wc.setCell ⟨gb285, 3, none⟩ (.bool (decide (((rd_T70 l1 x18_1).f0) ≤ x16_1)))).heap[gb283]? = some (.cells #[.slice A0 l0.length c0] 26 (0, 0))) := ⟨bx BK283.out⟩
          have n1_ : Aside0 ((wc.setCell ⟨gb285, 3, none⟩ (.bool (decide (((rd_T70 l1 x18_1).f0) ≤ x16_1)))).heap[gb284]? = some (.cells #[.slice (some ad289) l1.length c1] 26 (0, 0))) := ⟨bx BK284.out⟩
          have n2_ : Aside0 ((wc.setCell ⟨gb285, 3, none⟩ (.bool (decide (((rd_T70 l1 x18_1).f0) ≤ x16_1)))).heap[gb285]? = some (.cells #[.int .i64 x16_1, .int .i64 x286001_12, .bool x286002_12, .bool (decide (((rd_T70 l1 x18_1).f0) ≤ x16_1))] 147 (0, 0))) := ⟨by refine blk_put (cs := #[.int .i64 x16_1, .int .i64 x286001_12, .bool x286002_12, .bool false]) ?_ 3 _ rfl; exact BK285.out⟩
          have n3_ : Aside0 (XR.B2 w wr (wc.setCell ⟨gb285, 3, none⟩ (.bool (decide (((rd_T70 l1 x18_1).f0) ≤ x16_1))))) := ⟨by repeat ((with_reducible first | exact HB.out | refine XR.b2_set ?_ GE285.out))⟩
          clear BK283 BK284 BK285 HB
          generalize (wc.setCell ⟨gb285, 3, none⟩ (.bool (decide (((rd_T70 l1 x18_1).f0) ≤ x16_1)))) = w47 at n0_ n1_ n2_ n3_ ⊢
          have BK283 := n0_
          have BK284 := n1_
          have BK285 := n2_
          have HB := n3_
          clear n0_ n1_ n2_ n3_
          replace BK283 := Aside0.mk (blk_drew BK283.out)
          replace BK284 := Aside0.mk (blk_drew BK284.out)
          replace BK285 := Aside0.mk (blk_drew BK285.out)
          replace HB := Aside0.mk (XR.b2_drew1 HB.out)
          have p290 : 0 ≤ (x18_1 : Int) := ad
          have q290 : x18_1 < (l1.length : Int) := ad
          obtain ⟨ad290, e290, hx290_0, hx290_1⟩ := at_T70 HR1.out x18_1 p290 q290
          have hw290_1 := hx290_1
          have hw290_0 := hx290_0
          obtain rfl : ad289 = ad290 := (by injection e290)
          replace hx290_0 := cb HB.out.cell hx290_0
          replace hx290_1 := cb HB.out.cell hx290_1
          replace p290 := eq_true p290
          replace q290 := eq_true q290
          refine start_ (n := 13) (S := fun w' => w'.cell? ⟨gb285, 0, none⟩ = some (.int .i64 x16_1) ∧ w'.cell? ⟨gb285, 1, none⟩ = some (.int .i64 x286001_12) ∧ w'.cell? ⟨gb285, 2, none⟩ = some (.bool x286002_12) ∧ w'.cell? ⟨gb285, 3, none⟩ = some (.bool (decide (((rd_T70 l1 x18_1).f0) ≤ x16_1))) ∧ w'.cell? ⟨gb284, 0, none⟩ = some (.slice (some ad289) l1.length c1) ∧ w'.cell? (ad289.add ((x18_1).toNat * 2)) = some (.int .i64 ((rd_T70 l1 x18_1).f0)) ∧ w'.cell? ⟨(ad289.add ((x18_1).toNat * 2)).block, (ad289.add ((x18_1).toNat * 2)).off + 1, none⟩ = some (.int .i64 ((rd_T70 l1 x18_1).f1))) (ds := [12]) #[false, false, false, false, false, false, false, false, false, false, false, false, false] (by kernel_rfl) rfl rfl ⟨(blk_cell BK285.out 0).trans rfl, (blk_cell BK285.out 1).trans rfl, (blk_cell BK285.out 2).trans rfl, (blk_cell BK285.out 3).trans rfl, (blk_cell BK284.out 0).trans rfl, ((HB.out.cell (World.block_lt_of_cell? w _ hw290_0)).trans hw290_0), ((HB.out.cell (World.block_lt_of_cell? w _ hw290_1)).trans hw290_1)⟩ (fun hHeld => ?_); refine with_tabW span_parts_1.tab8 span_parts_1.bits8 (fun HT_ HW_ => ?_)
          generalize w47.drew = w48 at BK283 BK284 BK285 HB hx290_0 hx290_1 hHeld ⊢
          refine puA HT_ 0 57 (bv 13 1) ?_
          refine puA HT_ 1 58 (bv 13 3) ?_
          refine puA HT_ 4 61 (bv 13 19) ?_
          refine puA HT_ 7 64 (bv 13 147) ?_
          refine taA HT_ HW_ hHeld 2 59 (bv 13 151) ?_
          refine taA HT_ HW_ hHeld 3 60 (bv 13 159) ?_
          refine puA HT_ 5 62 (bv 13 191) ?_
          refine taA HT_ HW_ hHeld 6 63 (bv 13 255) ?_
          refine one_ (i := 8) (N := some 65) #[true, true, true, true, true, true, true, true, true, false, false, false, false] rfl rfl (one_of HT_.out (by kernel_rfl)) (by decide) (fun K hK => ?_)
          refine goes_ Tryz.func143 (by kernel_rfl) rfl #[.agg #[.int .i64 ((rd_T70 l1 x18_1).f0), .int .i64 ((rd_T70 l1 x18_1).f1)], .int .i64 x16_1] (by rfl) rfl rfl (by (simp only [List.map_toArray, List.map_cons, List.map_nil]); rfl) ?_
          with_reducible refine (span_edge.calls ((rd_T70 l1 x18_1).f0) ((rd_T70 l1 x18_1).f1) x16_1 t291 _ A40.out).mono ?_
          rintro e w49 ⟨rfl, hb⟩
          refine ⟨_, rfl, ?_⟩
          replace BK283 := bba BK283 hb
          replace BK284 := bba BK284 hb
          replace BK285 := bba BK285 hb
          replace HB := Aside0.mk (XR.b2_step (by repeat ((with_reducible exact HB.out))) hb)
          clear hb
          refine hK.out _ _ ⟨(blk_cell BK285.out 0).trans rfl, (blk_cell BK285.out 1).trans rfl, (blk_cell BK285.out 2).trans rfl, (blk_cell BK285.out 3).trans rfl, (blk_cell BK284.out 0).trans rfl, ((HB.out.cell (World.block_lt_of_cell? w _ hw290_0)).trans hw290_0), ((HB.out.cell (World.block_lt_of_cell? w _ hw290_1)).trans hw290_1)⟩ (fun hHeld => ?_)
          clear hK K
          refine norm_ (a' := ?_) ?_ ?_
          rotate_left
          ·show Act.put _ (some 65) _ = _
           simp only [Act.put, List.setIfInBounds_toArray, List.set_cons_zero, List.set_cons_succ, i64_w, i32_w]
           rfl
          refine puA HT_ 9 66 (bv 13 1023) ?_
          refine puA HT_ 10 67 (bv 13 2047) ?_
          refine puA HT_ 11 68 (bv 13 4095) ?_
          refine last_ (i := 12) (N := none) #[true, true, true, true, true, true, true, true, true, true, true, true, true] rfl rfl (one_of HT_.out (by kernel_rfl)) (by decide) (fun K hK => ?_)
          have hs50 : w49.cell? ⟨gb285, 1, none⟩ = some (.int .i64 x286001_12) := (blk_cell BK285.out 1).trans rfl
          have hfs50 := blk_frozen BK285.out 1
          have hns50_0 := NB283_285.out
          have hns50_1 := NB284_285.out
          have hms50_0 := NB285_283.out
          have hms50_1 := NB285_284.out
          refine skip_ (w1 := ?_) (by rfl) rfl ?_ ?_
          rotate_left
          ·go_simp
           rfl
          refine hK.out _ _ ?_
          clear hK K
          refine done_ (done_of HT_.out (by kernel_rfl)) ?_
          go_wp2
          go_meet
          case rel => exact ⟨_, (ji41), (decide (((rd_T70 l1 x18_1).f0) ≤ x16_1)), (by exact H'), ⟨by have := HK1.out; have := HJ4.out; have := HJ12.out; omega⟩, ⟨bx BK283.out⟩, ⟨bx BK284.out⟩, ⟨by refine blk_put (cs := #[.int .i64 x16_1, .int .i64 x286001_12, .bool x286002_12, .bool (decide (((rd_T70 l1 x18_1).f0) ≤ x16_1))]) ?_ 1 _ rfl; exact BK285.out⟩, ⟨by repeat ((with_reducible first | exact HB.out | refine XR.b2_set ?_ GE285.out))⟩⟩
         ·(rw [c38b0])
          have H' := Aside0.mk H
          clear H
          go_wp2
          go_meet
          case rel => exact ⟨_, (x286001_12), (false), H', ⟨by have := HK1.out; have := HJ4.out; have := HJ12.out; omega⟩, ⟨bx BK283.out⟩, ⟨bx BK284.out⟩, ⟨bx BK285.out⟩, ⟨by repeat ((with_reducible exact HB.out))⟩⟩
        case rest =>
         clear HC34 hcz37_0 hfz37_0
         obtain ⟨kq, x286001_33, x286003_33, HA, HJ33, BK283, BK284, BK285, HB⟩ := hcut
         cases kq with
         | zero => exact absurd HA.out (by simp [span_parts_1.j3])
         | succ kj33 =>
          have H := HA.out
          clear HA
          simp only [span_parts_1.j3] at H
          replace H := Option.bind_eq_some_iff.mp H
          obtain ⟨r2_, H, hr2_⟩ := H
          replace hr2_ : (⟨(⟨x16_1, x286001_33⟩ : S70), x286002_12, x286003_33⟩ : S147) :: r2_ = r := Option.some.inj hr2_
          have HR2_ := Aside0.mk hr2_
          clear hr2_
          have HC52 := Aside0.mk H
          clear H
          have hnb53 := NB285_283.out
          have hnc53 := NB283_285.out
          have hnb54 := NB285_284.out
          have hnc54 := NB284_285.out
          obtain ⟨hcz55_0, hcz55_1, hcz55_2, hcz55_3, hfz55_0, hfz55_1, hfz55_2, hfz55_3⟩ := b4 BK285
          go_upto_region 9 with (go_in)
          refine (wpIn_wide (n := n_)).1 ?_
          obtain ⟨fn_, tm_, as_, bd_, hy_, hR_⟩ := hY_ pre_ (⟨(⟨x16_1, x286001_33⟩ : S70), x286002_12, x286003_33⟩ : S147) r2_ _ _ (by rw [HX_.out, ← HR2_.out]) (hJs_ _ _ _ _ HJ_.out (XR.B2.two (w := w) HB.out))
          (dsimp only at hy_)
          gi_wp2
          refine ⟨fun hd_ => (by cases hd_), hR_.mono ?_⟩
          rintro e_ w56 (⟨rfl, hJ3_, hsz_, hkp_⟩ | ⟨rfl, hx3_⟩)
          rotate_left
          ·gi_wp2
           go_wp2
           refine bodyPost_ret (results_none rfl _ _ _) rfl ?_
           exact ⟨⟨_, rfl⟩, .inr ⟨pre_ ++ [(⟨(⟨x16_1, x286001_33⟩ : S70), x286002_12, x286003_33⟩ : S147)], ⟨r2_, by rw [HX_.out, ← HR2_.out]; simp⟩, hx3_⟩⟩
          have lt285_ := blk_lt BK285.out
          have lt284_ := blk_lt BK284.out
          have lt283_ := blk_lt BK283.out
          replace BK283 := Aside0.mk ((hkp_ _ lt283_ (.inl (.inl rfl))).trans BK283.out)
          replace BK284 := Aside0.mk ((hkp_ _ lt284_ (.inl (.inr rfl))).trans BK284.out)
          replace BK285 := Aside0.mk ((hkp_ _ lt285_ (.inr (.inr ⟨GE285.out.2, lt285_⟩))).trans BK285.out)
          replace HB := Aside0.mk (XR.b2_refl (hJB_ _ _ _ hJ3_))
          obtain ⟨hcz57_0, hcz57_1, hcz57_2, hcz57_3, hfz57_0, hfz57_1, hfz57_2, hfz57_3⟩ := b4 BK285
          obtain ⟨G_, HJ_, HG285⟩ : ∃ G', Aside0 (J_ G' (pre_ ++ [(⟨(⟨x16_1, x286001_33⟩ : S70), x286002_12, x286003_33⟩ : S147)]) w56) ∧ Aside0 (G' gb285) := ⟨_, ⟨hJ3_⟩, ⟨.inr ⟨GE285.out.2, lt285_⟩⟩⟩
          have HX_ := Aside0.mk (show xs = (pre_ ++ [(⟨(⟨x16_1, x286001_33⟩ : S70), x286002_12, x286003_33⟩ : S147)]) ++ r2_ by rw [HX_.out, ← HR2_.out]; simp)
          clear hJ3_ hkp_
          gi_wp2
          go_upto_region 11 with (go_in)
          go_cut [88] (fun v100 wc => ∃ (kq : Nat) (x100_51 : Bool), v100 = .bool x100_51 ∧ Aside0 (span_parts_1.j4 kq x286001_33 x17_1 x18_1 x100_51 l0 l1 = some r2_) ∧ Aside0 (kq ≤ kj33) ∧ Aside0 (wc.heap[gb283]? = some (.cells #[(.slice A0 l0.length c0)] 26 (0, 0))) ∧ Aside0 (wc.heap[gb284]? = some (.cells #[(.slice A1 l1.length c1)] 26 (0, 0))) ∧ Aside0 (wc.heap[gb285]? = some (.cells #[.int .i64 x16_1, .int .i64 x286001_33, .bool x286002_12, .bool x286003_33] 147 (0, 0))) ∧ Aside0 (XR.B2 w w56 wc))
          case first =>
           have H := HC52.out
           clear HC52
           replace H := ifd H
           rcases H with ⟨-, c58b0, H⟩ | ⟨-, c58b0, H⟩
           ·(skip)
            replace H := ifn H
            obtain ⟨-, c59b0, H⟩ := H
            have H' := Aside0.mk H
            clear H
            have hnb60 := NB283_284.out
            have hnc60 := NB284_283.out
            have hnb61 := NB283_285.out
            have hnc61 := NB285_283.out
            obtain ⟨hcz62_0, hfz62_0⟩ := b1 BK283
            have p292 : 0 ≤ (x17_1 : Int) := ad
            have q292 : x17_1 < (l0.length : Int) := ad
            obtain ⟨ad292, e292, hx292_0, hx292_1⟩ := at_T70 HR0.out x17_1 p292 q292
            cases e292
            replace hx292_0 := cb HB.out.cell hx292_0
            replace hx292_1 := cb HB.out.cell hx292_1
            replace p292 := eq_true p292
            replace q292 := eq_true q292
            go_wp2
            go_meet
            case rel => exact ⟨_, (decide (((rd_T70 l0 x17_1).f1) ≤ x286001_33)), (by rfl), H', ⟨by have := HK1.out; have := HJ4.out; have := HJ12.out; have := HJ33.out; omega⟩, ⟨bx BK283.out⟩, ⟨bx BK284.out⟩, ⟨bx BK285.out⟩, ⟨by repeat ((with_reducible exact HB.out))⟩⟩
           ·(skip)
            have H' := Aside0.mk H
            clear H
            have hnb63 := NB283_284.out
            have hnc63 := NB284_283.out
            have hnb64 := NB283_285.out
            have hnc64 := NB285_283.out
            obtain ⟨hcz65_0, hfz65_0⟩ := b1 BK283
            go_wp2
            go_meet
            case rel => exact ⟨_, (false), (by rfl), H', ⟨by have := HK1.out; have := HJ4.out; have := HJ12.out; have := HJ33.out; omega⟩, ⟨bx BK283.out⟩, ⟨bx BK284.out⟩, ⟨bx BK285.out⟩, ⟨by repeat ((with_reducible exact HB.out))⟩⟩
          case rest =>
           clear HC52 hcz55_0 hcz55_1 hcz55_2 hcz55_3 hcz57_0 hcz57_1 hcz57_2 hcz57_3 hfz55_0 hfz55_1 hfz55_2 hfz55_3 hfz57_0 hfz57_1 hfz57_2 hfz57_3
           obtain ⟨kq, x100_51, rfl, HA, HJ51, BK283, BK284, BK285, HB⟩ := hcut
           cases kq with
           | zero => exact absurd HA.out (by simp [span_parts_1.j4])
           | succ kj51 =>
            have H := HA.out
            clear HA
            simp only [span_parts_1.j4] at H
            have HC66 := Aside0.mk H
            clear H
            go_upto_if 88 with (go_in)
            go_cut [5] (fun v17 wc => ∃ (kq : Nat) (x17_65 : Int), v17 = .int .i64 x17_65 ∧ Aside0 (span_parts_1.j5 kq x286001_33 x17_65 x18_1 l0 l1 = some r2_) ∧ Aside0 (kq ≤ kj51) ∧ Aside0 (wc.heap[gb283]? = some (.cells #[(.slice A0 l0.length c0)] 26 (0, 0))) ∧ Aside0 (wc.heap[gb284]? = some (.cells #[(.slice A1 l1.length c1)] 26 (0, 0))) ∧ Aside0 (wc.heap[gb285]? = some (.cells #[.int .i64 x16_1, .int .i64 x286001_33, .bool x286002_12, .bool x286003_33] 147 (0, 0))) ∧ Aside0 (XR.B2 w w56 wc))
            case first =>
             have H := HC66.out
             clear HC66
             replace H := ifb H
             rcases H with ⟨rfl, H⟩ | ⟨rfl, H⟩
             ·have H' := Aside0.mk H
              clear H
              go_wp2
              go_meet
              case rel => exact ⟨_, (wrap64 (x17_1 + 1)), (by rfl), H', ⟨by have := HK1.out; have := HJ4.out; have := HJ12.out; have := HJ33.out; have := HJ51.out; omega⟩, ⟨bx BK283.out⟩, ⟨bx BK284.out⟩, ⟨bx BK285.out⟩, ⟨by repeat ((with_reducible exact HB.out))⟩⟩
             ·have H' := Aside0.mk H
              clear H
              go_wp2
              go_meet
              case rel => exact ⟨_, (x17_1), (by rfl), H', ⟨by have := HK1.out; have := HJ4.out; have := HJ12.out; have := HJ33.out; have := HJ51.out; omega⟩, ⟨bx BK283.out⟩, ⟨bx BK284.out⟩, ⟨bx BK285.out⟩, ⟨by repeat ((with_reducible exact HB.out))⟩⟩
            case rest =>
             clear HC66
             obtain ⟨kq, x17_65, rfl, HA, HJ65, BK283, BK284, BK285, HB⟩ := hcut
             cases kq with
             | zero => exact absurd HA.out (by simp [span_parts_1.j5])
             | succ kj65 =>
              have H := HA.out
              clear HA
              simp only [span_parts_1.j5] at H
              have HC68 := Aside0.mk H
              clear H
              go_upto_region 13 with (go_in)
              go_cut [103] (fun v115 wc => ∃ (kq : Nat) (x115_67 : Bool), v115 = .bool x115_67 ∧ Aside0 (span_parts_1.j6 kq x286001_33 x17_65 x18_1 x115_67 l0 l1 = some r2_) ∧ Aside0 (kq ≤ kj65) ∧ Aside0 (wc.heap[gb283]? = some (.cells #[(.slice A0 l0.length c0)] 26 (0, 0))) ∧ Aside0 (wc.heap[gb284]? = some (.cells #[(.slice A1 l1.length c1)] 26 (0, 0))) ∧ Aside0 (wc.heap[gb285]? = some (.cells #[.int .i64 x16_1, .int .i64 x286001_33, .bool x286002_12, .bool x286003_33] 147 (0, 0))) ∧ Aside0 (XR.B2 w w56 wc))
              case first =>
               have H := HC68.out
               clear HC68
               replace H := ifd H
               rcases H with ⟨-, c69b0, H⟩ | ⟨-, c69b0, H⟩
               ·(skip)
                replace H := ifn H
                obtain ⟨-, c70b0, H⟩ := H
                have H' := Aside0.mk H
                clear H
                have hnb71 := NB284_283.out
                have hnc71 := NB283_284.out
                have hnb72 := NB284_285.out
                have hnc72 := NB285_284.out
                obtain ⟨hcz73_0, hfz73_0⟩ := b1 BK284
                have p293 : 0 ≤ (x18_1 : Int) := ad
                have q293 : x18_1 < (l1.length : Int) := ad
                obtain ⟨ad293, e293, hx293_0, hx293_1⟩ := at_T70 HR1.out x18_1 p293 q293
                cases e293
                replace hx293_0 := cb HB.out.cell hx293_0
                replace hx293_1 := cb HB.out.cell hx293_1
                replace p293 := eq_true p293
                replace q293 := eq_true q293
                go_wp2
                go_meet
                case rel => exact ⟨_, (decide (((rd_T70 l1 x18_1).f1) ≤ x286001_33)), (by rfl), H', ⟨by have := HK1.out; have := HJ4.out; have := HJ12.out; have := HJ33.out; have := HJ51.out; have := HJ65.out; omega⟩, ⟨bx BK283.out⟩, ⟨bx BK284.out⟩, ⟨bx BK285.out⟩, ⟨by repeat ((with_reducible exact HB.out))⟩⟩
               ·(skip)
                have H' := Aside0.mk H
                clear H
                have hnb74 := NB284_283.out
                have hnc74 := NB283_284.out
                have hnb75 := NB284_285.out
                have hnc75 := NB285_284.out
                obtain ⟨hcz76_0, hfz76_0⟩ := b1 BK284
                go_wp2
                go_meet
                case rel => exact ⟨_, (false), (by rfl), H', ⟨by have := HK1.out; have := HJ4.out; have := HJ12.out; have := HJ33.out; have := HJ51.out; have := HJ65.out; omega⟩, ⟨bx BK283.out⟩, ⟨bx BK284.out⟩, ⟨bx BK285.out⟩, ⟨by repeat ((with_reducible exact HB.out))⟩⟩
              case rest =>
               clear HC68
               obtain ⟨kq, x115_67, rfl, HA, HJ67, BK283, BK284, BK285, HB⟩ := hcut
               cases kq with
               | zero => exact absurd HA.out (by simp [span_parts_1.j6])
               | succ kj67 =>
                have H := HA.out
                clear HA
                simp only [span_parts_1.j6] at H
                replace H := ifb H
                rcases H with ⟨rfl, H⟩ | ⟨rfl, H⟩
                ·have H' := Aside0.mk H
                 clear H
                 go_wp2
                 go_roundg kj67
                 case measure => have := HK1.out; have := HJ4.out; have := HJ12.out; have := HJ33.out; have := HJ51.out; have := HJ65.out; have := HJ67.out; omega
                 case rel => exact ⟨XR.grow G_ w56 _, (pre_ ++ [(⟨(⟨x16_1, x286001_33⟩ : S70), x286002_12, x286003_33⟩ : S147)]), r2_, (x286001_33), (x17_65), (wrap64 (x18_1 + 1)), (by rfl), (by rfl), (by rfl), H', ⟨HX_.out⟩, ⟨hJs_ _ _ _ _ HJ_.out (XR.B2.two (w := w) (by repeat ((with_reducible exact HB.out))))⟩, ⟨by have := HK1.out; have := HJ4.out; have := HJ12.out; have := HJ33.out; have := HJ51.out; have := HJ65.out; have := HJ67.out; omega⟩, ⟨bx BK283.out⟩, ⟨bx BK284.out⟩, ⟨XR.B2.one (w1 := w56) (by repeat ((with_reducible exact HB.out)))⟩⟩
                ·have H' := Aside0.mk H
                 clear H
                 go_wp2
                 go_roundg kj67
                 case measure => have := HK1.out; have := HJ4.out; have := HJ12.out; have := HJ33.out; have := HJ51.out; have := HJ65.out; have := HJ67.out; omega
                 case rel => exact ⟨XR.grow G_ w56 _, (pre_ ++ [(⟨(⟨x16_1, x286001_33⟩ : S70), x286002_12, x286003_33⟩ : S147)]), r2_, (x286001_33), (x17_65), (x18_1), (by rfl), (by rfl), (by rfl), H', ⟨HX_.out⟩, ⟨hJs_ _ _ _ _ HJ_.out (XR.B2.two (w := w) (by repeat ((with_reducible exact HB.out))))⟩, ⟨by have := HK1.out; have := HJ4.out; have := HJ12.out; have := HJ33.out; have := HJ51.out; have := HJ65.out; have := HJ67.out; omega⟩, ⟨bx BK283.out⟩, ⟨bx BK284.out⟩, ⟨XR.B2.one (w1 := w56) (by repeat ((with_reducible exact HB.out)))⟩⟩
     ·obtain rfl : [] = r := Option.some.inj H
      go_wp2
      go_end0
      exact ⟨⟨_, rfl⟩, .inl ⟨_, by have hx_ := HX_.out; rw [List.append_nil] at hx_; rw [hx_]; exact hJs_ _ _ _ _ HJ_.out (XR.B2.two (w := w) (by repeat ((with_reducible exact HB.out))))⟩⟩
end Go.Proofs.YtdgphlkbmplbpaaGreat.Print
end
section
namespace Go.Proofs.YtdgphlkbmplbpaaGreat.Print
open Go.RowKit Go.Proofs.YtdgphlkbmplbpaaGreatW.PrintWords Go.Proofs.YtdgphlkbmplbpaaGreatW.PrintLast Go.Proofs.YtdgphlkbmplbpaaGreatW.PrintMore
attribute [local go_sem] max2_int min2_int max_two min_two max_three min_three max_four min_four   -- for this text's walks alone
set_option linter.unusedVariables false
set_option linter.unusedSimpArgs false
/-! ### span_both_fn110: function 109 (a contract of the session's own) -/
section
attribute [local go_sem] Oper.semAt_some
def span_both_fn110.go : List S147 → List S70 → Option (List S70)
  | [], o => some o
  | x :: xs, o => (span_Less_1.f x.f0.f0 x.f0.f1 x.f1 x.f2).bind fun t => if t = true then ((span_adds.f o x.f0.f0 x.f0.f1).bind fun o2 => span_both_fn110.go xs o2) else span_both_fn110.go xs o
def span_both_fn110.f (k : Nat) (l0 l1 : List S70) : Option (List S70 × Int) := (span_May.f k l0).bind fun a => if a = true then ((span_May.f k l1).bind fun b => if b = true then ((span_parts_1.f k l0 l1).bind fun xs => (span_both_fn110.go xs []).bind fun o => some (o, 0)) else some (([] : List S70), 1)) else some (([] : List S70), 1)
theorem span_both_fn110.go_snoc : ∀ (pre : List S147) (x : S147) (o : List S70), span_both_fn110.go (pre ++ [x]) o = (span_both_fn110.go pre o).bind fun o1 => (span_Less_1.f x.f0.f0 x.f0.f1 x.f1 x.f2).bind fun t => if t = true then span_adds.f o1 x.f0.f0 x.f0.f1 else some o1 := by
 intro pre
 induction pre with
 | nil =>
   intro x o
   simp only [List.nil_append, span_both_fn110.go, Option.bind_some]
   congr 1; funext t; split
   ·cases span_adds.f o x.f0.f0 x.f0.f1 <;> rfl
   ·rfl
 | cons y ys ih =>
   intro x o
   simp only [List.cons_append, span_both_fn110.go]
   rw [Option.bind_assoc]
   congr 1; funext t; split
   ·rw [Option.bind_assoc]; congr 1; funext o2; exact ih x o2
   ·exact ih x o
theorem span_both_fn110.go_pre : ∀ (pre rest : List S147) (o r : List S70), span_both_fn110.go (pre ++ rest) o = some r → ∃ o1, span_both_fn110.go pre o = some o1 := by
 intro pre
 induction pre with
 | nil => intro rest o r h; exact ⟨o, rfl⟩
 | cons y ys ih =>
   intro rest o r h
   simp only [List.cons_append, span_both_fn110.go] at h ⊢
   obtain ⟨t, ht, h⟩ := Option.bind_eq_some_iff.mp h
   rw [ht]; simp only [Option.bind_some]
   split at h
   ·rename_i hq
    obtain ⟨o2, ho, h⟩ := Option.bind_eq_some_iff.mp h
    rw [if_pos hq, ho]; exact ih rest o2 r h
   ·rename_i hq
    rw [if_neg hq]; exact ih rest o r h
set_option maxHeartbeats 4000000 in
set_option maxRecDepth 100000 in
theorem span_both_fn110.calls (k : Nat) (A0 : Option Addr) (c0 : Nat) (l0 : List (S70)) (A1 : Option Addr) (c1 : Nat) (l1 : List (S70)) (r1 : List S70) (r2 : Int) (w : World) (hr0 : Kd.C k70 w A0 l0.length l0) (hc0 : l0.length ≤ c0) (hr1 : Kd.C k70 w A1 l1.length l1) (hc1 : l1.length ≤ c1) (h : span_both_fn110.f k l0 l1 = some (r1, r2)) :
    Calls Tryz.prog 109 #[.slice A0 l0.length c0, .slice A1 l1.length c1, .func (.func 110) #[] #[]] w fun e w' => ∃ v0_ : Value, e = .returned (.tuple #[v0_, .int .i64 r2]) ∧ Kd.R k70 70 w' w.heap.size (fun _ => True) v0_ r1 ∧ Below w.heap.size w w' := by
 have hmf : ∀ (fn : Fn) (first cap : Array Value) (w : World), (Instr.makeFunc fn first cap).run Tryz.prog w = .ok (.func fn first cap) w := fun _ _ _ _ => rfl
 have hu55 := Tryz.underlying147
 have hu43 := Tryz.underlying70
 have hu24 := Tryz.underlying26
 have HR0 := Aside0.mk hr0
 have HC0 := Aside0.mk hc0
 clear hr0 hc0
 have HR1 := Aside0.mk hr1
 have HC1 := Aside0.mk hc1
 clear hr1 hc1
 have HB := Aside0.mk (Below.refl w.heap.size w)
 have H := h
 clear h
 unfold span_both_fn110.f at H
 obtain ⟨a, A1_, H⟩ := Option.bind_eq_some_iff.mp H
 refine (callsIn_wide (n := 4)).1 ?_
 refine callsIn_of_wp_marks Tryz.func109 rfl trivial ?_ rfl
 simp only [Tryz.ntmps109, List.size_toArray, List.length_cons, List.length_nil, Nat.reduceAdd, Nat.reduceSub, Array.replicate_succ, Array.replicate_zero, List.push_toArray, List.append_toArray, List.nil_append, List.cons_append]
 refine wpIn_wide.2 ?_
 cases a with
 | false =>
   simp only [Bool.false_eq_true, if_false, Option.some.injEq, Prod.mk.injEq] at H
   obtain ⟨rfl, rfl⟩ := H
   have H1 := Aside0.mk A1_
   clear A1_
   go_wp2_with (first | ((with_reducible refine gate_dst (N := 5) rfl ?_); refine box_event ?hg (N := 5) ?hd (cs := #[.func (.func 110) #[] #[]]) (t := 148) ?hr ?_; (case hd => rfl); (case hg => rfl); (case hr => (go_simp; done)); intro gi hg w3 hbox hb; have n0_ := Aside0.mk (below_step HB.out hb); have n1_ := Aside0.mk hbox; have n2_ := Aside0.mk ((by rw [hg]; exact Nat.le_refl _) : w.heap.size ≤ gi); clear HB; have HB := n0_; have BKi := n1_; have GEi := n2_; clear n0_ n1_ n2_ hb hbox hg) | ((with_reducible refine gate_callee (f := 62) rfl ?_); refine gL 11 Tryz.func62 #[.slice A0 l0.length c0] ?_; (with_reducible refine (span_May.calls _ _ _ l0 false _ ?side1 ?side2 H1.out).mono ?_); (case side1 => exact (Kd.C_below HR0.out HB.out)); (case side2 => exact HC0.out); rintro e w4 ⟨rfl, hb⟩; refine ⟨_, rfl, ?_⟩; have n0_ := Aside0.mk (below_step HB.out hb); have n1_ := Aside0.mk (blk_below BKi.out hb); clear HB BKi hb; have HB := n0_; have BKi := n1_; clear n0_ n1_))
   exact ⟨_, results_list (rs := [.tmp 6, .tmp 7]) rfl (by simp) (.tmp (.tmp .nil)), _, rfl, Kd.R_nil _ _ _ _ _, HB.out⟩
 | true =>
   rw [if_pos rfl] at H
   obtain ⟨b, A2_, H⟩ := Option.bind_eq_some_iff.mp H
   cases b with
   | false =>
     simp only [Bool.false_eq_true, if_false, Option.some.injEq, Prod.mk.injEq] at H
     obtain ⟨rfl, rfl⟩ := H
     have H1 := Aside0.mk A1_
     have H2 := Aside0.mk A2_
     clear A1_ A2_
     go_wp2_with (first | ((with_reducible refine gate_dst (N := 5) rfl ?_); refine box_event ?hg (N := 5) ?hd (cs := #[.func (.func 110) #[] #[]]) (t := 148) ?hr ?_; (case hd => rfl); (case hg => rfl); (case hr => (go_simp; done)); intro gi hg w3 hbox hb; have n0_ := Aside0.mk (below_step HB.out hb); have n1_ := Aside0.mk hbox; have n2_ := Aside0.mk ((by rw [hg]; exact Nat.le_refl _) : w.heap.size ≤ gi); clear HB; have HB := n0_; have BKi := n1_; have GEi := n2_; clear n0_ n1_ n2_ hb hbox hg) | ((with_reducible refine gate_callee (f := 62) rfl ?_); refine gL 11 Tryz.func62 #[.slice A0 l0.length c0] ?_; (with_reducible refine (span_May.calls _ _ _ l0 true _ ?side1 ?side2 H1.out).mono ?_); (case side1 => exact (Kd.C_below HR0.out HB.out)); (case side2 => exact HC0.out); rintro e w4 ⟨rfl, hb⟩; refine ⟨_, rfl, ?_⟩; have n0_ := Aside0.mk (below_step HB.out hb); have n1_ := Aside0.mk (blk_below BKi.out hb); clear HB BKi hb; have HB := n0_; have BKi := n1_; clear n0_ n1_) | (go_at_call 62; (with_reducible refine (span_May.calls _ _ _ l1 false _ ?side1 ?side2 H2.out).mono ?_); (case side1 => exact (Kd.C_below HR1.out HB.out)); (case side2 => exact HC1.out); rintro e w5 ⟨rfl, hb⟩; have n0_ := Aside0.mk (below_step HB.out hb); have n1_ := Aside0.mk (blk_below BKi.out hb); clear HB BKi hb; have HB := n0_; have BKi := n1_; clear n0_ n1_))
     exact ⟨_, results_list (rs := [.tmp 6, .tmp 7]) rfl (by simp) (.tmp (.tmp .nil)), _, rfl, Kd.R_nil _ _ _ _ _, HB.out⟩
   | true =>
     rw [if_pos rfl] at H
     obtain ⟨xs, A3_, H⟩ := Option.bind_eq_some_iff.mp H
     obtain ⟨o, A4_, H⟩ := Option.bind_eq_some_iff.mp H
     simp only [Option.some.injEq, Prod.mk.injEq] at H
     obtain ⟨rfl, rfl⟩ := H
     have H1 := Aside0.mk A1_
     have H2 := Aside0.mk A2_
     have H3 := Aside0.mk A3_
     have H4 := Aside0.mk A4_
     clear A1_ A2_ A3_ A4_
     go_wp2_with (first | ((with_reducible refine gate_dst (N := 5) rfl ?_); refine box_event ?hg (N := 5) ?hd (cs := #[.func (.func 110) #[] #[]]) (t := 148) ?hr ?_; (case hd => rfl); (case hg => rfl); (case hr => (go_simp; done)); intro gi hg w3 hbox hb; have n0_ := Aside0.mk (below_step HB.out hb); have n1_ := Aside0.mk hbox; have n2_ := Aside0.mk ((by rw [hg]; exact Nat.le_refl _) : w.heap.size ≤ gi); clear HB; have HB := n0_; have BKi := n1_; have GEi := n2_; clear n0_ n1_ n2_ hb hbox hg) | ((with_reducible refine gate_callee (f := 62) rfl ?_); refine gL 11 Tryz.func62 #[.slice A0 l0.length c0] ?_; (with_reducible refine (span_May.calls _ _ _ l0 true _ ?side1 ?side2 H1.out).mono ?_); (case side1 => exact (Kd.C_below HR0.out HB.out)); (case side2 => exact HC0.out); rintro e w4 ⟨rfl, hb⟩; refine ⟨_, rfl, ?_⟩; have n0_ := Aside0.mk (below_step HB.out hb); have n1_ := Aside0.mk (blk_below BKi.out hb); clear HB BKi hb; have HB := n0_; have BKi := n1_; clear n0_ n1_) | (go_at_call 62; (with_reducible refine (span_May.calls _ _ _ l1 true _ ?side1 ?side2 H2.out).mono ?_); (case side1 => exact (Kd.C_below HR1.out HB.out)); (case side2 => exact HC1.out); rintro e w5 ⟨rfl, hb⟩; have n0_ := Aside0.mk (below_step HB.out hb); have n1_ := Aside0.mk (blk_below BKi.out hb); clear HB BKi hb; have HB := n0_; have BKi := n1_; clear n0_ n1_) | ((with_reducible refine gate_dst (N := 8) rfl ?_); refine box_event ?hg (N := 8) ?hd (cs := #[.slice none 0 0]) (t := 26) ?hr ?_; (case hd => rfl); (case hg => rfl); (case hr => (go_simp; done)); intro go_ hg w6 hbox hb; have n0_ := Aside0.mk (below_step HB.out hb); have n1_ := Aside0.mk (blk_below BKi.out hb); have n2_ := Aside0.mk hbox; have n3_ := Aside0.mk ((by rw [hg]; exact below_size HB.out) : w.heap.size ≤ go_); have n4_ := Aside0.mk ((by rw [hg]; exact Nat.ne_of_lt (blk_lt BKi.out)) : gi ≠ go_); clear HB BKi; have HB := n0_; have BKi := n1_; have BKo := n2_; have GEo := n3_; have NBio := n4_; clear n0_ n1_ n2_ n3_ n4_ hb hbox hg) | ((with_reducible refine gate_dst (N := 2) rfl ?_); refine box_event ?hg (N := 2) ?hd (cs := #[.slice A0 l0.length c0]) (t := 26) ?hr ?_; (case hd => rfl); (case hg => rfl); (case hr => (go_simp; done)); intro ga hg w7 hbox hb; have n0_ := Aside0.mk (below_step HB.out hb); have n1_ := Aside0.mk (blk_below BKi.out hb); have n2_ := Aside0.mk (blk_below BKo.out hb); have n3_ := Aside0.mk hbox; have n4_ := Aside0.mk ((by rw [hg]; exact below_size HB.out) : w.heap.size ≤ ga); have n5_ := Aside0.mk ((by rw [hg]; exact Nat.ne_of_lt (blk_lt BKi.out)) : gi ≠ ga); have n6_ := Aside0.mk ((by rw [hg]; exact Nat.ne_of_lt (blk_lt BKo.out)) : go_ ≠ ga); clear HB BKi BKo; have HB := n0_; have BKi := n1_; have BKo := n2_; have BKa := n3_; have GEa := n4_; have NBia := n5_; have NBoa := n6_; clear n0_ n1_ n2_ n3_ n4_ n5_ n6_ hb hbox hg) | ((with_reducible refine gate_dst (N := 3) rfl ?_); refine box_event ?hg (N := 3) ?hd (cs := #[.slice A1 l1.length c1]) (t := 26) ?hr ?_; (case hd => rfl); (case hg => rfl); (case hr => (go_simp; done)); intro gb hg w8 hbox hb; have n0_ := Aside0.mk (below_step HB.out hb); have n1_ := Aside0.mk (blk_below BKi.out hb); have n2_ := Aside0.mk (blk_below BKo.out hb); have n3_ := Aside0.mk (blk_below BKa.out hb); have n4_ := Aside0.mk hbox; have n5_ := Aside0.mk ((by rw [hg]; exact below_size HB.out) : w.heap.size ≤ gb); have n6_ := Aside0.mk ((by rw [hg]; exact Nat.ne_of_lt (blk_lt BKi.out)) : gi ≠ gb); have n7_ := Aside0.mk ((by rw [hg]; exact Nat.ne_of_lt (blk_lt BKo.out)) : go_ ≠ gb); have n8_ := Aside0.mk ((by rw [hg]; exact Nat.ne_of_lt (blk_lt BKa.out)) : ga ≠ gb); clear HB BKi BKo BKa; have HB := n0_; have BKi := n1_; have BKo := n2_; have BKa := n3_; have BKb := n4_; have GEb := n5_; have NBib := n6_; have NBob := n7_; have NBab := n8_; clear n0_ n1_ n2_ n3_ n4_ n5_ n6_ n7_ n8_ hb hbox hg) | go_in)
     have HC0' := HC0
     have HC1' := HC1
     refine (wpIn_wide (n := 4)).1 ?_
     refine XR.wp_range (α := S147) (w0 := w) (by decide) (gf := 142) (lb := #[.pointer (some ⟨ga, 0, none⟩), .pointer (some ⟨gb, 0, none⟩)]) rfl (enters_of Tryz.func142 (by kernel_rfl) rfl)
       (span_parts_1.iter k A0 c0 l0 A1 c1 l1 xs w w8 ga gb HR0.out HC0'.out HR1.out HC1'.out HB.out BKa.out BKb.out GEa.out GEb.out NBab.out H3.out)
       (by rintro k_ (rfl | rfl); exact blk_lt BKa.out; exact blk_lt BKb.out) (fun _ => rfl)
       (fun G_ pre X => ∃ (o1 : List S70) (v : Value), span_both_fn110.go pre [] = some o1 ∧ X.heap[go_]? = some (.cells #[v] 26 (0, 0)) ∧ Kd.R k70 70 X w.heap.size (fun k_ => w.heap.size ≤ k_ ∧ (k_ ≠ gi ∧ k_ ≠ go_ ∧ k_ ≠ ga ∧ k_ ≠ gb ∧ k_ ≠ w8.heap.size ∧ k_ ≠ w8.heap.size + 1 ∧ ¬ G_ k_)) v o1 ∧ X.heap[gi]? = some (.cells #[.func (.func 110) #[] #[]] 148 (0, 0)) ∧ Below w.heap.size w X)
       (fun _ _ _ => False)
       ?hI ?hIG (fun _ _ _ _ h _ => h) ?hIB ?hIp (fun _ _ _ _ _ h _ _ _ => h) ?h0
       (fun Y x a' Z => a' = { tmps := #[.slice A0 l0.length c0, .slice A1 l1.length c1, .func (.func 110) #[] #[], undef, undef, .pointer (some ⟨gi, 0, none⟩), .slice none 0 0, .int .i64 0, .pointer (some ⟨go_, 0, none⟩), .pointer (some ⟨Y.heap.size, 0, none⟩), .slice A0 l0.length c0, .bool true, .bool false, .bool false, .slice A1 l1.length c1, .bool true, .bool false, .bool false, .slice A0 l0.length c0, .slice A1 l1.length c1, .func (.func 142) #[] #[.pointer (some ⟨ga, 0, none⟩), .pointer (some ⟨gb, 0, none⟩)], .agg #[.int .i64 x.f0.f0, .int .i64 x.f0.f1, .bool x.f1, .bool x.f2], undef, undef, undef, undef, undef, undef, undef, undef], defers := [] } ∧ Z.heap[Y.heap.size]? = some (.cells #[.int .i64 x.f0.f0, .int .i64 x.f0.f1, .bool x.f1, .bool x.f2] 147 (0, 0)))
       ?hAx ?assign ?body ?done ?stop
     case hI =>
       rintro G_ pre X Y ⟨o1, v, hg, ho, hr, hi, hb⟩ hXY
       exact ⟨o1, v, hg, blk_below ho hXY, Kd.R_below hr hXY, blk_below hi hXY, below_step hb hXY⟩
     case hIG =>
       rintro G_ G2_ pre X ⟨o1, v, hg, ho, hr, hi, hb⟩ hG
       refine ⟨o1, v, hg, ho, Kd.R_mono (Kd.R_tight rfl hr) (fun k_ hk => ?_), hi, hb⟩
       have hq := hr.1 k_ hk.symm
       have hlt := Kd.R_lt hr k_ hk.symm
       exact ⟨hq.1, hq.2.1, hq.2.2.1, hq.2.2.2.1, hq.2.2.2.2.1, hq.2.2.2.2.2.1, hq.2.2.2.2.2.2.1, fun h2 => (hG k_ h2).elim hq.2.2.2.2.2.2.2 (fun z => by omega)⟩
     case hIB =>
       rintro G_ pre X ⟨o1, v, hg, ho, hr, hi, hb⟩
       exact hb
     case hIp =>
       rintro G_ pre X l o2 ⟨o1, v, hg, ho, hr, hi, hb⟩ hl hl2 hlt
       have hio : l ≠ gi := by have := blk_lt BKi.out; omega
       have hoo : l ≠ go_ := by have := blk_lt BKo.out; omega
       refine ⟨o1, v, hg, (World.putObj_heap_other (Ne.symm hoo)).trans ho, ?_, (World.putObj_heap_other (Ne.symm hio)).trans hi, XR.below_putObj hb (by have := HB.out.size; omega) hlt o2⟩
       exact Kd.R_step hr (fun k_ hk _ => World.putObj_heap_other (by have h5 := hk.2.2.2.2.2.1; have h6 := hk.2.2.2.2.2.2.1; omega))
     case h0 => exact ⟨[], _, rfl, BKo.out, Kd.R_nil _ _ _ _ _, BKi.out, HB.out⟩
     case hAx =>
       rintro Y x a' Z l o2 ⟨rfl, hz⟩ hl hl2 hlt
       exact ⟨rfl, (World.putObj_heap_other (by omega)).trans hz⟩
     case assign =>
       intro G_ pre x Y hI hsz
       gi_wp2
       exact ⟨(Below.refl _ Y).alloc (Nat.le_refl _) _, trivial, World.alloc_heap_new Y _⟩
     case body =>
       rintro G_ pre x rest Y Z a' hx hGY ⟨o1, v, hg, ho, hr, hi, hb⟩ hsX hYZ ⟨rfl, hz⟩
       have hsY : Y.heap.size < Z.heap.size := blk_lt hz
       have hlgo : go_ < w8.heap.size := blk_lt BKo.out
       have hsn := span_both_fn110.go_snoc pre x []
       rw [hg] at hsn
       simp only [Option.bind_some] at hsn
       obtain ⟨o2, ho2⟩ := span_both_fn110.go_pre (pre ++ [x]) rest [] _ (by have h4 := H4.out; rw [hx] at h4; simpa using h4)
       rw [ho2] at hsn
       obtain ⟨t, ht, hs⟩ := Option.bind_eq_some_iff.mp hsn.symm
       have c1 : Z.cell? ⟨gi, 0, none⟩ = some (.func (.func 110) #[] #[]) := (blk_cell hi 0).trans rfl
       have c2 : Z.cell? ⟨Y.heap.size, 0, none⟩ = some (.int .i64 x.f0.f0) := (blk_cell hz 0).trans rfl
       have c3 : Z.cell? ⟨Y.heap.size, 1, none⟩ = some (.int .i64 x.f0.f1) := (blk_cell hz 1).trans rfl
       have c4 : Z.cell? ⟨Y.heap.size, 2, none⟩ = some (.bool x.f1) := (blk_cell hz 2).trans rfl
       have c5 : Z.cell? ⟨Y.heap.size, 3, none⟩ = some (.bool x.f2) := (blk_cell hz 3).trans rfl
       cases t with
       | false =>
         simp only [Bool.false_eq_true, if_false, Option.some.injEq] at hs
         subst hs
         gi_wp2_with (refine ⟨trivial, ?_⟩; gi_at_call 110; refine (CallsIn.inRound (w8.heap.size + 1) (callsIn_wide.2 (span_Less_1.calls _ _ _ _ false Z ht))).mono ?_; rintro e w9 ⟨rfl, hb9⟩)
         exact ⟨⟨_, v, ho2, blk_below ho hb9, Kd.R_below hr hb9, blk_below hi hb9, below_step hb hb9⟩, hb9.size, fun k_ hk _ => hb9.block k_ hk⟩
       | true =>
         simp only [if_true] at hs
         gi_wp2_with (first | (refine ⟨trivial, ?_⟩; gi_at_call 110; refine (CallsIn.inRound (w8.heap.size + 1) (callsIn_wide.2 (span_Less_1.calls _ _ _ _ true Z ht))).mono ?_; rintro e w9 ⟨rfl, hb9⟩; have d2 : w9.cell? ⟨Y.heap.size, 0, none⟩ = some (.int .i64 x.f0.f0) := (blk_cell (blk_below hz hb9) 0).trans rfl; have d3 : w9.cell? ⟨Y.heap.size, 1, none⟩ = some (.int .i64 x.f0.f1) := (blk_cell (blk_below hz hb9) 1).trans rfl; have d6 : w9.cell? ⟨go_, 0, none⟩ = some v := (blk_cell (blk_below ho hb9) 0).trans rfl) | (refine ⟨trivial, ?_⟩; gi_at_call 77; refine (CallsIn.inRound (w8.heap.size + 1) (callsIn_wide.2 (span_adds.calls (fun k_ => some k_ = v.ownBlock) v o1 x.f0.f0 x.f0.f1 o2 w w9 (below_step hb hb9) (Kd.R_tight rfl (Kd.R_below hr hb9)) hs))).mono ?_; rintro e w10 ⟨v0, rfl, hr10, hb10, hk10⟩; have hne : ∀ k_, some k_ = v.ownBlock → k_ ≠ gi ∧ k_ ≠ go_ ∧ k_ ≠ ga ∧ k_ ≠ gb ∧ k_ ≠ w8.heap.size ∧ k_ ≠ w8.heap.size + 1 ∧ ¬ G_ k_ := fun k_ e_ => (hr.1 k_ e_.symm).2; have hlt9 : Z.heap.size ≤ w9.heap.size := hb9.size; have ho10 := (hk10.2 go_ (blk_lt (blk_below ho hb9)) (fun e_ => (hne _ e_).2.1 rfl)).trans (blk_below ho hb9); have hi10 := (hk10.2 gi (blk_lt (blk_below hi hb9)) (fun e_ => (hne _ e_).1 rfl)).trans (blk_below hi hb9); obtain ⟨Av, cv, rfl⟩ := Kd.R_slice hr10; have e6 : w10.cell? ⟨go_, 0, none⟩ = some v := (blk_cell ho10 0).trans rfl; have e7 := blk_frozen ho10 0))
         have hlgi : gi < w8.heap.size := blk_lt BKi.out
         have hlga : ga < w8.heap.size := blk_lt BKa.out
         have hlgb : gb < w8.heap.size := blk_lt BKb.out
         have hgb : Below w.heap.size w (w10.setCell ⟨go_, 0, none⟩ (.slice Av o2.length cv)) := hb10.setCell (p := ⟨go_, 0, none⟩) GEo.out _
         have hrow : Kd.R k70 70 (w10.setCell ⟨go_, 0, none⟩ (.slice Av o2.length cv)) w.heap.size (fun k_ => w.heap.size ≤ k_ ∧ (k_ ≠ gi ∧ k_ ≠ go_ ∧ k_ ≠ ga ∧ k_ ≠ gb ∧ k_ ≠ w8.heap.size ∧ k_ ≠ w8.heap.size + 1 ∧ ¬ G_ k_)) (.slice Av o2.length cv) o2 := by
           have hr11 : Kd.R k70 70 w10 w.heap.size (fun k_ => w.heap.size ≤ k_ ∧ (k_ ≠ gi ∧ k_ ≠ go_ ∧ k_ ≠ ga ∧ k_ ≠ gb ∧ k_ ≠ w8.heap.size ∧ k_ ≠ w8.heap.size + 1 ∧ ¬ G_ k_)) (.slice Av o2.length cv) o2 := by
             refine Kd.R_mono hr10 (fun k_ hk => ?_)
             rcases hk with hk | hk
             ·exact hr.1 k_ hk.symm
             ·have := HB.out.size; have := below_size hb; refine ⟨by omega, by omega, by omega, by omega, by omega, by omega, by omega, fun h2 => by have := hGY k_ h2; omega⟩
           exact Kd.R_step hr11 (fun k_ hk _ => Below.heap_setCell _ _ _ k_ (by exact hk.2.2.1))
         refine ⟨⟨o2, _, ho2, blk_put ho10 0 _ rfl, hrow, blk_far hi10 (by exact NBio.out) _, hgb⟩, ?_, ?_⟩
         ·have := hk10.1; simp; omega
         ·intro k_ hk hkeep
          have hkgo : k_ ≠ go_ := by
            rcases hkeep with (rfl | rfl) | hh | hh | hh
            ·exact Ne.symm NBoa.out
            ·exact Ne.symm NBob.out
            ·have := hGY k_ hh; omega
            ·omega
            ·omega
          have hkv : ¬ some k_ = v.ownBlock := by
            intro e_
            have hq := hne _ e_
            rcases hkeep with (rfl | rfl) | hh | hh | hh
            ·exact hq.2.2.1 rfl
            ·exact hq.2.2.2.1 rfl
            ·exact hq.2.2.2.2.2.2 hh
            ·exact hq.2.2.2.2.1 hh
            ·exact hq.2.2.2.2.2.1 hh
          rw [Below.heap_setCell _ _ _ k_ hkgo, hk10.2 k_ (by omega) hkv, hb9.block k_ hk]
     case done =>
       rintro G_ W ⟨o1, v, hg, ho, hr, hi, hb⟩ hK
       obtain rfl : o1 = o := by have h4 := H4.out; rw [hg] at h4; exact Option.some.inj h4
       have cv1 : W.cell? ⟨go_, 0, none⟩ = some v := (blk_cell ho 0).trans rfl
       go_wp2
       refine ⟨by simp, .inl ⟨_, _, rfl, run_takeDeferred hK, ?_⟩⟩
       exact ⟨_, results_list (rs := [.tmp 6, .tmp 7]) rfl (by simp) (.tmp (.tmp .nil)), v, rfl, Kd.R_mono (Kd.R_step hr (fun k_ hk _ => World.putObj_heap_other (by have h5 := hk.2.2.2.2.2.1; have h6 := hk.2.2.2.2.2.2.1; omega))) (fun _ _ => trivial), XR.below_putObj hb (by have := HB.out.size; omega) (Array.getElem?_eq_some_iff.1 hK).1 _⟩
     case stop =>
       rintro c pre W _ h _
       exact h.elim
end
/-! ### span_Less: function 69 -/
def span_Less.f (k : Nat) (l0 : List (S70)) (l1 : List (S70)) : Option ((List (S70)) × Int) := (span_both_fn110.f k l0 l1).bind fun bt294 => (some (bt294.1, bt294.2))
set_option maxHeartbeats 8000000 in
set_option maxRecDepth 100000 in
theorem span_Less.calls (k : Nat) (A0 : Option Addr) (c0 : Nat) (l0 : List (S70)) (A1 : Option Addr) (c1 : Nat) (l1 : List (S70)) (r1 : List (S70)) (r2 : Int) (w : World) (hr0 : Kd.C k70 w A0 l0.length l0) (hc0 : l0.length ≤ c0) (hr1 : Kd.C k70 w A1 l1.length l1) (hc1 : l1.length ≤ c1) (h : span_Less.f k l0 l1 = some (r1, r2)) :
  Calls Tryz.prog 69 #[.slice A0 l0.length c0, .slice A1 l1.length c1] w fun e w' => ∃ v0_ : Value, e = .returned (.tuple #[v0_, .int .i64 r2]) ∧ Kd.R k70 70 w' w.heap.size (fun _ => True) v0_ r1 ∧ Below w.heap.size w w' := by
 have HR0 := Aside0.mk hr0
 have HC0 := Aside0.mk hc0
 clear hr0 hc0
 have HR1 := Aside0.mk hr1
 have HC1 := Aside0.mk hc1
 clear hr1 hc1
 have HB := Aside0.mk (Below.refl w.heap.size w)
 have H := h
 clear h
 unfold span_Less.f at H
 replace H := bd H
 obtain ⟨⟨t294, t297⟩, A3, H⟩ := H
 dsimp only at H
 simp only [Option.some.injEq, Prod.mk.injEq] at H
 obtain ⟨rfl, rfl⟩ := H
 go_enter Tryz.func69, Tryz.ntmps69
 go_wp2_with (((with_reducible refine gate_callee (f := 109) rfl ?_); refine gL 8 Tryz.func109 #[.slice A0 l0.length c0, .slice A1 l1.length c1, .func (.func 110) #[] #[]] ?_; (with_reducible refine (span_both_fn110.calls k _ _ l0 _ _ l1  t294 t297 _ ?side1 ?side2 ?side3 ?side4 A3.out).mono ?_); (case side1 => exact cx HR0.out); (case side2 => exact HC0.out); (case side3 => exact cx HR1.out); (case side4 => exact HC1.out); rintro e w4 ⟨v295, rfl, ho0, hb⟩; refine ⟨_, rfl, ?_⟩; have HO296 := Aside0.mk (Kd.R_lower ho0 (below_size (bh HB.out))); replace HB := bsa HB hb; clear hb ho0))
 go_ret2
 exact ⟨_, er, by exact HO296.out, bh HB.out⟩
/-! ### words_Spans: function 42 -/
mutual
def words_Spans.l0 : Nat → List Int → Int → Int → List (S70) → Option ((List (S70)) × Int)
 | 0, _, _, _, _ => none
 | k + 1, x19, x20, x21, x300000 => if x21 < x20 then (if 0 ≤ x21 then (if x21 < (x19.length : Int) then ((bits_Next.f k (rd x19 x21) 0).bind fun t301 => (words_Spans.l1 k x21 (rd x19 x21) t301 x19 x20 x21 x300000)) else (none)) else (none)) else (some (x300000, 0))
def words_Spans.l1 : Nat → Int → Int → Int → List Int → Int → Int → List (S70) → Option ((List (S70)) × Int)
 | 0, _, _, _, _, _, _, _ => none
 | k + 1, x16, x17, x18, x19, x20, x21, x300000 => if x18 ≥ 0 then (if (wrap64 ((x300000.length : Int) - 1)) ≥ 0 then (if 0 ≤ (wrap64 ((x300000.length : Int) - 1)) then (if (wrap64 ((x300000.length : Int) - 1)) < (x300000.length : Int) then (words_Spans.j2 k x16 x17 x18 x19 x20 x21 (wrap64 ((wrap64 (64 * x16)) + x18)) (wrap64 ((x300000.length : Int) - 1)) (((rd_T70 x300000 (wrap64 ((x300000.length : Int) - 1))).f1) == (wrap64 ((wrap64 (64 * x16)) + x18))) x300000) else (none)) else (none)) else (words_Spans.j2 k x16 x17 x18 x19 x20 x21 (wrap64 ((wrap64 (64 * x16)) + x18)) (wrap64 ((x300000.length : Int) - 1)) false x300000)) else (words_Spans.l0 k x19 x20 (wrap64 (x21 + 1)) x300000)
def words_Spans.j2 : Nat → Int → Int → Int → List Int → Int → Int → Int → Int → Bool → List (S70) → Option ((List (S70)) × Int)
 | 0, _, _, _, _, _, _, _, _, _, _ => none
 | k + 1, x16, x17, x18, x19, x20, x21, x42, x46, x60, x300000 => if x60 = true then (if 0 ≤ x46 then (if x46 < (x300000.length : Int) then ((bits_Next.f k x17 (wrap64 (x18 + 1))).bind fun t305 => (words_Spans.l1 k x16 x17 t305 x19 x20 x21 (x300000.set (x46 : Int).toNat (⟨(rd_T70 x300000 x46).f0, wrap64 (((rd_T70 x300000 x46).f1) + 1)⟩ : S70)))) else (none)) else (none)) else (if x300000.length < 8796093022208 then ((bits_Next.f k x17 (wrap64 (x18 + 1))).bind fun t309 => (words_Spans.l1 k x16 x17 t309 x19 x20 x21 (x300000 ++ [(⟨x42, wrap64 (x42 + 1)⟩ : S70)]))) else (none))
end
def words_Spans.f (k : Nat) (l0 : List Int) : Option ((List (S70)) × Int) := (words_May.f l0).bind fun t298 => (if t298 = true then (words_Spans.l0 k l0 (l0.length : Int) 0 ([] : List (S70))) else (some (([] : List (S70)), 1)))
theorem words_Spans.l0_succ (k) (a0) (a1) (a2) (a3) : type_of% (@words_Spans.l0.eq_2 a0 a1 a2 a3 k) := words_Spans.l0.eq_2 a0 a1 a2 a3 k
theorem words_Spans.l1_succ (k) (a0) (a1) (a2) (a3) (a4) (a5) (a6) : type_of% (@words_Spans.l1.eq_2 a0 a1 a2 a3 a4 a5 a6 k) := words_Spans.l1.eq_2 a0 a1 a2 a3 a4 a5 a6 k
theorem words_Spans.j2_succ (k) (a0) (a1) (a2) (a3) (a4) (a5) (a6) (a7) (a8) (a9) : type_of% (@words_Spans.j2.eq_2 a0 a1 a2 a3 a4 a5 a6 a7 a8 a9 k) := words_Spans.j2.eq_2 a0 a1 a2 a3 a4 a5 a6 a7 a8 a9 k
set_option maxHeartbeats 8000000 in
set_option maxRecDepth 100000 in
theorem words_Spans.calls (k : Nat) (A0 : Option Addr) (c0 : Nat) (l0 : List Int) (r1 : List (S70)) (r2 : Int) (w : World) (hr0 : Kd.C (Kd.int .i64) w A0 l0.length l0) (hc0 : l0.length ≤ c0) (h : words_Spans.f k l0 = some (r1, r2)) :
  Calls Tryz.prog 42 #[.slice A0 l0.length c0] w fun e w' => ∃ v0_ : Value, e = .returned (.tuple #[v0_, .int .i64 r2]) ∧ Kd.R k70 70 w' w.heap.size (fun _ => True) v0_ r1 ∧ Below w.heap.size w w' := by
 have hmf : ∀ (fn : Fn) (first cap : Array Value) (w : World), (Instr.makeFunc fn first cap).run Tryz.prog w = .ok (.func fn first cap) w := fun _ _ _ _ => rfl
 have hu70 := Tryz.underlying70
 have HR0 := Aside0.mk hr0
 have HC0 := Aside0.mk hc0
 clear hr0 hc0
 have HB := Aside0.mk (Below.refl w.heap.size w)
 have H := h
 clear h
 unfold words_Spans.f at H
 replace H := bd H
 obtain ⟨t298, A2, H⟩ := H
 replace H := ifb H
 rcases H with ⟨rfl, H⟩ | ⟨rfl, H⟩
 ·have H' := Aside0.mk H
  clear H
  go_enter Tryz.func42, Tryz.ntmps42
  go_wp2_with (first | ((with_reducible refine gate_callee (f := 70) rfl ?_); refine gL 6 Tryz.func70 #[.slice A0 l0.length c0] ?_; (with_reducible refine (words_May.calls _ _ l0 true _ ?side1 ?side2 A2.out).mono ?_); (case side1 => exact cx HR0.out); (case side2 => exact HC0.out); rintro e w' ⟨rfl, ⟨nd, rfl⟩⟩; refine ⟨_, rfl, ?_⟩) | ((with_reducible refine gate_dst (N := 4) rfl ?_); refine boxE HB 4 26 #[.slice none 0 0] ?_; clear HB; intro gb299 w4 BK299 GW299 hg hb HB; have GE299 := GW299; clear hb hg) | go_in)
  repeat ((fail))
  go_loopg [9] k (fun kq v21 w' => ∃ (x21_1 : Int) (x300000_1 : List (S70)) (u300000 : Value), v21 = .int .i64 x21_1 ∧ Aside0 (words_Spans.l0 kq l0 (l0.length : Int) x21_1 x300000_1 = some (r1, r2)) ∧ Aside0 (kq ≤ k) ∧ Aside0 (Kd.R k70 70 w' w.heap.size (fun _ => True) u300000 x300000_1) ∧ Aside0 (w'.heap[gb299]? = some (.cells #[u300000] 26 (0, 0))) ∧ Aside0 (Below w.heap.size w w'))
  case atStart => exact ⟨(0), (([] : List (S70))), (.slice none 0 0), (by rfl), H', ⟨Nat.le_refl _⟩, ⟨nl⟩, ⟨bx BK299.out⟩, ⟨bh HB.out⟩⟩
  case round =>
   clear H'
   obtain ⟨x21_1, x300000_1, u300000, rfl, HA, HK1, HO_300000, BK299, HB⟩ := hrel
   cases gk with
   | zero => exact absurd HA.out (by simp [words_Spans.l0])
   | succ k1 =>
    have H := HA.out
    clear HA
    simp only [words_Spans.l0] at H
    replace H := ifd H
    rcases H with ⟨-, c5b0, H⟩ | ⟨-, c5b0, H⟩
    ·replace H := ifn H
     obtain ⟨-, c6b0, H⟩ := H
     replace H := ifn H
     obtain ⟨-, c7b0, H⟩ := H
     replace H := bd H
     obtain ⟨t301, A8, H⟩ := H
     have H' := Aside0.mk H
     clear H
     have p300 : 0 ≤ (x21_1 : Int) := ad
     have q300 : x21_1 < (l0.length : Int) := ad
     obtain ⟨ad300, e300, hx300_0⟩ := Kd.at_int HR0.out x21_1 p300 q300
     cases e300
     replace hx300_0 := cb HB.out.cell hx300_0
     replace p300 := eq_true p300
     replace q300 := eq_true q300
     go_wp2_with (((with_reducible refine gate_callee (f := 91) rfl ?_); refine gL 15 Tryz.func91 #[.int .i64 (rd l0 x21_1), .int .i64 0] ?_; (with_reducible refine (bits_Next.calls k1 (rd l0 x21_1) 0 t301 _ A8.out).mono ?_); rintro e w9 ⟨rfl, hb⟩; refine ⟨_, rfl, ?_⟩; replace HO_300000 := rba HO_300000 hb; replace BK299 := bba BK299 hb; replace HB := bsa HB hb; clear hb))
     repeat ((fail))
     go_loopg [6] k1 (fun kq v18 w' => ∃ (x18_2 : Int) (x300000_2 : List (S70)) (u300000 : Value), v18 = .int .i64 x18_2 ∧ Aside0 (words_Spans.l1 kq x21_1 (rd l0 x21_1) x18_2 l0 (l0.length : Int) x21_1 x300000_2 = some (r1, r2)) ∧ Aside0 (kq ≤ k1) ∧ Aside0 (Kd.R k70 70 w' w.heap.size (fun _ => True) u300000 x300000_2) ∧ Aside0 (w'.heap[gb299]? = some (.cells #[u300000] 26 (0, 0))) ∧ Aside0 (Below w.heap.size w w'))
     case atStart => exact ⟨(t301), (x300000_1), (u300000), (by rfl), H', ⟨Nat.le_refl _⟩, ⟨by exact HO_300000.out⟩, ⟨bx BK299.out⟩, ⟨bh HB.out⟩⟩
     case round =>
      clear H' c5b0 c6b0 c7b0 hx300_0 p300 q300
      obtain ⟨x18_2, x300000_2, u300000, rfl, HA, HK2, HO_300000, BK299, HB⟩ := hrel
      cases gk with
      | zero => exact absurd HA.out (by simp [words_Spans.l1])
      | succ k2 =>
       have H := HA.out
       clear HA
       simp only [words_Spans.l1] at H
       replace H := ifd H
       rcases H with ⟨-, c10b0, H⟩ | ⟨-, c10b0, H⟩
       ·have HC11 := Aside0.mk H
        clear H
        obtain ⟨hcz12_0, hfz12_0⟩ := b1 BK299
        obtain ⟨Ao13, co13, eo13⟩ := Kd.R_slice HO_300000.out
        subst eo13
        go_upto_region 2 with (go_in)
        go_cut [18] (fun v60 wc => ∃ (kq : Nat) (x60_10 : Bool), v60 = .bool x60_10 ∧ Aside0 (words_Spans.j2 kq x21_1 (rd l0 x21_1) x18_2 l0 (l0.length : Int) x21_1 (wrap64 ((wrap64 (64 * x21_1)) + x18_2)) (wrap64 ((x300000_2.length : Int) - 1)) x60_10 x300000_2 = some (r1, r2)) ∧ Aside0 (kq ≤ k2) ∧ Aside0 (Kd.R k70 70 wc w.heap.size (fun _ => True) (.slice Ao13 x300000_2.length co13) x300000_2) ∧ Aside0 (wc.heap[gb299]? = some (.cells #[(.slice Ao13 x300000_2.length co13)] 26 (0, 0))) ∧ Aside0 (Below w.heap.size w wc))
        case first =>
         have H := HC11.out
         clear HC11
         replace H := ifd H
         rcases H with ⟨-, c14b0, H⟩ | ⟨-, c14b0, H⟩
         ·(skip)
          obtain ⟨ji15, hji15⟩ : ∃ j_ : Int, (wrap64 ((x300000_2.length : Int) - 1)) = j_ := ⟨_, rfl⟩
          replace H : (if 0 ≤ (ji15) then (if (ji15) < (x300000_2.length : Int) then (words_Spans.j2 k2 x21_1 (rd l0 x21_1) x18_2 l0 (l0.length : Int) x21_1 (wrap64 ((wrap64 (64 * x21_1)) + x18_2)) ji15 (((rd_T70 x300000_2 (ji15)).f1) == (wrap64 ((wrap64 (64 * x21_1)) + x18_2))) x300000_2) else (none)) else (none)) = some (r1, r2) := by (rw [hji15] at H; exact H)
          (rw [hji15] at c14b0)
          have hji15w : (IntKind.i64.wrap ((x300000_2.length : Int) - 1)) = ji15 := (i64_w _).trans hji15
          replace H := ifn H
          obtain ⟨-, c16b0, H⟩ := H
          replace H := ifn H
          obtain ⟨-, c17b0, H⟩ := H
          have H' := Aside0.mk H
          clear H
          obtain ⟨hcz18_0, hfz18_0⟩ := b1 BK299
          have p302 : 0 ≤ ((ji15) : Int) := ad
          have q302 : (ji15) < (x300000_2.length : Int) := ad
          obtain ⟨ad302, e302, hx302_0, hx302_1⟩ := at_T70 (Kd.R_reads' HO_300000.out).2.2 (ji15) p302 q302
          cases e302
          replace p302 := eq_true p302
          replace q302 := eq_true q302
          go_wp2
          go_meet
          case rel => exact ⟨_, ((((rd_T70 x300000_2 (ji15)).f1) == (wrap64 ((wrap64 (64 * x21_1)) + x18_2)))), (by rfl), (by (simp only [hji15]; exact H')), ⟨by have := HK1.out; have := HK2.out; omega⟩, ⟨by exact HO_300000.out⟩, ⟨bx BK299.out⟩, ⟨bh HB.out⟩⟩
         ·(skip)
          have H' := Aside0.mk H
          clear H
          go_wp2
          go_meet
          case rel => exact ⟨_, (false), (by rfl), H', ⟨by have := HK1.out; have := HK2.out; omega⟩, ⟨by exact HO_300000.out⟩, ⟨bx BK299.out⟩, ⟨bh HB.out⟩⟩
        case rest =>
         clear HC11 c10b0 hcz12_0 hfz12_0
         obtain ⟨kq, x60_10, rfl, HA, HJ10, HO_300000, BK299, HB⟩ := hcut
         cases kq with
         | zero => exact absurd HA.out (by simp [words_Spans.j2])
         | succ kj10 =>
          have H := HA.out
          clear HA
          simp only [words_Spans.j2] at H
          replace H := ifb H
          rcases H with ⟨rfl, H⟩ | ⟨rfl, H⟩
          ·obtain ⟨ji20, hji20⟩ : ∃ j_ : Int, (wrap64 ((x300000_2.length : Int) - 1)) = j_ := ⟨_, rfl⟩
           replace H : (if 0 ≤ (ji20) then (if (ji20) < (x300000_2.length : Int) then ((bits_Next.f kj10 (rd l0 x21_1) (wrap64 (x18_2 + 1))).bind fun t305 => (words_Spans.l1 kj10 x21_1 (rd l0 x21_1) t305 l0 (l0.length : Int) x21_1 (x300000_2.set ((ji20) : Int).toNat (⟨(rd_T70 x300000_2 (ji20)).f0, wrap64 (((rd_T70 x300000_2 (ji20)).f1) + 1)⟩ : S70)))) else (none)) else (none)) = some (r1, r2) := by (rw [hji20] at H; exact H)
           have hji20w : (IntKind.i64.wrap ((x300000_2.length : Int) - 1)) = ji20 := (i64_w _).trans hji20
           replace H := ifn H
           obtain ⟨-, c21b0, H⟩ := H
           replace H := ifn H
           obtain ⟨-, c22b0, H⟩ := H
           obtain ⟨y304, hy304⟩ : ∃ y_ : List (S70), y_ = (x300000_2.set ((ji20) : Int).toNat (⟨(rd_T70 x300000_2 (ji20)).f0, wrap64 (((rd_T70 x300000_2 (ji20)).f1) + 1)⟩ : S70)) := ⟨_, rfl⟩
           replace H : ((bits_Next.f kj10 (rd l0 x21_1) (wrap64 (x18_2 + 1))).bind fun t305 => (words_Spans.l1 kj10 x21_1 (rd l0 x21_1) t305 l0 (l0.length : Int) x21_1 y304)) = some (r1, r2) := by (rw [hy304]; with_reducible exact H)
           have Ny304 := Aside0.mk hy304
           clear hy304
           replace H := bd H
           obtain ⟨t305, A24, H⟩ := H
           have H' := Aside0.mk H
           clear H
           obtain ⟨hcz25_0, hfz25_0⟩ := b1 BK299
           have p303 : 0 ≤ ((ji20) : Int) := ad
           have q303 : (ji20) < (x300000_2.length : Int) := ad
           obtain ⟨ad303, e303, hx303_0, hx303_1⟩ := at_T70 (Kd.R_reads' HO_300000.out).2.2 (ji20) p303 q303
           cases e303
           replace p303 := eq_true p303
           replace q303 := eq_true q303
           have p23 : 0 ≤ ((ji20) : Int) := ad
           have q23 : ((ji20) : Int) < ((x300000_2.length : Int) : Int) := ad
           obtain ⟨go23, co23, eo23, gb23, gl23, cl23, HG23⟩ := Kd.R_form HO_300000.out (by omega)
           (cases eo23)
           have GB23 := Aside0.mk gb23
           have GG23 := Aside0.mk HG23
           clear gb23 gl23 HG23
           (simp only [add_plain] at hx303_0)
           (simp only [add_plain] at hx303_1)
           obtain ⟨ce23, hcl23, hM23, hcc23, hfr23⟩ := Kd.R_elem HO_300000.out z70 ((ji20) : Int) p23 q23
           obtain rfl := k70_openM hM23
           have hx23_0 : wc.cell? ⟨go23, ((ji20) : Int).toNat * 2, none⟩ = some (.int .i64 ((rd_T70 x300000_2 (ji20)).f0)) := hcc23 0 _ rfl
           have hx23_1 : wc.cell? ⟨go23, ((ji20) : Int).toNat * 2 + 1, none⟩ = some (.int .i64 ((rd_T70 x300000_2 (ji20)).f1)) := hcc23 1 _ rfl
           have hf23_0 : wc.frozen? ⟨go23, ((ji20) : Int).toNat * 2, none⟩ = false := hfr23 0
           have hf23_1 : wc.frozen? ⟨go23, ((ji20) : Int).toNat * 2 + 1, none⟩ = false := hfr23 1
           clear hcl23 hcc23 hfr23 hM23
           replace p23 := eq_true p23
           replace q23 := eq_true q23
           have HX26 := Aside0.mk (show Kd.R k70 70 wc w.heap.size (fun _ => True) (.slice (some ⟨go23, 0, none⟩) x300000_2.length co13) x300000_2 from (rx HO_300000.out))
           obtain ⟨ce26, hcl26, hM26, hcc26, hfr26⟩ := Kd.R_elem HX26.out z70 ((ji20) : Int) (of_decide_eq_true (by assumption)) (by have h_ : ((ji20) : Int) < ((x300000_2.length : Int) : Int) := of_decide_eq_true (by assumption); exact h_)
           obtain rfl := k70_openM hM26
           have HP26 := Kd.R_seg HX26.out ((ji20) : Int) (of_decide_eq_true (by assumption)) (by have h_ : ((ji20) : Int) < ((x300000_2.length : Int) : Int) := of_decide_eq_true (by assumption); exact h_) (seg := [.int .i64 (wrap64 (((rd_T70 x300000_2 (ji20)).f1) + 1))]) (j := 1) hcl26 hcc26 (show 2 ≤ 2 from by decide) (x' := (⟨(rd_T70 x300000_2 (ji20)).f0, wrap64 (((rd_T70 x300000_2 (ji20)).f1) + 1)⟩ : S70)) (k70_mkM _ _ _ (⟨(rd_T70 x300000_2 (ji20)).f0, wrap64 (((rd_T70 x300000_2 (ji20)).f1) + 1)⟩ : S70) ) (fun _ hk => hk)
           have hx26_1 := hcc26 1 _ rfl
           (simp only [show (k70).sz = 2 from rfl, Nat.mul_one, Nat.add_zero] at hx26_1)
           have hf26_1 := hfr26 1
           (simp only [show (k70).sz = 2 from rfl, Nat.mul_one, Nat.add_zero] at hf26_1)
           clear hcl26 hcc26 hfr26 hM26
           go_wp2_with (first | ((with_reducible refine gate_store (t := 3) (p := 26) rfl ?_); refine stE 3 26 (wc.setCell ⟨go23, ((ji20) : Int).toNat * 2 + 1, none⟩ (.int .i64 (wrap64 (((rd_T70 x300000_2 (ji20)).f1) + 1)))) ?_; intro w27 hw; have hg : wc.grownBy w27 (some go23) := (by rw [hw]; exact HP26.2); have hp_ : Kd.R k70 70 w27 w.heap.size (fun _ => True) (.slice (some ⟨go23, 0, none⟩) x300000_2.length co13) y304 := (by rw [hw, Ny304.out]; exact HP26.1); clear HP26; replace BK299 := Aside0.mk (blk_grown (g := gb299) (o := .cells #[.slice (some ⟨go23, 0, none⟩) x300000_2.length co13] 26 (0, 0)) (bx BK299.out) hg (Kd.R_ne HO_300000.out BK299.out (by decide))); replace HO_300000 := Aside0.mk (hp_); replace HB := Aside0.mk ((by rw [hw]; exact below_set (HB.out) GB23.out : Below w.heap.size w w27)); clear hg hw hp_) | ((with_reducible refine gate_callee (f := 91) rfl ?_); refine gL 21 Tryz.func91 #[.int .i64 (rd l0 x21_1), .int .i64 (wrap64 (x18_2 + 1))] ?_; (with_reducible refine (bits_Next.calls kj10 (rd l0 x21_1) (wrap64 (x18_2 + 1)) t305 _ A24.out).mono ?_); rintro e w28 ⟨rfl, hb⟩; refine ⟨_, rfl, ?_⟩; replace HO_300000 := rba HO_300000 hb; replace BK299 := bba BK299 hb; replace HB := bsa HB hb; clear hb))
           repeat ((fail))
           go_roundg kj10
           case measure => have := HK1.out; have := HK2.out; have := HJ10.out; omega
           case rel => exact ⟨(t305), (y304), (.slice (some ⟨go23, 0, none⟩) x300000_2.length co13), (by rfl), (by exact H'), ⟨by have := HK1.out; have := HK2.out; have := HJ10.out; omega⟩, ⟨by exact HO_300000.out⟩, ⟨bx BK299.out⟩, ⟨bh HB.out⟩⟩
          ·replace H := ifn H
           obtain ⟨c29, -, H⟩ := H
           have LMc29 := Aside0.mk c29
           clear c29
           obtain ⟨y306, hy306⟩ : ∃ y_ : List (S70), y_ = (x300000_2 ++ [(⟨(wrap64 ((wrap64 (64 * x21_1)) + x18_2)), wrap64 ((wrap64 ((wrap64 (64 * x21_1)) + x18_2)) + 1)⟩ : S70)]) := ⟨_, rfl⟩
           replace H : ((bits_Next.f kj10 (rd l0 x21_1) (wrap64 (x18_2 + 1))).bind fun t309 => (words_Spans.l1 kj10 x21_1 (rd l0 x21_1) t309 l0 (l0.length : Int) x21_1 y306)) = some (r1, r2) := by (rw [hy306]; with_reducible exact H)
           have Ny306 := Aside0.mk hy306
           clear hy306
           replace H := bd H
           obtain ⟨t309, A30, H⟩ := H
           have H' := Aside0.mk H
           clear H
           obtain ⟨hcz31_0, hfz31_0⟩ := b1 BK299
           go_wp2_with (first | ((with_reducible refine gate_builtin (b := .append) (xs := #[.tmp 27, .tmp 32]) rfl ?_); at_builtin; refine Kd.R_append k70 (w0 := w) w.heap.size rfl (.tmp 27) (.tmp 32) 26 70 (.agg #[(.int .i64 0), (.int .i64 0)]) 16 rfl Tryz.underlying26 info70 rfl (by decide) (by omega) (.slice Ao13 x300000_2.length co13) x300000_2 (⟨(wrap64 ((wrap64 (64 * x21_1)) + x18_2)), wrap64 ((wrap64 ((wrap64 (64 * x21_1)) + x18_2)) + 1)⟩ : S70) [.int .i64 (wrap64 ((wrap64 (64 * x21_1)) + x18_2)), .int .i64 (wrap64 ((wrap64 ((wrap64 (64 * x21_1)) + x18_2)) + 1))] (fun _ => True) (fun _ => False) rfl rfl ?aP (fun _ hk => hk.elim) ?aF ?aO ?aB ?aS ?aL ?_; (case aP => exact k70_mkM _ _ _ (⟨(wrap64 ((wrap64 (64 * x21_1)) + x18_2)), wrap64 ((wrap64 ((wrap64 (64 * x21_1)) + x18_2)) + 1)⟩ : S70)); (case aB => exact (bh HB.out)); (case aF => exact (fun _ _ => trivial)); (case aO => exact (rx HO_300000.out)); (case aS => exact (below_size (bh HB.out))); (case aL => have := LMc29.out; omega); intro v307 w32 ho hb hg hat; rw [← Ny306.out] at ho; have n0_ := Aside0.mk (blk_grown (g := gb299) (o := .cells #[.slice Ao13 x300000_2.length co13] 26 (0, 0)) (bx BK299.out) hg (Kd.R_ne HO_300000.out BK299.out (by decide))); have n1_ := Aside0.mk (hb); have n2_ := Aside0.mk (ho); clear BK299 HB HO_300000; have BK299 := n0_; have HB := n1_; have HO308 := n2_; clear n0_ n1_ n2_ ho hb hg hat; obtain ⟨Ao33, co33, eo33⟩ := Kd.R_slice HO308.out; subst eo33; obtain ⟨hcz34_0, hfz34_0⟩ := b1 BK299) | ((with_reducible refine gate_callee (f := 91) rfl ?_); refine gL 21 Tryz.func91 #[.int .i64 (rd l0 x21_1), .int .i64 (wrap64 (x18_2 + 1))] ?_; (with_reducible refine (bits_Next.calls kj10 (rd l0 x21_1) (wrap64 (x18_2 + 1)) t309 _ A30.out).mono ?_); rintro e w35 ⟨rfl, hb⟩; refine ⟨_, rfl, ?_⟩; replace HO308 := Aside0.mk (Kd.R_below (by exact (Kd.R_mono (Kd.R_far (p := ⟨gb299, 0, none⟩) (Kd.R_types HO308.out BK299.out (by decide)) (fun _ hk => hk.2) (.slice Ao33 y306.length co33)) (fun _ h_ => h_.1))) hb); replace BK299 := Aside0.mk (blk_below (g := gb299) (o := .cells #[.slice Ao33 y306.length co33] 26 (0, 0)) (by refine blk_put (cs := #[.slice Ao13 x300000_2.length co13]) ?_ 0 _ rfl; exact BK299.out) hb); replace HB := bsa HB hb; clear hb))
           repeat ((fail))
           go_roundg kj10
           case measure => have := HK1.out; have := HK2.out; have := HJ10.out; omega
           case rel => exact ⟨(t309), (y306), (.slice Ao33 y306.length co33), (by rfl), H', ⟨by have := HK1.out; have := HK2.out; have := HJ10.out; omega⟩, ⟨by exact HO308.out⟩, ⟨bx BK299.out⟩, ⟨bh HB.out⟩⟩
       ·have H' := Aside0.mk H
        clear H
        go_wp2
        go_roundg k2
        case measure => have := HK1.out; have := HK2.out; omega
        case rel => exact ⟨(wrap64 (x21_1 + 1)), (x300000_2), (u300000), (by rfl), H', ⟨by have := HK1.out; have := HK2.out; omega⟩, ⟨by exact HO_300000.out⟩, ⟨bx BK299.out⟩, ⟨bh HB.out⟩⟩
    ·simp only [Option.some.injEq, Prod.mk.injEq] at H
     obtain ⟨rfl, rfl⟩ := H
     obtain ⟨hcz36_0, hfz36_0⟩ := b1 BK299
     go_wp2
     repeat ((go_end0); go_wp2)
     go_ret2
     exact ⟨_, er, by exact HO_300000.out, bh HB.out⟩
 ·simp only [Option.some.injEq, Prod.mk.injEq] at H
  obtain ⟨rfl, rfl⟩ := H
  go_enter Tryz.func42, Tryz.ntmps42
  go_wp2_with (((with_reducible refine gate_callee (f := 70) rfl ?_); refine gL 6 Tryz.func70 #[.slice A0 l0.length c0] ?_; (with_reducible refine (words_May.calls _ _ l0 false _ ?side1 ?side2 A2.out).mono ?_); (case side1 => exact cx HR0.out); (case side2 => exact HC0.out); rintro e w' ⟨rfl, ⟨nd, rfl⟩⟩; refine ⟨_, rfl, ?_⟩))
  repeat ((fail))
  go_ret2
  exact ⟨_, er, nl, bh HB.out⟩
/-! ### poslist_List_Spans: function 12 -/
def poslist_List_Spans.f (k : Nat) (a0_0 : Int) (l0_1 : List (S70)) (l0_2 : List Int) (l0_3 : List Int) : Option ((List (S70))) := if a0_0 = 2 then ((words_Spans.f k l0_2).bind fun bt311 => (some bt311.1)) else (if a0_0 = 3 then ((span_Of.f k l0_3).bind fun bt315 => (some bt315.1)) else ((api_Span_44.f l0_1).bind fun t319 => (some t319)))
set_option maxHeartbeats 8000000 in
set_option maxRecDepth 100000 in
theorem poslist_List_Spans.calls (k : Nat) (a0_0 : Int) (A0_1 : Option Addr) (c0_1 : Nat) (l0_1 : List (S70)) (A0_2 : Option Addr) (c0_2 : Nat) (l0_2 : List Int) (A0_3 : Option Addr) (c0_3 : Nat) (l0_3 : List Int) (r : List (S70)) (w : World) (hr0_1 : Kd.C k70 w A0_1 l0_1.length l0_1) (hc0_1 : l0_1.length ≤ c0_1) (hr0_2 : Kd.C (Kd.int .i64) w A0_2 l0_2.length l0_2) (hc0_2 : l0_2.length ≤ c0_2) (hr0_3 : Kd.C (Kd.int .i64) w A0_3 l0_3.length l0_3) (hc0_3 : l0_3.length ≤ c0_3) (h : poslist_List_Spans.f k a0_0 l0_1 l0_2 l0_3 = some r) :
  Calls Tryz.prog 12 #[.agg #[.int .i64 a0_0, .slice A0_1 l0_1.length c0_1, .slice A0_2 l0_2.length c0_2, .slice A0_3 l0_3.length c0_3]] w fun e w' => ∃ v0_ : Value, e = .returned (v0_) ∧ Kd.R k70 70 w' w.heap.size (fun _ => True) v0_ r ∧ Below w.heap.size w w' := by
 have hu29 := Tryz.underlying29
 have HR0_1 := Aside0.mk hr0_1
 have HC0_1 := Aside0.mk hc0_1
 clear hr0_1 hc0_1
 have HR0_2 := Aside0.mk hr0_2
 have HC0_2 := Aside0.mk hc0_2
 clear hr0_2 hc0_2
 have HR0_3 := Aside0.mk hr0_3
 have HC0_3 := Aside0.mk hc0_3
 clear hr0_3 hc0_3
 have HB := Aside0.mk (Below.refl w.heap.size w)
 have H := h
 clear h
 unfold poslist_List_Spans.f at H
 replace H := ife H
 rcases H with ⟨-, c2b0, c2b1, H⟩ | ⟨c2, c2b0, c2b1, H⟩
 ·replace H := bd H
  obtain ⟨⟨t311, t312⟩, A3, H⟩ := H
  dsimp only at H
  obtain rfl := Option.some.inj H
  go_enter Tryz.func12, Tryz.ntmps12
  go_wp2_with (first | ((with_reducible refine gate_dst (N := 1) rfl ?_); refine boxE HB 1 29 #[.int .i64 a0_0, .slice A0_1 l0_1.length c0_1, .slice A0_2 l0_2.length c0_2, .slice A0_3 l0_3.length c0_3] ?_; clear HB; intro gb310 w4 BK310 GW310 hg hb HB; have GE310 := GW310; clear hb hg; obtain ⟨hcz5_0, hcz5_1, hcz5_2, hcz5_3, hfz5_0, hfz5_1, hfz5_2, hfz5_3⟩ := b4 BK310) | ((with_reducible refine gate_callee (f := 42) rfl ?_); refine gL 14 Tryz.func42 #[.slice A0_2 l0_2.length c0_2] ?_; (with_reducible refine (words_Spans.calls k _ _ l0_2 t311 t312 _ ?side1 ?side2 A3.out).mono ?_); (case side1 => exact cx (Kd.C_below HR0_2.out HB.out)); (case side2 => exact HC0_2.out); rintro e w6 ⟨v313, rfl, ho0, hb⟩; refine ⟨_, rfl, ?_⟩; have HO314 := Aside0.mk (Kd.R_lower ho0 (below_size (bh HB.out))); replace BK310 := bba BK310 hb; replace HB := bsa HB hb; clear hb ho0))
  go_ret
  exact ⟨_, er, by exact HO314.out, bh HB.out⟩
 ·replace H := ife H
  rcases H with ⟨-, c7b0, c7b1, H⟩ | ⟨c7, c7b0, c7b1, H⟩
  ·replace H := bd H
   obtain ⟨⟨t315, t316⟩, A8, H⟩ := H
   dsimp only at H
   obtain rfl := Option.some.inj H
   go_enter Tryz.func12, Tryz.ntmps12
   go_wp2_with (first | ((with_reducible refine gate_dst (N := 1) rfl ?_); refine boxE HB 1 29 #[.int .i64 a0_0, .slice A0_1 l0_1.length c0_1, .slice A0_2 l0_2.length c0_2, .slice A0_3 l0_3.length c0_3] ?_; clear HB; intro gb310 w9 BK310 GW310 hg hb HB; have GE310 := GW310; clear hb hg; obtain ⟨hcz10_0, hcz10_1, hcz10_2, hcz10_3, hfz10_0, hfz10_1, hfz10_2, hfz10_3⟩ := b4 BK310) | ((with_reducible refine gate_callee (f := 43) rfl ?_); refine gL 23 Tryz.func43 #[.slice A0_3 l0_3.length c0_3] ?_; (with_reducible refine (span_Of.calls k _ _ l0_3 t315 t316 _ ?side1 ?side2 A8.out).mono ?_); (case side1 => exact cx (Kd.C_below HR0_3.out HB.out)); (case side2 => exact HC0_3.out); rintro e w11 ⟨v317, rfl, ho0, hb⟩; refine ⟨_, rfl, ?_⟩; have HO318 := Aside0.mk (Kd.R_lower ho0 (below_size (bh HB.out))); replace BK310 := bba BK310 hb; replace HB := bsa HB hb; clear hb ho0))
   go_ret
   exact ⟨_, er, by exact HO318.out, bh HB.out⟩
  ·replace H := bd H
   obtain ⟨t319, A12, H⟩ := H
   obtain rfl := Option.some.inj H
   go_enter Tryz.func12, Tryz.ntmps12
   go_wp2_with (first | ((with_reducible refine gate_dst (N := 1) rfl ?_); refine boxE HB 1 29 #[.int .i64 a0_0, .slice A0_1 l0_1.length c0_1, .slice A0_2 l0_2.length c0_2, .slice A0_3 l0_3.length c0_3] ?_; clear HB; intro gb310 w13 BK310 GW310 hg hb HB; have GE310 := GW310; clear hb hg; obtain ⟨hcz14_0, hcz14_1, hcz14_2, hcz14_3, hfz14_0, hfz14_1, hfz14_2, hfz14_3⟩ := b4 BK310) | ((with_reducible refine gate_callee (f := 44) rfl ?_); refine gL 29 Tryz.func44 #[.slice A0_1 l0_1.length c0_1] ?_; (with_reducible refine (api_Span_44.calls _ _ l0_1 t319 _ ?side1 ?side2 A12.out).mono ?_); (case side1 => exact cx (Kd.C_below HR0_1.out HB.out)); (case side2 => exact HC0_1.out); rintro e w15 ⟨v320, rfl, ho0, hb⟩; refine ⟨_, rfl, ?_⟩; have HO321 := Aside0.mk (Kd.R_lower ho0 (below_size (bh HB.out))); replace BK310 := bba BK310 hb; replace HB := bsa HB hb; clear hb ho0))
   go_ret
   exact ⟨_, er, by exact HO321.out, bh HB.out⟩
/-! ### poslist_List_bits: function 106 -/
def poslist_List_bits.f (k : Nat) (a0_0 : Int) (l0_1 : List (S70)) (l0_2 : List Int) (l0_3 : List Int) : Option (List Int) := if a0_0 = 2 then (some l0_2) else ((poslist_List_Spans.f k a0_0 l0_1 l0_2 l0_3).bind fun t323 => ((words_Of.f k t323).bind fun bt326 => (some bt326.1)))
set_option maxHeartbeats 8000000 in
set_option maxRecDepth 100000 in
theorem poslist_List_bits.calls (k : Nat) (a0_0 : Int) (A0_1 : Option Addr) (c0_1 : Nat) (l0_1 : List (S70)) (P0_2_ : Nat → Prop) (A0_2 : Option Addr) (c0_2 : Nat) (l0_2 : List Int) (A0_3 : Option Addr) (c0_3 : Nat) (l0_3 : List Int) (r : List Int) (w : World) (hr0_1 : Kd.C k70 w A0_1 l0_1.length l0_1) (hc0_1 : l0_1.length ≤ c0_1) (hs0_2 : Kd.V (Kd.int .i64) 3 w w.heap.size (fun k_ => P0_2_ k_) (.slice A0_2 l0_2.length c0_2) l0_2) (hr0_3 : Kd.C (Kd.int .i64) w A0_3 l0_3.length l0_3) (hc0_3 : l0_3.length ≤ c0_3) (h : poslist_List_bits.f k a0_0 l0_1 l0_2 l0_3 = some r) :
  Calls Tryz.prog 106 #[.agg #[.int .i64 a0_0, .slice A0_1 l0_1.length c0_1, .slice A0_2 l0_2.length c0_2, .slice A0_3 l0_3.length c0_3]] w fun e w' => ∃ v0_ : Value, e = .returned (v0_) ∧ Kd.V (Kd.int .i64) 3 w' w.heap.size (fun k_ => (P0_2_ k_ ∨ w.heap.size ≤ k_)) v0_ r ∧ Below w.heap.size w w' := by
 have hu29 := Tryz.underlying29
 have HR0_1 := Aside0.mk hr0_1
 have HC0_1 := Aside0.mk hc0_1
 clear hr0_1 hc0_1
 have HO0_2 := Aside0.mk (show Kd.V (Kd.int .i64) 3 w w.heap.size (fun k_ => (P0_2_ k_ ∨ w.heap.size ≤ k_)) (.slice A0_2 l0_2.length c0_2) l0_2 from Kd.V_mono hs0_2 (fun k_ hk => .inl hk))
 have HR0_3 := Aside0.mk hr0_3
 have HC0_3 := Aside0.mk hc0_3
 clear hr0_3 hc0_3
 have HB := Aside0.mk (Below.refl w.heap.size w)
 have H := h
 clear h
 unfold poslist_List_bits.f at H
 replace H := ife H
 rcases H with ⟨-, c2b0, c2b1, H⟩ | ⟨c2, c2b0, c2b1, H⟩
 ·obtain rfl := Option.some.inj H
  go_enter Tryz.func106, Tryz.ntmps106
  go_wp2_with (((with_reducible refine gate_dst (N := 1) rfl ?_); refine box_event ?hg (N := 1) ?hd (cs := #[.int .i64 a0_0, .slice A0_1 l0_1.length c0_1, .slice A0_2 l0_2.length c0_2, .slice A0_3 l0_3.length c0_3]) (t := 29) ?hr ?_; (case hd => rfl); (case hg => rfl); (case hr => (go_simp; done)); intro gb322 hg w3 hbox hb; replace HO0_2 := Aside0.mk (Kd.V_below (Kd.V_elderB (by exact HO0_2.out) gb322 (Nat.le_of_eq hg.symm)) hb); have BK322 := Aside0.mk (hbox); have GW322 := bza HB hg; have GE322 := bza HB hg; replace HB := bsa HB hb; clear hb hbox hg; obtain ⟨hcz4_0, hcz4_1, hcz4_2, hcz4_3, hfz4_0, hfz4_1, hfz4_2, hfz4_3⟩ := b4 BK322))
  go_ret
  exact ⟨_, er, by exact Kd.V_mono HO0_2.out (fun _ hk => hk.1), bh HB.out⟩
 ·replace H := bd H
  obtain ⟨t323, A5, H⟩ := H
  replace H := bd H
  obtain ⟨⟨t326, t327⟩, A6, H⟩ := H
  dsimp only at H
  obtain rfl := Option.some.inj H
  go_enter Tryz.func106, Tryz.ntmps106
  go_wp2_with (first | ((with_reducible refine gate_dst (N := 1) rfl ?_); refine box_event ?hg (N := 1) ?hd (cs := #[.int .i64 a0_0, .slice A0_1 l0_1.length c0_1, .slice A0_2 l0_2.length c0_2, .slice A0_3 l0_3.length c0_3]) (t := 29) ?hr ?_; (case hd => rfl); (case hg => rfl); (case hr => (go_simp; done)); intro gb322 hg w7 hbox hb; replace HO0_2 := Aside0.mk (Kd.V_below (Kd.V_elderB (by exact HO0_2.out) gb322 (Nat.le_of_eq hg.symm)) hb); have BK322 := Aside0.mk (hbox); have GW322 := bza HB hg; have GE322 := bza HB hg; replace HB := bsa HB hb; clear hb hbox hg; obtain ⟨hcz8_0, hcz8_1, hcz8_2, hcz8_3, hfz8_0, hfz8_1, hfz8_2, hfz8_3⟩ := b4 BK322) | ((with_reducible refine gate_callee (f := 12) rfl ?_); refine gL 12 Tryz.func12 #[.agg #[.int .i64 a0_0, .slice A0_1 l0_1.length c0_1, .slice A0_2 l0_2.length c0_2, .slice A0_3 l0_3.length c0_3]] ?_; (with_reducible refine (poslist_List_Spans.calls k a0_0 _ _ l0_1 _ _ l0_2 _ _ l0_3 t323 _ ?side1 ?side2 ?side3 ?side4 ?side5 ?side6 A5.out).mono ?_); (case side1 => exact cx (Kd.C_below HR0_1.out HB.out)); (case side2 => exact HC0_1.out); (case side3 => exact cx (Kd.V_reads' HO0_2.out).2.2); (case side4 => exact (Kd.V_reads' HO0_2.out).2.1); (case side5 => exact cx (Kd.C_below HR0_3.out HB.out)); (case side6 => exact HC0_3.out); rintro e w9 ⟨v324, rfl, ho0, hb⟩; refine ⟨_, rfl, ?_⟩; replace HO0_2 := Aside0.mk (Kd.V_elder' (by exact HO0_2.out) (Kd.R_base ho0) hb); have HO325 := Aside0.mk (Kd.R_lower (Kd.R_newM (M := fun k_ => (w.heap.size ≤ k_)) ho0 (below_size (bh HB.out)) (fun k_ h_ => h_)) (below_size (bh HB.out))); replace BK322 := bba BK322 hb; replace HB := bsa HB hb; clear hb ho0; obtain ⟨Ao10, co10, eo10⟩ := Kd.R_slice HO325.out; subst eo10) | ((with_reducible refine gate_callee (f := 103) rfl ?_); refine gL 13 Tryz.func103 #[.slice Ao10 t323.length co10] ?_; (with_reducible refine (words_Of.calls k _ _ t323 t326 t327 _ ?side1 ?side2 A6.out).mono ?_); (case side1 => exact cx (Kd.R_reads' HO325.out).2.2); (case side2 => exact (Kd.R_reads' HO325.out).2.1); rintro e w11 ⟨v328, rfl, ho0, hb⟩; refine ⟨_, rfl, ?_⟩; replace HO0_2 := Aside0.mk (Kd.V_elder' (by exact HO0_2.out) (Kd.R_base ho0) hb); replace HO325 := rba HO325 hb; have HO329 := Aside0.mk (Kd.R_lower (Kd.R_newM (M := fun k_ => (w.heap.size ≤ k_)) ho0 (below_size (bh HB.out)) (fun k_ h_ => h_)) (below_size (bh HB.out))); replace BK322 := bba BK322 hb; replace HB := bsa HB hb; clear hb ho0))
  go_ret
  exact ⟨_, er, Kd.V_mono (Kd.R_V (by exact Kd.R_mono HO329.out (fun _ hk => hk.1))) (fun k_ hk => by exact (.inr (hk))), bh HB.out⟩
end Go.Proofs.YtdgphlkbmplbpaaGreat.Print
end
section
namespace Go.Proofs.YtdgphlkbmplbpaaGreat.Print
open Go.RowKit Go.Proofs.YtdgphlkbmplbpaaGreatW.PrintWords Go.Proofs.YtdgphlkbmplbpaaGreatW.PrintLast Go.Proofs.YtdgphlkbmplbpaaGreatW.PrintMore
attribute [local go_sem] max2_int min2_int max_two min_two max_three min_three max_four min_four   -- for this text's walks alone
set_option linter.unusedVariables false
set_option linter.unusedSimpArgs false
/-! ### poslist_List_together_fn68_fn69: function 67 -/
def poslist_List_together_fn68_fn69.j0 : Nat → Bool → Int → List (S70) → List Int → List Int → Int → List (S70) → List Int → List Int → Option (Int × (List (S70)) × List Int × List Int)
 | 0, _, _, _, _, _, _, _, _, _ => none
 | k + 1, x22, x331000, x331001, x331002, x331003, x332000, x332001, x332002, x332003 => if x22 = true then ((poslist_List_bits.f k x331000 x331001 x331002 x331003).bind fun t333 => ((poslist_List_bits.f k x332000 x332001 x332002 x332003).bind fun t336 => ((words_Less.f k t333 t336).bind fun bt339 => ((words_Spans.f k bt339.1).bind fun bt343 => ((poslist_best.f k bt343.1).bind fun bt347 => (some (bt347.1, bt347.2.1, bt347.2.2.1, bt347.2.2.2))))))) else ((poslist_List_Spans.f k x331000 x331001 x331002 x331003).bind fun t357 => ((poslist_List_Spans.f k x332000 x332001 x332002 x332003).bind fun t360 => ((span_Less.f k t357 t360).bind fun bt363 => ((poslist_best.f k bt363.1).bind fun bt367 => (some (bt367.1, bt367.2.1, bt367.2.2.1, bt367.2.2.2))))))
def poslist_List_together_fn68_fn69.f (k : Nat) (a0_0 : Int) (l0_1 : List (S70)) (l0_2 : List Int) (l0_3 : List Int) (a1_0 : Int) (l1_1 : List (S70)) (l1_2 : List Int) (l1_3 : List Int)   : Option (Int × (List (S70)) × List Int × List Int) := if a0_0 = 2 then (poslist_List_together_fn68_fn69.j0 k true a0_0 l0_1 l0_2 l0_3 a1_0 l1_1 l1_2 l1_3) else (poslist_List_together_fn68_fn69.j0 k (a1_0 == 2) a0_0 l0_1 l0_2 l0_3 a1_0 l1_1 l1_2 l1_3)
theorem poslist_List_together_fn68_fn69.j0_succ (k) (a0) (a1) (a2) (a3) (a4) (a5) (a6) (a7) (a8) : type_of% (@poslist_List_together_fn68_fn69.j0.eq_2 a0 a1 a2 a3 a4 a5 a6 a7 a8 k) := poslist_List_together_fn68_fn69.j0.eq_2 a0 a1 a2 a3 a4 a5 a6 a7 a8 k
def poslist_List_together_fn68_fn69.T2 : Bool × List (List Nat × List Nat) := (true, [([], []), ([], []), ([1], [1]), ([], []), ([3, 2], [3]), ([0, 2, 4, 4], [0, 2, 4]), ([5], [5]), ([6], [6]), ([6], [6]), ([7, 5, 0, 1, 2, 3, 4, 5, 6, 7], [7]), ([8, 9, 0, 1, 2, 3, 4, 5, 6, 7, 8, 9], [8])])
def poslist_List_together_fn68_fn69.B2 : List Nat := [0, 0, 2, 0, 14, 31, 63, 127, 127, 255, 1023]
theorem poslist_List_together_fn68_fn69.tab2 : rtab .any (opsOf Tryz.f67 2) = poslist_List_together_fn68_fn69.T2 := by kernel_rfl
theorem poslist_List_together_fn68_fn69.bits2 : waitsOk poslist_List_together_fn68_fn69.T2.2 poslist_List_together_fn68_fn69.B2 = true := by kernel_rfl
def poslist_List_together_fn68_fn69.T5 : Bool × List (List Nat × List Nat) := (true, [([], []), ([], []), ([1], [1]), ([], []), ([3, 2], [3]), ([0, 2, 4, 4], [0, 2, 4]), ([5], [5]), ([6], [6]), ([6], [6]), ([7, 5, 0, 1, 2, 3, 4, 5, 6, 7], [7]), ([8, 9, 0, 1, 2, 3, 4, 5, 6, 7, 8, 9], [8])])
def poslist_List_together_fn68_fn69.B5 : List Nat := [0, 0, 2, 0, 14, 31, 63, 127, 127, 255, 1023]
theorem poslist_List_together_fn68_fn69.tab5 : rtab .any (opsOf Tryz.f67 5) = poslist_List_together_fn68_fn69.T5 := by kernel_rfl
theorem poslist_List_together_fn68_fn69.bits5 : waitsOk poslist_List_together_fn68_fn69.T5.2 poslist_List_together_fn68_fn69.B5 = true := by kernel_rfl
set_option maxHeartbeats 8000000 in
set_option maxRecDepth 100000 in
theorem poslist_List_together_fn68_fn69.calls (k : Nat) (a0_0 : Int) (A0_1 : Option Addr) (c0_1 : Nat) (l0_1 : List (S70)) (A0_2 : Option Addr) (c0_2 : Nat) (l0_2 : List Int) (A0_3 : Option Addr) (c0_3 : Nat) (l0_3 : List Int) (a1_0 : Int) (A1_1 : Option Addr) (c1_1 : Nat) (l1_1 : List (S70)) (A1_2 : Option Addr) (c1_2 : Nat) (l1_2 : List Int) (A1_3 : Option Addr) (c1_3 : Nat) (l1_3 : List Int)   (r1 : Int) (r2 : List (S70)) (r3 : List Int) (r4 : List Int) (w : World) (hr0_1 : Kd.C k70 w A0_1 l0_1.length l0_1) (hc0_1 : l0_1.length ≤ c0_1) (hr0_2 : Kd.C (Kd.int .i64) w A0_2 l0_2.length l0_2) (hc0_2 : l0_2.length ≤ c0_2) (hr0_3 : Kd.C (Kd.int .i64) w A0_3 l0_3.length l0_3) (hc0_3 : l0_3.length ≤ c0_3) (hr1_1 : Kd.C k70 w A1_1 l1_1.length l1_1) (hc1_1 : l1_1.length ≤ c1_1) (hr1_2 : Kd.C (Kd.int .i64) w A1_2 l1_2.length l1_2) (hc1_2 : l1_2.length ≤ c1_2) (hr1_3 : Kd.C (Kd.int .i64) w A1_3 l1_3.length l1_3) (hc1_3 : l1_3.length ≤ c1_3) (h : poslist_List_together_fn68_fn69.f k a0_0 l0_1 l0_2 l0_3 a1_0 l1_1 l1_2 l1_3 = some (r1, r2, r3, r4)) :
  Calls Tryz.prog 67 #[.agg #[.int .i64 a0_0, .slice A0_1 l0_1.length c0_1, .slice A0_2 l0_2.length c0_2, .slice A0_3 l0_3.length c0_3], .agg #[.int .i64 a1_0, .slice A1_1 l1_1.length c1_1, .slice A1_2 l1_2.length c1_2, .slice A1_3 l1_3.length c1_3], .func (.func 68) #[] #[], .func (.func 69) #[] #[]] w fun e w' => ∃ v1_ v2_ v3_ : Value, e = .returned (.agg #[.int .i64 r1, v1_, v2_, v3_]) ∧ Kd.R k70 70 w' w.heap.size (fun _ => True) v1_ r2 ∧ Kd.R (Kd.int .i64) 3 w' w.heap.size (fun k_ => some k_ ≠ (v3_ : Value).ownBlock) v2_ r3 ∧ Kd.R (Kd.int .i64) 3 w' w.heap.size (fun k_ => some k_ ≠ (v2_ : Value).ownBlock) v3_ r4 ∧ Below w.heap.size w w' := by
 have hu29 := Tryz.underlying29
 have HR0_1 := Aside0.mk hr0_1
 have HC0_1 := Aside0.mk hc0_1
 clear hr0_1 hc0_1
 have HR0_2 := Aside0.mk hr0_2
 have HC0_2 := Aside0.mk hc0_2
 clear hr0_2 hc0_2
 have HR0_3 := Aside0.mk hr0_3
 have HC0_3 := Aside0.mk hc0_3
 clear hr0_3 hc0_3
 have HR1_1 := Aside0.mk hr1_1
 have HC1_1 := Aside0.mk hc1_1
 clear hr1_1 hc1_1
 have HR1_2 := Aside0.mk hr1_2
 have HC1_2 := Aside0.mk hc1_2
 clear hr1_2 hc1_2
 have HR1_3 := Aside0.mk hr1_3
 have HC1_3 := Aside0.mk hc1_3
 clear hr1_3 hc1_3
 have HB := Aside0.mk (Below.refl w.heap.size w)
 have H := h
 clear h
 unfold poslist_List_together_fn68_fn69.f at H
 have HC5 := Aside0.mk H
 clear H
 go_enter Tryz.func67, Tryz.ntmps67
 go_upto_region 1 with (first | ((with_reducible refine gate_dst (N := 4) rfl ?_); refine boxE HB 4 29 #[.int .i64 a0_0, .slice A0_1 l0_1.length c0_1, .slice A0_2 l0_2.length c0_2, .slice A0_3 l0_3.length c0_3] ?_; clear HB; intro gb330 w6 BK330 GW330 hg hb HB; have GE330 := GW330; clear hb hg) | ((with_reducible refine gate_dst (N := 5) rfl ?_); refine boxE HB 5 29 #[.int .i64 a1_0, .slice A1_1 l1_1.length c1_1, .slice A1_2 l1_2.length c1_2, .slice A1_3 l1_3.length c1_3] ?_; clear HB; intro gb331 w7 BK331 GW331 hg hb HB; have GE331 := GW331; have NB330_331 := bna BK330 hg; have NB331_330 := bma BK330 hg; replace BK330 := bba BK330 hb; clear hb hg) | ((with_reducible refine gate_dst (N := 8) rfl ?_); refine boxE HB 8 29 #[.int .i64 0, .slice none 0 0, .slice none 0 0, .slice none 0 0] ?_; clear HB; intro gb332 w8 BK332 GW332 hg hb HB; have GE332 := GW332; have NB330_332 := bna BK330 hg; have NB332_330 := bma BK330 hg; replace BK330 := bba BK330 hb; have NB331_332 := bna BK331 hg; have NB332_331 := bma BK331 hg; replace BK331 := bba BK331 hb; clear hb hg))
 (simp only [Act.put, List.setIfInBounds_toArray, List.set_cons_zero, List.set_cons_succ])
 go_cut [22] (fun v22 wc => ∃ (kq : Nat) (x22_4 : Bool), v22 = .bool x22_4 ∧ Aside0 (poslist_List_together_fn68_fn69.j0 kq x22_4 a0_0 l0_1 l0_2 l0_3 a1_0 l1_1 l1_2 l1_3 = some (r1, r2, r3, r4)) ∧ Aside0 (kq ≤ k) ∧ Aside0 (wc.heap[gb330]? = some (.cells #[.int .i64 a0_0, (.slice A0_1 l0_1.length c0_1), (.slice A0_2 l0_2.length c0_2), (.slice A0_3 l0_3.length c0_3)] 29 (0, 0))) ∧ Aside0 (wc.heap[gb331]? = some (.cells #[.int .i64 a1_0, (.slice A1_1 l1_1.length c1_1), (.slice A1_2 l1_2.length c1_2), (.slice A1_3 l1_3.length c1_3)] 29 (0, 0))) ∧ Aside0 (wc.heap[gb332]? = some (.cells #[.int .i64 0, (.slice none 0 0), (.slice none 0 0), (.slice none 0 0)] 29 (0, 0))) ∧ Aside0 (Below w.heap.size w wc))
 case first =>
  have H := HC5.out
  clear HC5
  replace H := ife H
  rcases H with ⟨-, c9b0, c9b1, H⟩ | ⟨c9, c9b0, c9b1, H⟩
  ·(skip)
   have H' := Aside0.mk H
   clear H
   have hnb10 := NB330_331.out
   have hnc10 := NB331_330.out
   have hnb11 := NB330_332.out
   have hnc11 := NB332_330.out
   obtain ⟨hcz12_0, hcz12_1, hcz12_2, hcz12_3, hfz12_0, hfz12_1, hfz12_2, hfz12_3⟩ := b4 BK330
   go_wp2
   go_meet
   case rel => exact ⟨_, (true), (by rfl), H', ⟨by omega⟩, ⟨bx BK330.out⟩, ⟨bx BK331.out⟩, ⟨bx BK332.out⟩, ⟨bh HB.out⟩⟩
  ·(skip)
   have H' := Aside0.mk H
   clear H
   have hnb13 := NB330_331.out
   have hnc13 := NB331_330.out
   have hnb14 := NB330_332.out
   have hnc14 := NB332_330.out
   obtain ⟨hcz15_0, hcz15_1, hcz15_2, hcz15_3, hfz15_0, hfz15_1, hfz15_2, hfz15_3⟩ := b4 BK330
   have hnb16 := NB331_332.out
   have hnc16 := NB332_331.out
   obtain ⟨hcz17_0, hcz17_1, hcz17_2, hcz17_3, hfz17_0, hfz17_1, hfz17_2, hfz17_3⟩ := b4 BK331
   go_wp2
   go_meet
   case rel => exact ⟨_, ((a1_0 == 2)), (by rfl), H', ⟨by omega⟩, ⟨bx BK330.out⟩, ⟨bx BK331.out⟩, ⟨bx BK332.out⟩, ⟨bh HB.out⟩⟩
 case rest =>
  clear HC5
  obtain ⟨kq, x22_4, rfl, HA, HJ4, BK330, BK331, BK332, HB⟩ := hcut
  cases kq with
  | zero => exact absurd HA.out (by simp [poslist_List_together_fn68_fn69.j0])
  | succ kj4 =>
   have H := HA.out
   clear HA
   simp only [poslist_List_together_fn68_fn69.j0] at H
   replace H := ifb H
   rcases H with ⟨rfl, H⟩ | ⟨rfl, H⟩
   ·replace H := bd H
    obtain ⟨t333, A19, H⟩ := H
    replace H := bd H
    obtain ⟨t336, A20, H⟩ := H
    replace H := bd H
    obtain ⟨⟨t339, t342⟩, A21, H⟩ := H
    dsimp only at H
    replace H := bd H
    obtain ⟨⟨t343, t344⟩, A22, H⟩ := H
    dsimp only at H
    replace H := bd H
    obtain ⟨⟨t347, t348, t351, t354⟩, A23, H⟩ := H
    dsimp only at H
    simp only [Option.some.injEq, Prod.mk.injEq] at H
    obtain ⟨rfl, rfl, rfl, rfl⟩ := H
    go_wp2
    replace BK330 := Aside0.mk (blk_drew BK330.out)
    replace BK331 := Aside0.mk (blk_drew BK331.out)
    replace BK332 := Aside0.mk (blk_drew BK332.out)
    replace HB := Aside0.mk (below_drew1 HB.out)
    refine start_ (n := 11) (S := fun w' => w'.cell? ⟨gb330, 0, none⟩ = some (.int .i64 a0_0) ∧ w'.cell? ⟨gb330, 1, none⟩ = some (.slice A0_1 l0_1.length c0_1) ∧ w'.cell? ⟨gb330, 2, none⟩ = some (.slice A0_2 l0_2.length c0_2) ∧ w'.cell? ⟨gb330, 3, none⟩ = some (.slice A0_3 l0_3.length c0_3) ∧ w'.cell? ⟨gb331, 0, none⟩ = some (.int .i64 a1_0) ∧ w'.cell? ⟨gb331, 1, none⟩ = some (.slice A1_1 l1_1.length c1_1) ∧ w'.cell? ⟨gb331, 2, none⟩ = some (.slice A1_2 l1_2.length c1_2) ∧ w'.cell? ⟨gb331, 3, none⟩ = some (.slice A1_3 l1_3.length c1_3)) (ds := []) #[false, false, false, false, false, false, false, false, false, false, false] (by kernel_rfl) rfl rfl ⟨(blk_cell BK330.out 0).trans rfl, (blk_cell BK330.out 1).trans rfl, (blk_cell BK330.out 2).trans rfl, (blk_cell BK330.out 3).trans rfl, (blk_cell BK331.out 0).trans rfl, (blk_cell BK331.out 1).trans rfl, (blk_cell BK331.out 2).trans rfl, (blk_cell BK331.out 3).trans rfl⟩ (fun hHeld => ?_); refine with_tabW poslist_List_together_fn68_fn69.tab2 poslist_List_together_fn68_fn69.bits2 (fun HT_ HW_ => ?_)
    generalize wc.drew = w24 at BK330 BK331 BK332 HB hHeld ⊢
    refine puA HT_ 0 24 (bv 11 1) ?_
    refine taA HT_ HW_ hHeld 1 25 (bv 11 3) ?_
    refine taA HT_ HW_ hHeld 3 27 (bv 11 11) ?_
    refine one_ (i := 2) (N := some 26) #[true, true, true, true, false, false, false, false, false, false, false] rfl rfl (one_of HT_.out (by kernel_rfl)) (by decide) (fun K hK => ?_)
    refine goes_ Tryz.func106 (by kernel_rfl) rfl #[.agg #[.int .i64 a0_0, .slice A0_1 l0_1.length c0_1, .slice A0_2 l0_2.length c0_2, .slice A0_3 l0_3.length c0_3]] (by rfl) rfl rfl (by (simp only [List.map_toArray, List.map_cons, List.map_nil]); rfl) ?_
    with_reducible refine (poslist_List_bits.calls kj4 a0_0 _ _ l0_1 (fun k_ => k_ < w.heap.size) _ _ l0_2 _ _ l0_3 t333 _ ?side1 ?side2 ?side3 ?side4 ?side5 A19.out).mono ?_
    (case side1 => exact cx (Kd.C_below HR0_1.out HB.out))
    (case side2 => exact HC0_1.out)
    (case side3 => exact Kd.V_mk HC0_2.out (Kd.F_below (Kd.C_F (Kd.heap_int .i64) HR0_2.out) (bh HB.out)))
    (case side4 => exact cx (Kd.C_below HR0_3.out HB.out))
    (case side5 => exact HC0_3.out)
    rintro e w25 ⟨v334, rfl, ho0, hb⟩
    refine ⟨_, rfl, ?_⟩
    have HO335 := Aside0.mk (Kd.V_lower (Kd.V_mono (ok' := fun k_ => k_ ≠ gb330 ∧ k_ ≠ gb331 ∧ k_ ≠ gb332) ho0 (fun k_ hk_ => ⟨Or.elim hk_ (fun hs_ => fun e_ => Nat.not_le.2 hs_ (by rw [e_]; exact GW330.out)) (fun hn_ => (Kd.freshB (g := gb330) (o := .cells #[.int .i64 a0_0, .slice A0_1 l0_1.length c0_1, .slice A0_2 l0_2.length c0_2, .slice A0_3 l0_3.length c0_3] 29 (0, 0)) (bx BK330.out) k_ hn_)), Or.elim hk_ (fun hs_ => fun e_ => Nat.not_le.2 hs_ (by rw [e_]; exact GW331.out)) (fun hn_ => (Kd.freshB (g := gb331) (o := .cells #[.int .i64 a1_0, .slice A1_1 l1_1.length c1_1, .slice A1_2 l1_2.length c1_2, .slice A1_3 l1_3.length c1_3] 29 (0, 0)) (bx BK331.out) k_ hn_)), Or.elim hk_ (fun hs_ => fun e_ => Nat.not_le.2 hs_ (by rw [e_]; exact GW332.out)) (fun hn_ => (Kd.freshB (g := gb332) (o := .cells #[.int .i64 0, .slice none 0 0, .slice none 0 0, .slice none 0 0] 29 (0, 0)) (bx BK332.out) k_ hn_))⟩)) (below_size (bh HB.out)))
    replace BK330 := bba BK330 hb
    replace BK331 := bba BK331 hb
    replace BK332 := bba BK332 hb
    replace HB := bsa HB hb
    clear hb ho0
    refine hK.out _ _ ⟨(blk_cell BK330.out 0).trans rfl, (blk_cell BK330.out 1).trans rfl, (blk_cell BK330.out 2).trans rfl, (blk_cell BK330.out 3).trans rfl, (blk_cell BK331.out 0).trans rfl, (blk_cell BK331.out 1).trans rfl, (blk_cell BK331.out 2).trans rfl, (blk_cell BK331.out 3).trans rfl⟩ (fun hHeld => ?_)
    clear hK K
    refine norm_ (a' := ?_) ?_ ?_
    rotate_left
    ·show Act.put _ (some 26) _ = _
     simp only [Act.put, List.setIfInBounds_toArray, List.set_cons_zero, List.set_cons_succ, i64_w, i32_w]
     rfl
    refine one_ (i := 4) (N := some 28) #[true, true, true, true, true, false, false, false, false, false, false] rfl rfl (one_of HT_.out (by kernel_rfl)) (by decide) (fun K hK => ?_)
    refine goes_ Tryz.func106 (by kernel_rfl) rfl #[.agg #[.int .i64 a1_0, .slice A1_1 l1_1.length c1_1, .slice A1_2 l1_2.length c1_2, .slice A1_3 l1_3.length c1_3]] (by rfl) rfl rfl (by (simp only [List.map_toArray, List.map_cons, List.map_nil]); rfl) ?_
    with_reducible refine (poslist_List_bits.calls kj4 a1_0 _ _ l1_1 (fun k_ => k_ < w.heap.size) _ _ l1_2 _ _ l1_3 t336 _ ?side1 ?side2 ?side3 ?side4 ?side5 A20.out).mono ?_
    (case side1 => exact cx (Kd.C_below HR1_1.out HB.out))
    (case side2 => exact HC1_1.out)
    (case side3 => exact Kd.V_mk HC1_2.out (Kd.F_below (Kd.C_F (Kd.heap_int .i64) HR1_2.out) (bh HB.out)))
    (case side4 => exact cx (Kd.C_below HR1_3.out HB.out))
    (case side5 => exact HC1_3.out)
    rintro e w26 ⟨v337, rfl, ho0, hb⟩
    refine ⟨_, rfl, ?_⟩
    replace HO335 := Aside0.mk (Kd.V_below (by exact HO335.out) hb)
    have HO338 := Aside0.mk (Kd.V_lower (Kd.V_mono (ok' := fun k_ => k_ ≠ gb330 ∧ k_ ≠ gb331 ∧ k_ ≠ gb332) ho0 (fun k_ hk_ => ⟨Or.elim hk_ (fun hs_ => fun e_ => Nat.not_le.2 hs_ (by rw [e_]; exact GW330.out)) (fun hn_ => (Kd.freshB (g := gb330) (o := .cells #[.int .i64 a0_0, .slice A0_1 l0_1.length c0_1, .slice A0_2 l0_2.length c0_2, .slice A0_3 l0_3.length c0_3] 29 (0, 0)) (bx BK330.out) k_ hn_)), Or.elim hk_ (fun hs_ => fun e_ => Nat.not_le.2 hs_ (by rw [e_]; exact GW331.out)) (fun hn_ => (Kd.freshB (g := gb331) (o := .cells #[.int .i64 a1_0, .slice A1_1 l1_1.length c1_1, .slice A1_2 l1_2.length c1_2, .slice A1_3 l1_3.length c1_3] 29 (0, 0)) (bx BK331.out) k_ hn_)), Or.elim hk_ (fun hs_ => fun e_ => Nat.not_le.2 hs_ (by rw [e_]; exact GW332.out)) (fun hn_ => (Kd.freshB (g := gb332) (o := .cells #[.int .i64 0, .slice none 0 0, .slice none 0 0, .slice none 0 0] 29 (0, 0)) (bx BK332.out) k_ hn_))⟩)) (below_size (bh HB.out)))
    replace BK330 := bba BK330 hb
    replace BK331 := bba BK331 hb
    replace BK332 := bba BK332 hb
    replace HB := bsa HB hb
    clear hb ho0
    obtain ⟨Ao27, co27, eo27⟩ := Kd.V_slice HO335.out
    (subst eo27)
    obtain ⟨Ao28, co28, eo28⟩ := Kd.V_slice HO338.out
    (subst eo28)
    refine hK.out _ _ ⟨(blk_cell BK330.out 0).trans rfl, (blk_cell BK330.out 1).trans rfl, (blk_cell BK330.out 2).trans rfl, (blk_cell BK330.out 3).trans rfl, (blk_cell BK331.out 0).trans rfl, (blk_cell BK331.out 1).trans rfl, (blk_cell BK331.out 2).trans rfl, (blk_cell BK331.out 3).trans rfl⟩ (fun hHeld => ?_)
    clear hK K
    refine norm_ (a' := ?_) ?_ ?_
    rotate_left
    ·show Act.put _ (some 28) _ = _
     simp only [Act.put, List.setIfInBounds_toArray, List.set_cons_zero, List.set_cons_succ, i64_w, i32_w]
     rfl
    refine one_ (i := 5) (N := some 29) #[true, true, true, true, true, true, false, false, false, false, false] rfl rfl (one_of HT_.out (by kernel_rfl)) (by decide) (fun K hK => ?_)
    (refine goesW_ Tryz.func68 (by kernel_rfl) rfl #[.slice Ao27 t333.length co27, .slice Ao28 t336.length co28] (by rfl) rfl rfl rfl (by (simp only [List.map_toArray, List.map_cons, List.map_nil]); rfl) ?_)
    with_reducible refine (words_Less.calls kj4 _ _ t333 _ _ t336 t339 t342 _ ?side1 ?side2 ?side3 ?side4 A21.out).mono ?_
    (case side1 => exact cx (Kd.V_reads' HO335.out).2.2)
    (case side2 => exact (Kd.V_reads' HO335.out).2.1)
    (case side3 => exact cx (Kd.V_reads' HO338.out).2.2)
    (case side4 => exact (Kd.V_reads' HO338.out).2.1)
    rintro e w29 ⟨v340, rfl, ho0, hb⟩
    refine ⟨_, rfl, ?_⟩
    replace HO335 := Aside0.mk (Kd.V_below (by exact HO335.out) hb)
    replace HO338 := Aside0.mk (Kd.V_below (by exact HO338.out) hb)
    have HO341 := Aside0.mk (Kd.V_lower (Kd.V_mono (ok' := fun k_ => k_ ≠ gb330 ∧ k_ ≠ gb331 ∧ k_ ≠ gb332) ho0 (fun k_ hk_ => ⟨(Kd.freshB (g := gb330) (o := .cells #[.int .i64 a0_0, .slice A0_1 l0_1.length c0_1, .slice A0_2 l0_2.length c0_2, .slice A0_3 l0_3.length c0_3] 29 (0, 0)) (bx BK330.out) k_ hk_), (Kd.freshB (g := gb331) (o := .cells #[.int .i64 a1_0, .slice A1_1 l1_1.length c1_1, .slice A1_2 l1_2.length c1_2, .slice A1_3 l1_3.length c1_3] 29 (0, 0)) (bx BK331.out) k_ hk_), (Kd.freshB (g := gb332) (o := .cells #[.int .i64 0, .slice none 0 0, .slice none 0 0, .slice none 0 0] 29 (0, 0)) (bx BK332.out) k_ hk_)⟩)) (below_size (bh HB.out)))
    replace BK330 := bba BK330 hb
    replace BK331 := bba BK331 hb
    replace BK332 := bba BK332 hb
    replace HB := bsa HB hb
    clear hb ho0
    refine hK.out _ _ ⟨(blk_cell BK330.out 0).trans rfl, (blk_cell BK330.out 1).trans rfl, (blk_cell BK330.out 2).trans rfl, (blk_cell BK330.out 3).trans rfl, (blk_cell BK331.out 0).trans rfl, (blk_cell BK331.out 1).trans rfl, (blk_cell BK331.out 2).trans rfl, (blk_cell BK331.out 3).trans rfl⟩ (fun hHeld => ?_)
    clear hK K
    refine norm_ (a' := ?_) ?_ ?_
    rotate_left
    ·show Act.put _ (some 29) _ = _
     simp only [Act.put, List.setIfInBounds_toArray, List.set_cons_zero, List.set_cons_succ, i64_w, i32_w]
     rfl
    refine puA HT_ 6 23 (bv 11 127) ?_
    refine puA HT_ 7 30 (bv 11 255) ?_
    refine puA HT_ 8 31 (bv 11 511) ?_
    refine puA HT_ 9 9 (bv 11 1023) ?_
    refine puA HT_ 10 10 (bv 11 2047) ?_
    refine done_ (done_of HT_.out (by kernel_rfl)) ?_
    obtain ⟨Ao30, co30, eo30⟩ := Kd.V_slice HO341.out
    subst eo30
    go_wp2_with (first | ((with_reducible refine gate_callee (f := 42) rfl ?_); refine gL 34 Tryz.func42 #[.slice Ao30 t339.length co30] ?_; (with_reducible refine (words_Spans.calls kj4 _ _ t339 t343 t344 _ ?side1 ?side2 A22.out).mono ?_); (case side1 => exact cx (Kd.V_reads' HO341.out).2.2); (case side2 => exact (Kd.V_reads' HO341.out).2.1); rintro e w31 ⟨v345, rfl, ho0, hb⟩; refine ⟨_, rfl, ?_⟩; replace HO335 := Aside0.mk (Kd.V_elder' (by exact HO335.out) (Kd.R_base ho0) hb); replace HO338 := Aside0.mk (Kd.V_elder' (by exact HO338.out) (Kd.R_base ho0) hb); replace HO341 := Aside0.mk (Kd.V_elder' (by exact HO341.out) (Kd.R_base ho0) hb); have HO346 := Aside0.mk (Kd.R_lower ho0 (below_size (bh HB.out))); replace BK330 := bba BK330 hb; replace BK331 := bba BK331 hb; replace BK332 := bba BK332 hb; replace HB := bsa HB hb; clear hb ho0; obtain ⟨Ao32, co32, eo32⟩ := Kd.R_slice HO346.out; subst eo32) | ((with_reducible refine gate_callee (f := 105) rfl ?_); refine gL 38 Tryz.func105 #[.slice Ao32 t343.length co32] ?_; (with_reducible refine (poslist_best.calls kj4 _ _ t343 t347 t348 t351 t354 _ ?side1 ?side2 A23.out).mono ?_); (case side1 => exact cx (Kd.R_reads' HO346.out).2.2); (case side2 => exact (Kd.R_reads' HO346.out).2.1); rintro e w33 ⟨v349, v352, v355, rfl, ho0, ho1, ho2, hb⟩; refine ⟨_, rfl, ?_⟩; replace HO335 := Aside0.mk (Kd.V_mono (Kd.V_told (Kd.V_told (Kd.V_told (Kd.V_old (by exact HO335.out) hb) (Kd.R_base ho0)) (Kd.R_base ho1)) (Kd.R_base ho2)) (fun _ h_ => h_.1)); replace HO338 := Aside0.mk (Kd.V_mono (Kd.V_told (Kd.V_told (Kd.V_told (Kd.V_old (by exact HO338.out) hb) (Kd.R_base ho0)) (Kd.R_base ho1)) (Kd.R_base ho2)) (fun _ h_ => h_.1)); replace HO341 := Aside0.mk (Kd.V_mono (Kd.V_told (Kd.V_told (Kd.V_told (Kd.V_old (by exact HO341.out) hb) (Kd.R_base ho0)) (Kd.R_base ho1)) (Kd.R_base ho2)) (fun _ h_ => h_.1)); have HO350 := Aside0.mk (Kd.R_lower (Kd.R_new' ho0 (Kd.R_lt (rx HO346.out))) (below_size (bh HB.out))); replace HO346 := Aside0.mk (Kd.R_elder' (rx HO346.out) (Kd.R_base ho0) hb); have HO353 := Aside0.mk (Kd.R_lower ho1 (below_size (bh HB.out))); have HO356 := Aside0.mk (Kd.R_lower ho2 (below_size (bh HB.out))); replace BK330 := bba BK330 hb; replace BK331 := bba BK331 hb; replace BK332 := bba BK332 hb; replace HB := bsa HB hb; clear hb ho0 ho1 ho2; have hnb34 := NB332_330.out; have hnc34 := NB330_332.out; have hnb35 := NB332_331.out; have hnc35 := NB331_332.out; obtain ⟨hcz36_0, hcz36_1, hcz36_2, hcz36_3, hfz36_0, hfz36_1, hfz36_2, hfz36_3⟩ := b4 BK332; obtain ⟨Ao37, co37, eo37⟩ := Kd.R_slice HO350.out; subst eo37; obtain ⟨Ao38, co38, eo38⟩ := Kd.R_slice HO353.out; subst eo38; obtain ⟨Ao39, co39, eo39⟩ := Kd.R_slice HO356.out; subst eo39) | ((with_reducible refine gate_store (t := 29) (p := 8) rfl ?_); refine stE 29 8 ((((w33.setCell ⟨gb332, 0, none⟩ (.int .i64 t347)).setCell ⟨gb332, 1, none⟩ (.slice Ao37 t348.length co37)).setCell ⟨gb332, 2, none⟩ (.slice Ao38 t351.length co38)).setCell ⟨gb332, 3, none⟩ (.slice Ao39 t354.length co39)) ?_; intro w40 hw; have n0_ : Aside0 (Kd.V (Kd.int .i64) 3 w40 w.heap.size (fun k_ => some k_ ≠ (.slice Ao32 t343.length co32 : Value).ownBlock ∧ some k_ ≠ (.slice Ao37 t348.length co37 : Value).ownBlock ∧ some k_ ≠ (.slice Ao38 t351.length co38 : Value).ownBlock ∧ some k_ ≠ (.slice Ao39 t354.length co39 : Value).ownBlock ∧ k_ ≠ gb330 ∧ k_ ≠ gb331 ∧ k_ ≠ gb332) (.slice Ao27 t333.length co27) t333) := ⟨(by rw [hw]; exact (by exact Kd.V_mono (Kd.V_far (p := ⟨gb332, 3, none⟩) (Kd.V_far (p := ⟨gb332, 2, none⟩) (Kd.V_far (p := ⟨gb332, 1, none⟩) (Kd.V_far (p := ⟨gb332, 0, none⟩) (Kd.V_mono HO335.out (fun k_ hk => (⟨hk, hk.1.1.1.1.2.2⟩ : _ ∧ k_ ≠ gb332))) (fun _ hk => hk.2) (.int .i64 t347)) (fun _ hk => hk.2) (.slice Ao37 t348.length co37)) (fun _ hk => hk.2) (.slice Ao38 t351.length co38)) (fun _ hk => hk.2) (.slice Ao39 t354.length co39)) (fun _ hk => ⟨hk.1.1.1.1.2, ⟨hk.1.1.1.2, ⟨hk.1.1.2, ⟨hk.1.2, ⟨hk.1.1.1.1.1.1, ⟨hk.1.1.1.1.1.2.1, hk.1.1.1.1.1.2.2⟩⟩⟩⟩⟩⟩)))⟩; have n1_ : Aside0 (Kd.V (Kd.int .i64) 3 w40 w.heap.size (fun k_ => some k_ ≠ (.slice Ao32 t343.length co32 : Value).ownBlock ∧ some k_ ≠ (.slice Ao37 t348.length co37 : Value).ownBlock ∧ some k_ ≠ (.slice Ao38 t351.length co38 : Value).ownBlock ∧ some k_ ≠ (.slice Ao39 t354.length co39 : Value).ownBlock ∧ k_ ≠ gb330 ∧ k_ ≠ gb331 ∧ k_ ≠ gb332) (.slice Ao28 t336.length co28) t336) := ⟨(by rw [hw]; exact (by exact Kd.V_mono (Kd.V_far (p := ⟨gb332, 3, none⟩) (Kd.V_far (p := ⟨gb332, 2, none⟩) (Kd.V_far (p := ⟨gb332, 1, none⟩) (Kd.V_far (p := ⟨gb332, 0, none⟩) (Kd.V_mono HO338.out (fun k_ hk => (⟨hk, hk.1.1.1.1.2.2⟩ : _ ∧ k_ ≠ gb332))) (fun _ hk => hk.2) (.int .i64 t347)) (fun _ hk => hk.2) (.slice Ao37 t348.length co37)) (fun _ hk => hk.2) (.slice Ao38 t351.length co38)) (fun _ hk => hk.2) (.slice Ao39 t354.length co39)) (fun _ hk => ⟨hk.1.1.1.1.2, ⟨hk.1.1.1.2, ⟨hk.1.1.2, ⟨hk.1.2, ⟨hk.1.1.1.1.1.1, ⟨hk.1.1.1.1.1.2.1, hk.1.1.1.1.1.2.2⟩⟩⟩⟩⟩⟩)))⟩; have n2_ : Aside0 (Kd.V (Kd.int .i64) 3 w40 w.heap.size (fun k_ => some k_ ≠ (.slice Ao32 t343.length co32 : Value).ownBlock ∧ some k_ ≠ (.slice Ao37 t348.length co37 : Value).ownBlock ∧ some k_ ≠ (.slice Ao38 t351.length co38 : Value).ownBlock ∧ some k_ ≠ (.slice Ao39 t354.length co39 : Value).ownBlock ∧ k_ ≠ gb330 ∧ k_ ≠ gb331 ∧ k_ ≠ gb332) (.slice Ao30 t339.length co30) t339) := ⟨(by rw [hw]; exact (by exact Kd.V_mono (Kd.V_far (p := ⟨gb332, 3, none⟩) (Kd.V_far (p := ⟨gb332, 2, none⟩) (Kd.V_far (p := ⟨gb332, 1, none⟩) (Kd.V_far (p := ⟨gb332, 0, none⟩) (Kd.V_mono HO341.out (fun k_ hk => (⟨hk, hk.1.1.1.1.2.2⟩ : _ ∧ k_ ≠ gb332))) (fun _ hk => hk.2) (.int .i64 t347)) (fun _ hk => hk.2) (.slice Ao37 t348.length co37)) (fun _ hk => hk.2) (.slice Ao38 t351.length co38)) (fun _ hk => hk.2) (.slice Ao39 t354.length co39)) (fun _ hk => ⟨hk.1.1.1.1.2, ⟨hk.1.1.1.2, ⟨hk.1.1.2, ⟨hk.1.2, ⟨hk.1.1.1.1.1.1, ⟨hk.1.1.1.1.1.2.1, hk.1.1.1.1.1.2.2⟩⟩⟩⟩⟩⟩)))⟩; have n3_ := rsm (fun k_ => some k_ ≠ (.slice Ao37 t348.length co37 : Value).ownBlock) HO346 hw (fun _ hk => hk.2); have n4_ := rsm (fun k_ => some k_ ≠ (.slice Ao32 t343.length co32 : Value).ownBlock) HO350 hw (fun _ hk => hk.2); have n5_ := rst HO353 hw; have n6_ := rst HO356 hw; have n7_ : Aside0 (w40.heap[gb330]? = some (.cells #[.int .i64 a0_0, .slice A0_1 l0_1.length c0_1, .slice A0_2 l0_2.length c0_2, .slice A0_3 l0_3.length c0_3] 29 (0, 0))) := ⟨(by rw [hw]; exact (bx BK330.out))⟩; have n8_ : Aside0 (w40.heap[gb331]? = some (.cells #[.int .i64 a1_0, .slice A1_1 l1_1.length c1_1, .slice A1_2 l1_2.length c1_2, .slice A1_3 l1_3.length c1_3] 29 (0, 0))) := ⟨(by rw [hw]; exact (bx BK331.out))⟩; have n9_ := sps #[.int .i64 t347, .slice Ao37 t348.length co37, .slice Ao38 t351.length co38, .slice Ao39 t354.length co39] BK332 hw (.p (.p (.p (.p .nil)))); have n10_ := bhw HB hw; clear hw HO335 HO338 HO341 HO346 HO350 HO353 HO356 BK330 BK331 BK332 HB; have HO335 := n0_; have HO338 := n1_; have HO341 := n2_; have HO346 := n3_; have HO350 := n4_; have HO353 := n5_; have HO356 := n6_; have BK330 := n7_; have BK331 := n8_; have BK332 := n9_; have HB := n10_; clear n0_ n1_ n2_ n3_ n4_ n5_ n6_ n7_ n8_ n9_ n10_))
    refine bodyPost_ret (results_cell_row rfl _ _ gb332 29 #[.int .i64 t347, .slice Ao37 t348.length co37, .slice Ao38 t351.length co38, .slice Ao39 t354.length co39] (0, 0) _ rfl (bx BK332.out) Tryz.underlying29 rfl (by kernel_rfl)) rfl ?_
    exact ⟨_, _, _, er, by exact Kd.R_mono HO350.out (fun _ hk => trivial), by exact HO353.out, by exact HO356.out, bh HB.out⟩
   ·replace H := bd H
    obtain ⟨t357, A41, H⟩ := H
    replace H := bd H
    obtain ⟨t360, A42, H⟩ := H
    replace H := bd H
    obtain ⟨⟨t363, t364⟩, A43, H⟩ := H
    dsimp only at H
    replace H := bd H
    obtain ⟨⟨t367, t368, t371, t374⟩, A44, H⟩ := H
    dsimp only at H
    simp only [Option.some.injEq, Prod.mk.injEq] at H
    obtain ⟨rfl, rfl, rfl, rfl⟩ := H
    go_wp2
    replace BK330 := Aside0.mk (blk_drew BK330.out)
    replace BK331 := Aside0.mk (blk_drew BK331.out)
    replace BK332 := Aside0.mk (blk_drew BK332.out)
    replace HB := Aside0.mk (below_drew1 HB.out)
    refine start_ (n := 11) (S := fun w' => w'.cell? ⟨gb330, 0, none⟩ = some (.int .i64 a0_0) ∧ w'.cell? ⟨gb330, 1, none⟩ = some (.slice A0_1 l0_1.length c0_1) ∧ w'.cell? ⟨gb330, 2, none⟩ = some (.slice A0_2 l0_2.length c0_2) ∧ w'.cell? ⟨gb330, 3, none⟩ = some (.slice A0_3 l0_3.length c0_3) ∧ w'.cell? ⟨gb331, 0, none⟩ = some (.int .i64 a1_0) ∧ w'.cell? ⟨gb331, 1, none⟩ = some (.slice A1_1 l1_1.length c1_1) ∧ w'.cell? ⟨gb331, 2, none⟩ = some (.slice A1_2 l1_2.length c1_2) ∧ w'.cell? ⟨gb331, 3, none⟩ = some (.slice A1_3 l1_3.length c1_3)) (ds := []) #[false, false, false, false, false, false, false, false, false, false, false] (by kernel_rfl) rfl rfl ⟨(blk_cell BK330.out 0).trans rfl, (blk_cell BK330.out 1).trans rfl, (blk_cell BK330.out 2).trans rfl, (blk_cell BK330.out 3).trans rfl, (blk_cell BK331.out 0).trans rfl, (blk_cell BK331.out 1).trans rfl, (blk_cell BK331.out 2).trans rfl, (blk_cell BK331.out 3).trans rfl⟩ (fun hHeld => ?_); refine with_tabW poslist_List_together_fn68_fn69.tab5 poslist_List_together_fn68_fn69.bits5 (fun HT_ HW_ => ?_)
    generalize wc.drew = w45 at BK330 BK331 BK332 HB hHeld ⊢
    refine puA HT_ 0 40 (bv 11 1) ?_
    refine taA HT_ HW_ hHeld 1 41 (bv 11 3) ?_
    refine taA HT_ HW_ hHeld 3 43 (bv 11 11) ?_
    refine one_ (i := 2) (N := some 42) #[true, true, true, true, false, false, false, false, false, false, false] rfl rfl (one_of HT_.out (by kernel_rfl)) (by decide) (fun K hK => ?_)
    refine goes_ Tryz.func12 (by kernel_rfl) rfl #[.agg #[.int .i64 a0_0, .slice A0_1 l0_1.length c0_1, .slice A0_2 l0_2.length c0_2, .slice A0_3 l0_3.length c0_3]] (by rfl) rfl rfl (by (simp only [List.map_toArray, List.map_cons, List.map_nil]); rfl) ?_
    with_reducible refine (poslist_List_Spans.calls kj4 a0_0 _ _ l0_1 _ _ l0_2 _ _ l0_3 t357 _ ?side1 ?side2 ?side3 ?side4 ?side5 ?side6 A41.out).mono ?_
    (case side1 => exact cx (Kd.C_below HR0_1.out HB.out))
    (case side2 => exact HC0_1.out)
    (case side3 => exact cx (Kd.C_below HR0_2.out HB.out))
    (case side4 => exact HC0_2.out)
    (case side5 => exact cx (Kd.C_below HR0_3.out HB.out))
    (case side6 => exact HC0_3.out)
    rintro e w46 ⟨v358, rfl, ho0, hb⟩
    refine ⟨_, rfl, ?_⟩
    have HO359 := Aside0.mk (Kd.R_lower ho0 (below_size (bh HB.out)))
    replace BK330 := bba BK330 hb
    replace BK331 := bba BK331 hb
    replace BK332 := bba BK332 hb
    replace HB := bsa HB hb
    clear hb ho0
    refine hK.out _ _ ⟨(blk_cell BK330.out 0).trans rfl, (blk_cell BK330.out 1).trans rfl, (blk_cell BK330.out 2).trans rfl, (blk_cell BK330.out 3).trans rfl, (blk_cell BK331.out 0).trans rfl, (blk_cell BK331.out 1).trans rfl, (blk_cell BK331.out 2).trans rfl, (blk_cell BK331.out 3).trans rfl⟩ (fun hHeld => ?_)
    clear hK K
    refine norm_ (a' := ?_) ?_ ?_
    rotate_left
    ·show Act.put _ (some 42) _ = _
     simp only [Act.put, List.setIfInBounds_toArray, List.set_cons_zero, List.set_cons_succ, i64_w, i32_w]
     rfl
    refine one_ (i := 4) (N := some 44) #[true, true, true, true, true, false, false, false, false, false, false] rfl rfl (one_of HT_.out (by kernel_rfl)) (by decide) (fun K hK => ?_)
    refine goes_ Tryz.func12 (by kernel_rfl) rfl #[.agg #[.int .i64 a1_0, .slice A1_1 l1_1.length c1_1, .slice A1_2 l1_2.length c1_2, .slice A1_3 l1_3.length c1_3]] (by rfl) rfl rfl (by (simp only [List.map_toArray, List.map_cons, List.map_nil]); rfl) ?_
    with_reducible refine (poslist_List_Spans.calls kj4 a1_0 _ _ l1_1 _ _ l1_2 _ _ l1_3 t360 _ ?side1 ?side2 ?side3 ?side4 ?side5 ?side6 A42.out).mono ?_
    (case side1 => exact cx (Kd.C_below HR1_1.out HB.out))
    (case side2 => exact HC1_1.out)
    (case side3 => exact cx (Kd.C_below HR1_2.out HB.out))
    (case side4 => exact HC1_2.out)
    (case side5 => exact cx (Kd.C_below HR1_3.out HB.out))
    (case side6 => exact HC1_3.out)
    rintro e w47 ⟨v361, rfl, ho0, hb⟩
    refine ⟨_, rfl, ?_⟩
    have HO362 := Aside0.mk (Kd.R_lower (Kd.R_new' ho0 (Kd.R_lt (rx HO359.out))) (below_size (bh HB.out)))
    replace HO359 := Aside0.mk (Kd.R_elder' (rx HO359.out) (Kd.R_base ho0) hb)
    replace BK330 := bba BK330 hb
    replace BK331 := bba BK331 hb
    replace BK332 := bba BK332 hb
    replace HB := bsa HB hb
    clear hb ho0
    obtain ⟨Ao48, co48, eo48⟩ := Kd.R_slice HO359.out
    (subst eo48)
    obtain ⟨Ao49, co49, eo49⟩ := Kd.R_slice HO362.out
    (subst eo49)
    refine hK.out _ _ ⟨(blk_cell BK330.out 0).trans rfl, (blk_cell BK330.out 1).trans rfl, (blk_cell BK330.out 2).trans rfl, (blk_cell BK330.out 3).trans rfl, (blk_cell BK331.out 0).trans rfl, (blk_cell BK331.out 1).trans rfl, (blk_cell BK331.out 2).trans rfl, (blk_cell BK331.out 3).trans rfl⟩ (fun hHeld => ?_)
    clear hK K
    refine norm_ (a' := ?_) ?_ ?_
    rotate_left
    ·show Act.put _ (some 44) _ = _
     simp only [Act.put, List.setIfInBounds_toArray, List.set_cons_zero, List.set_cons_succ, i64_w, i32_w]
     rfl
    refine one_ (i := 5) (N := some 45) #[true, true, true, true, true, true, false, false, false, false, false] rfl rfl (one_of HT_.out (by kernel_rfl)) (by decide) (fun K hK => ?_)
    (refine goesW_ Tryz.func69 (by kernel_rfl) rfl #[.slice Ao48 t357.length co48, .slice Ao49 t360.length co49] (by rfl) rfl rfl rfl (by (simp only [List.map_toArray, List.map_cons, List.map_nil]); rfl) ?_)
    with_reducible refine (span_Less.calls kj4 _ _ t357 _ _ t360 t363 t364 _ ?side1 ?side2 ?side3 ?side4 A43.out).mono ?_
    (case side1 => exact cx (Kd.R_reads' HO359.out).2.2)
    (case side2 => exact (Kd.R_reads' HO359.out).2.1)
    (case side3 => exact cx (Kd.R_reads' HO362.out).2.2)
    (case side4 => exact (Kd.R_reads' HO362.out).2.1)
    rintro e w50 ⟨v365, rfl, ho0, hb⟩
    refine ⟨_, rfl, ?_⟩
    have HO366 := Aside0.mk (Kd.R_lower (Kd.R_new' (Kd.R_new' ho0 (Kd.R_lt (rx HO359.out))) (Kd.R_lt (rx HO362.out))) (below_size (bh HB.out)))
    replace HO359 := Aside0.mk (Kd.R_elder' (rx HO359.out) (Kd.R_base ho0) hb)
    replace HO362 := Aside0.mk (Kd.R_elder' (rx HO362.out) (Kd.R_base ho0) hb)
    replace BK330 := bba BK330 hb
    replace BK331 := bba BK331 hb
    replace BK332 := bba BK332 hb
    replace HB := bsa HB hb
    clear hb ho0
    refine hK.out _ _ ⟨(blk_cell BK330.out 0).trans rfl, (blk_cell BK330.out 1).trans rfl, (blk_cell BK330.out 2).trans rfl, (blk_cell BK330.out 3).trans rfl, (blk_cell BK331.out 0).trans rfl, (blk_cell BK331.out 1).trans rfl, (blk_cell BK331.out 2).trans rfl, (blk_cell BK331.out 3).trans rfl⟩ (fun hHeld => ?_)
    clear hK K
    refine norm_ (a' := ?_) ?_ ?_
    rotate_left
    ·show Act.put _ (some 45) _ = _
     simp only [Act.put, List.setIfInBounds_toArray, List.set_cons_zero, List.set_cons_succ, i64_w, i32_w]
     rfl
    refine puA HT_ 6 39 (bv 11 127) ?_
    refine puA HT_ 7 46 (bv 11 255) ?_
    refine puA HT_ 8 47 (bv 11 511) ?_
    refine puA HT_ 9 13 (bv 11 1023) ?_
    refine puA HT_ 10 14 (bv 11 2047) ?_
    refine done_ (done_of HT_.out (by kernel_rfl)) ?_
    obtain ⟨Ao51, co51, eo51⟩ := Kd.R_slice HO366.out
    subst eo51
    go_wp2_with (first | ((with_reducible refine gate_callee (f := 105) rfl ?_); refine gL 49 Tryz.func105 #[.slice Ao51 t363.length co51] ?_; (with_reducible refine (poslist_best.calls kj4 _ _ t363 t367 t368 t371 t374 _ ?side1 ?side2 A44.out).mono ?_); (case side1 => exact cx (Kd.R_reads' HO366.out).2.2); (case side2 => exact (Kd.R_reads' HO366.out).2.1); rintro e w52 ⟨v369, v372, v375, rfl, ho0, ho1, ho2, hb⟩; refine ⟨_, rfl, ?_⟩; have HO370 := Aside0.mk (Kd.R_lower (Kd.R_new' (Kd.R_new' (Kd.R_new' ho0 (Kd.R_lt (rx HO359.out))) (Kd.R_lt (rx HO362.out))) (Kd.R_lt (rx HO366.out))) (below_size (bh HB.out))); replace HO359 := Aside0.mk (Kd.R_elder' (rx HO359.out) (Kd.R_base ho0) hb); replace HO362 := Aside0.mk (Kd.R_elder' (rx HO362.out) (Kd.R_base ho0) hb); replace HO366 := Aside0.mk (Kd.R_elder' (rx HO366.out) (Kd.R_base ho0) hb); have HO373 := Aside0.mk (Kd.R_lower ho1 (below_size (bh HB.out))); have HO376 := Aside0.mk (Kd.R_lower ho2 (below_size (bh HB.out))); replace BK330 := bba BK330 hb; replace BK331 := bba BK331 hb; replace BK332 := bba BK332 hb; replace HB := bsa HB hb; clear hb ho0 ho1 ho2; have hnb53 := NB332_330.out; have hnc53 := NB330_332.out; have hnb54 := NB332_331.out; have hnc54 := NB331_332.out; obtain ⟨hcz55_0, hcz55_1, hcz55_2, hcz55_3, hfz55_0, hfz55_1, hfz55_2, hfz55_3⟩ := b4 BK332; obtain ⟨Ao56, co56, eo56⟩ := Kd.R_slice HO370.out; subst eo56; obtain ⟨Ao57, co57, eo57⟩ := Kd.R_slice HO373.out; subst eo57; obtain ⟨Ao58, co58, eo58⟩ := Kd.R_slice HO376.out; subst eo58) | ((with_reducible refine gate_store (t := 29) (p := 8) rfl ?_); refine stE 29 8 ((((w52.setCell ⟨gb332, 0, none⟩ (.int .i64 t367)).setCell ⟨gb332, 1, none⟩ (.slice Ao56 t368.length co56)).setCell ⟨gb332, 2, none⟩ (.slice Ao57 t371.length co57)).setCell ⟨gb332, 3, none⟩ (.slice Ao58 t374.length co58)) ?_; intro w59 hw; have n0_ := rsm (fun k_ => some k_ ≠ (.slice Ao49 t360.length co49 : Value).ownBlock ∧ some k_ ≠ (.slice Ao51 t363.length co51 : Value).ownBlock ∧ some k_ ≠ (.slice Ao56 t368.length co56 : Value).ownBlock) HO359 hw (fun _ hk => ⟨hk.1.1.2, ⟨hk.1.2, hk.2⟩⟩); have n1_ := rsm (fun k_ => some k_ ≠ (.slice Ao48 t357.length co48 : Value).ownBlock ∧ some k_ ≠ (.slice Ao51 t363.length co51 : Value).ownBlock ∧ some k_ ≠ (.slice Ao56 t368.length co56 : Value).ownBlock) HO362 hw (fun _ hk => ⟨hk.1.1.2, ⟨hk.1.2, hk.2⟩⟩); have n2_ := rsm (fun k_ => some k_ ≠ (.slice Ao48 t357.length co48 : Value).ownBlock ∧ some k_ ≠ (.slice Ao49 t360.length co49 : Value).ownBlock ∧ some k_ ≠ (.slice Ao56 t368.length co56 : Value).ownBlock) HO366 hw (fun _ hk => ⟨hk.1.1.2, ⟨hk.1.2, hk.2⟩⟩); have n3_ := rsm (fun k_ => some k_ ≠ (.slice Ao48 t357.length co48 : Value).ownBlock ∧ some k_ ≠ (.slice Ao49 t360.length co49 : Value).ownBlock ∧ some k_ ≠ (.slice Ao51 t363.length co51 : Value).ownBlock) HO370 hw (fun _ hk => ⟨hk.1.1.2, ⟨hk.1.2, hk.2⟩⟩); have n4_ := rst HO373 hw; have n5_ := rst HO376 hw; have n6_ : Aside0 (w59.heap[gb330]? = some (.cells #[.int .i64 a0_0, .slice A0_1 l0_1.length c0_1, .slice A0_2 l0_2.length c0_2, .slice A0_3 l0_3.length c0_3] 29 (0, 0))) := ⟨(by rw [hw]; exact (bx BK330.out))⟩; have n7_ : Aside0 (w59.heap[gb331]? = some (.cells #[.int .i64 a1_0, .slice A1_1 l1_1.length c1_1, .slice A1_2 l1_2.length c1_2, .slice A1_3 l1_3.length c1_3] 29 (0, 0))) := ⟨(by rw [hw]; exact (bx BK331.out))⟩; have n8_ := sps #[.int .i64 t367, .slice Ao56 t368.length co56, .slice Ao57 t371.length co57, .slice Ao58 t374.length co58] BK332 hw (.p (.p (.p (.p .nil)))); have n9_ := bhw HB hw; clear hw HO359 HO362 HO366 HO370 HO373 HO376 BK330 BK331 BK332 HB; have HO359 := n0_; have HO362 := n1_; have HO366 := n2_; have HO370 := n3_; have HO373 := n4_; have HO376 := n5_; have BK330 := n6_; have BK331 := n7_; have BK332 := n8_; have HB := n9_; clear n0_ n1_ n2_ n3_ n4_ n5_ n6_ n7_ n8_ n9_))
    refine bodyPost_ret (results_cell_row rfl _ _ gb332 29 #[.int .i64 t367, .slice Ao56 t368.length co56, .slice Ao57 t371.length co57, .slice Ao58 t374.length co58] (0, 0) _ rfl (bx BK332.out) Tryz.underlying29 rfl (by kernel_rfl)) rfl ?_
    exact ⟨_, _, _, er, by exact Kd.R_mono HO370.out (fun _ hk => trivial), by exact HO373.out, by exact HO376.out, bh HB.out⟩
/-! ### poslist_List_Less: function 36 (a contract of the session's own) -/
def poslist_List_Less.f (k : Nat) (a0_0 : Int) (l0_1 : List (S70)) (l0_2 : List Int) (l0_3 : List Int) (a1_0 : Int) (l1_1 : List (S70)) (l1_2 : List Int) (l1_3 : List Int) : Option (Int × (List (S70)) × List Int × List Int) := if a0_0 = 3 then poslist_List_kept.f (fun x => (poslist_List_Has.f k a1_0 l1_1 l1_2 l1_3 x).bind fun t => some (!t)) k a0_0 l0_1 l0_2 l0_3 else poslist_List_together_fn68_fn69.f k a0_0 l0_1 l0_2 l0_3 a1_0 l1_1 l1_2 l1_3
set_option maxHeartbeats 8000000 in
set_option maxRecDepth 100000 in
theorem poslist_List_Less.calls (k : Nat) (a0_0 : Int) (A0_1 : Option Addr) (c0_1 : Nat) (l0_1 : List (S70)) (A0_2 : Option Addr) (c0_2 : Nat) (l0_2 : List Int) (A0_3 : Option Addr) (c0_3 : Nat) (l0_3 : List Int) (a1_0 : Int) (A1_1 : Option Addr) (c1_1 : Nat) (l1_1 : List (S70)) (A1_2 : Option Addr) (c1_2 : Nat) (l1_2 : List Int) (A1_3 : Option Addr) (c1_3 : Nat) (l1_3 : List Int) (r1 : Int) (r2 : List (S70)) (r3 : List Int) (r4 : List Int) (w : World) (hr0_1 : Kd.C k70 w A0_1 l0_1.length l0_1) (hc0_1 : l0_1.length ≤ c0_1) (hr0_2 : Kd.C (Kd.int .i64) w A0_2 l0_2.length l0_2) (hc0_2 : l0_2.length ≤ c0_2) (hr0_3 : Kd.C (Kd.int .i64) w A0_3 l0_3.length l0_3) (hc0_3 : l0_3.length ≤ c0_3) (hr1_1 : Kd.C k70 w A1_1 l1_1.length l1_1) (hc1_1 : l1_1.length ≤ c1_1) (hr1_2 : Kd.C (Kd.int .i64) w A1_2 l1_2.length l1_2) (hc1_2 : l1_2.length ≤ c1_2) (hr1_3 : Kd.C (Kd.int .i64) w A1_3 l1_3.length l1_3) (hc1_3 : l1_3.length ≤ c1_3) (h : poslist_List_Less.f k a0_0 l0_1 l0_2 l0_3 a1_0 l1_1 l1_2 l1_3 = some (r1, r2, r3, r4)) :
    Calls Tryz.prog 36 #[.agg #[.int .i64 a0_0, .slice A0_1 l0_1.length c0_1, .slice A0_2 l0_2.length c0_2, .slice A0_3 l0_3.length c0_3], .agg #[.int .i64 a1_0, .slice A1_1 l1_1.length c1_1, .slice A1_2 l1_2.length c1_2, .slice A1_3 l1_3.length c1_3]] w fun e w' => ∃ v1_ v2_ v3_ : Value, e = .returned (.agg #[.int .i64 r1, v1_, v2_, v3_]) ∧ Kd.R k70 70 w' w.heap.size (fun _ => True) v1_ r2 ∧ Kd.R (Kd.int .i64) 3 w' w.heap.size (fun k_ => some k_ ≠ (v3_ : Value).ownBlock) v2_ r3 ∧ Kd.R (Kd.int .i64) 3 w' w.heap.size (fun k_ => some k_ ≠ (v2_ : Value).ownBlock) v3_ r4 ∧ Below w.heap.size w w' := by
 have hmf : ∀ (fn : Fn) (first cap : Array Value) (w : World), (Instr.makeFunc fn first cap).run Tryz.prog w = .ok (.func fn first cap) w := fun _ _ _ _ => rfl
 have hu27 := Tryz.underlying29
 have HR0_1 := Aside0.mk hr0_1
 have HC0_1 := Aside0.mk hc0_1
 clear hr0_1 hc0_1
 have HR0_2 := Aside0.mk hr0_2
 have HC0_2 := Aside0.mk hc0_2
 clear hr0_2 hc0_2
 have HR0_3 := Aside0.mk hr0_3
 have HC0_3 := Aside0.mk hc0_3
 clear hr0_3 hc0_3
 have HR1_1 := Aside0.mk hr1_1
 have HC1_1 := Aside0.mk hc1_1
 clear hr1_1 hc1_1
 have HR1_2 := Aside0.mk hr1_2
 have HC1_2 := Aside0.mk hc1_2
 clear hr1_2 hc1_2
 have HR1_3 := Aside0.mk hr1_3
 have HC1_3 := Aside0.mk hc1_3
 clear hr1_3 hc1_3
 have HB := Aside0.mk (Below.refl w.heap.size w)
 have H := h
 clear h
 unfold poslist_List_Less.f at H
 by_cases c2 : a0_0 = 3
 ·rw [if_pos c2] at H
  have c2b0 : (a0_0 == 3) = true := beq_iff_eq.mpr c2
  clear c2
  have H1 := Aside0.mk H
  clear H
  have HEN := Aside0.mk (show ∀ args W, (callFunc 66 args).run Tryz.prog W = .ok (.enter 66 args) W from enters_of Tryz.func66 (by kernel_rfl) rfl)
  go_enter Tryz.func36, Tryz.ntmps36
  go_wp2_with (first | ((with_reducible refine gate_dst (N := 2) rfl ?_); refine box_event ?hg (N := 2) ?hd (cs := #[.int .i64 a0_0, .slice A0_1 l0_1.length c0_1, .slice A0_2 l0_2.length c0_2, .slice A0_3 l0_3.length c0_3]) (t := 29) ?hr ?_; (case hd => rfl); (case hg => rfl); (case hr => (go_simp; done)); intro g2 hg w2 hbox hb; have n0_ := Aside0.mk (below_step HB.out hb); have n1_ := Aside0.mk (hbox); have n2_ := Aside0.mk ((by rw [hg]; exact below_size HB.out : w.heap.size ≤ g2)); clear HB; have HB := n0_; have BK2 := n1_; have GE2 := n2_; clear n0_ n1_ n2_ hb hbox hg) | ((with_reducible refine gate_dst (N := 3) rfl ?_); refine box_event ?hg (N := 3) ?hd (cs := #[.int .i64 a1_0, .slice A1_1 l1_1.length c1_1, .slice A1_2 l1_2.length c1_2, .slice A1_3 l1_3.length c1_3]) (t := 29) ?hr ?_; (case hd => rfl); (case hg => rfl); (case hr => (go_simp; done)); intro g3 hg w3 hbox hb; have n0_ := Aside0.mk (below_step HB.out hb); have n1_ := Aside0.mk (blk_below BK2.out hb); have n2_ := Aside0.mk (hbox); have n3_ := Aside0.mk ((by rw [hg]; exact below_size HB.out : w.heap.size ≤ g3)); have n4_ := Aside0.mk ((by rw [hg]; exact Nat.ne_of_lt (blk_lt BK2.out) : g2 ≠ g3)); have n5_ := Aside0.mk ((by rw [hg]; exact (Nat.ne_of_lt (blk_lt BK2.out)).symm : g3 ≠ g2)); clear HB BK2; have HB := n0_; have BK2 := n1_; have BK3 := n2_; have GE3 := n3_; have NB23 := n4_; have NB32 := n5_; clear n0_ n1_ n2_ n3_ n4_ n5_ hb hbox hg) | ((with_reducible refine gate_dst (N := 4) rfl ?_); refine box_event ?hg (N := 4) ?hd (cs := #[.int .i64 0, .slice none 0 0, .slice none 0 0, .slice none 0 0]) (t := 29) ?hr ?_; (case hd => rfl); (case hg => rfl); (case hr => (go_simp; done)); intro g4 hg w4 hbox hb; have n0_ := Aside0.mk (below_step HB.out hb); have n1_ := Aside0.mk (blk_below BK2.out hb); have n2_ := Aside0.mk (blk_below BK3.out hb); have n3_ := Aside0.mk (hbox); have n4_ := Aside0.mk ((by rw [hg]; exact below_size HB.out : w.heap.size ≤ g4)); have n5_ := Aside0.mk ((by rw [hg]; exact Nat.ne_of_lt (blk_lt BK2.out) : g2 ≠ g4)); have n6_ := Aside0.mk ((by rw [hg]; exact (Nat.ne_of_lt (blk_lt BK2.out)).symm : g4 ≠ g2)); have n7_ := Aside0.mk ((by rw [hg]; exact Nat.ne_of_lt (blk_lt BK3.out) : g3 ≠ g4)); have n8_ := Aside0.mk ((by rw [hg]; exact (Nat.ne_of_lt (blk_lt BK3.out)).symm : g4 ≠ g3)); clear HB BK2 BK3; have HB := n0_; have BK2 := n1_; have BK3 := n2_; have BK4 := n3_; have GE4 := n4_; have NB24 := n5_; have NB42 := n6_; have NB34 := n7_; have NB43 := n8_; clear n0_ n1_ n2_ n3_ n4_ n5_ n6_ n7_ n8_ hb hbox hg; obtain ⟨hc20, hc21, hc22, hc23, hf20, hf21, hf22, hf23⟩ := b4 BK2; obtain ⟨hc30, hc31, hc32, hc33, hf30, hf31, hf32, hf33⟩ := b4 BK3) | (go_at_call 65; (with_reducible refine (poslist_List_kept.calls 66 #[] #[.pointer (some ⟨g3, 0, none⟩)] (fun x => (poslist_List_Has.f k a1_0 l1_1 l1_2 l1_3 x).bind fun t => some (!t)) k a0_0 A0_1 c0_1 l0_1 A0_2 c0_2 l0_2 A0_3 c0_3 l0_3 r1 r2 r3 r4 _ ?a1 ?b1 ?a2 ?b2 ?a3 ?b3 HEN.out ?his H1.out).mono ?_); (case a1 => exact (Kd.C_below HR0_1.out HB.out)); (case b1 => exact HC0_1.out); (case a2 => exact (Kd.C_below HR0_2.out HB.out)); (case b2 => exact HC0_2.out); (case a3 => exact (Kd.C_below HR0_3.out HB.out)); (case b3 => exact HC0_3.out); (case his => intro X at_ t_ hX hp; obtain ⟨t1, ht1, ht2⟩ := Option.bind_eq_some_iff.mp hp; obtain rfl := Option.some.inj ht2; exact calls_of_args (by simp) (poslist_List_Less_1.calls k a1_0 A1_1 c1_1 l1_1 A1_2 c1_2 l1_2 A1_3 c1_3 l1_3 at_ t1 g3 X (blk_below BK3.out hX) (Kd.C_below (Kd.C_below HR1_1.out HB.out) hX) HC1_1.out (Kd.C_below (Kd.C_below HR1_2.out HB.out) hX) HC1_2.out (Kd.C_below (Kd.C_below HR1_3.out HB.out) hX) HC1_3.out ht1)); have hlt4 := blk_lt BK4.out; have HB0 := HB; rintro e w6 ⟨v1, v2, v3, rfl, hv1, hv2, hv3, hb⟩; have n0_ := Aside0.mk (below_step HB.out hb); have n1_ := Aside0.mk (blk_below BK2.out hb); have n2_ := Aside0.mk (blk_below BK3.out hb); have n3_ := Aside0.mk (blk_below BK4.out hb); clear HB BK2 BK3 BK4; have HB := n0_; have BK2 := n1_; have BK3 := n2_; have BK4 := n3_; clear n0_ n1_ n2_ n3_ hb; obtain ⟨Av1, cv1, rfl⟩ := Kd.R_slice hv1; obtain ⟨Av2, cv2, rfl⟩ := Kd.R_slice hv2; obtain ⟨Av3, cv3, rfl⟩ := Kd.R_slice hv3; obtain ⟨hc40, hc41, hc42, hc43, hf40, hf41, hf42, hf43⟩ := b4 BK4))
  refine bodyPost_ret (results_cell_row rfl _ _ g4 29 #[.int .i64 r1, .slice Av1 r2.length cv1, .slice Av2 r3.length cv2, .slice Av3 r4.length cv3] (0, 0) _ rfl (by refine blk_put (cs := #[.int .i64 r1, .slice Av1 r2.length cv1, .slice Av2 r3.length cv2, .slice none 0 0]) ?_ 3 _ rfl; refine blk_put (cs := #[.int .i64 r1, .slice Av1 r2.length cv1, .slice none 0 0, .slice none 0 0]) ?_ 2 _ rfl; refine blk_put (cs := #[.int .i64 r1, .slice none 0 0, .slice none 0 0, .slice none 0 0]) ?_ 1 _ rfl; refine blk_put (cs := #[.int .i64 0, .slice none 0 0, .slice none 0 0, .slice none 0 0]) ?_ 0 _ rfl; exact BK4.out) Tryz.underlying29 rfl (by kernel_rfl)) rfl ?_
  have hw_ := below_size HB0.out
  exact ⟨_, _, _, rfl, Kd.R_lower (XR.R_far (XR.R_far (XR.R_far (XR.R_far hv1 hlt4) hlt4) hlt4) hlt4) hw_, Kd.R_lower (XR.R_far (XR.R_far (XR.R_far (XR.R_far hv2 hlt4) hlt4) hlt4) hlt4) hw_, Kd.R_lower (XR.R_far (XR.R_far (XR.R_far (XR.R_far hv3 hlt4) hlt4) hlt4) hlt4) hw_, bh HB.out⟩
 rw [if_neg c2] at H
 have c2b0 : (a0_0 == 3) = false := beq_eq_false_iff_ne.mpr c2
 clear c2
 have H1 := Aside0.mk H
 clear H
 go_enter Tryz.func36, Tryz.ntmps36
 go_wp2_with (first | ((with_reducible refine gate_dst (N := 2) rfl ?_); refine box_event ?hg (N := 2) ?hd (cs := #[.int .i64 a0_0, .slice A0_1 l0_1.length c0_1, .slice A0_2 l0_2.length c0_2, .slice A0_3 l0_3.length c0_3]) (t := 29) ?hr ?_; (case hd => rfl); (case hg => rfl); (case hr => (go_simp; done)); intro g2 hg w2 hbox hb; have n0_ := Aside0.mk (below_step HB.out hb); have n1_ := Aside0.mk (hbox); have n2_ := Aside0.mk ((by rw [hg]; exact below_size HB.out : w.heap.size ≤ g2)); clear HB; have HB := n0_; have BK2 := n1_; have GE2 := n2_; clear n0_ n1_ n2_ hb hbox hg) | ((with_reducible refine gate_dst (N := 3) rfl ?_); refine box_event ?hg (N := 3) ?hd (cs := #[.int .i64 a1_0, .slice A1_1 l1_1.length c1_1, .slice A1_2 l1_2.length c1_2, .slice A1_3 l1_3.length c1_3]) (t := 29) ?hr ?_; (case hd => rfl); (case hg => rfl); (case hr => (go_simp; done)); intro g3 hg w3 hbox hb; have n0_ := Aside0.mk (below_step HB.out hb); have n1_ := Aside0.mk (blk_below BK2.out hb); have n2_ := Aside0.mk (hbox); have n3_ := Aside0.mk ((by rw [hg]; exact below_size HB.out : w.heap.size ≤ g3)); have n4_ := Aside0.mk ((by rw [hg]; exact Nat.ne_of_lt (blk_lt BK2.out) : g2 ≠ g3)); have n5_ := Aside0.mk ((by rw [hg]; exact (Nat.ne_of_lt (blk_lt BK2.out)).symm : g3 ≠ g2)); clear HB BK2; have HB := n0_; have BK2 := n1_; have BK3 := n2_; have GE3 := n3_; have NB23 := n4_; have NB32 := n5_; clear n0_ n1_ n2_ n3_ n4_ n5_ hb hbox hg) | ((with_reducible refine gate_dst (N := 4) rfl ?_); refine box_event ?hg (N := 4) ?hd (cs := #[.int .i64 0, .slice none 0 0, .slice none 0 0, .slice none 0 0]) (t := 29) ?hr ?_; (case hd => rfl); (case hg => rfl); (case hr => (go_simp; done)); intro g4 hg w4 hbox hb; have n0_ := Aside0.mk (below_step HB.out hb); have n1_ := Aside0.mk (blk_below BK2.out hb); have n2_ := Aside0.mk (blk_below BK3.out hb); have n3_ := Aside0.mk (hbox); have n4_ := Aside0.mk ((by rw [hg]; exact below_size HB.out : w.heap.size ≤ g4)); have n5_ := Aside0.mk ((by rw [hg]; exact Nat.ne_of_lt (blk_lt BK2.out) : g2 ≠ g4)); have n6_ := Aside0.mk ((by rw [hg]; exact (Nat.ne_of_lt (blk_lt BK2.out)).symm : g4 ≠ g2)); have n7_ := Aside0.mk ((by rw [hg]; exact Nat.ne_of_lt (blk_lt BK3.out) : g3 ≠ g4)); have n8_ := Aside0.mk ((by rw [hg]; exact (Nat.ne_of_lt (blk_lt BK3.out)).symm : g4 ≠ g3)); clear HB BK2 BK3; have HB := n0_; have BK2 := n1_; have BK3 := n2_; have BK4 := n3_; have GE4 := n4_; have NB24 := n5_; have NB42 := n6_; have NB34 := n7_; have NB43 := n8_; clear n0_ n1_ n2_ n3_ n4_ n5_ n6_ n7_ n8_ hb hbox hg; obtain ⟨hc20, hc21, hc22, hc23, hf20, hf21, hf22, hf23⟩ := b4 BK2; obtain ⟨hc30, hc31, hc32, hc33, hf30, hf31, hf32, hf33⟩ := b4 BK3) | (go_at_call 67; (with_reducible refine (poslist_List_together_fn68_fn69.calls k a0_0 A0_1 c0_1 l0_1 A0_2 c0_2 l0_2 A0_3 c0_3 l0_3 a1_0 A1_1 c1_1 l1_1 A1_2 c1_2 l1_2 A1_3 c1_3 l1_3 r1 r2 r3 r4 _ ?a01 ?b01 ?a02 ?b02 ?a03 ?b03 ?a11 ?b11 ?a12 ?b12 ?a13 ?b13 H1.out).mono ?_); (case a01 => exact (Kd.C_below HR0_1.out HB.out)); (case b01 => exact HC0_1.out); (case a02 => exact (Kd.C_below HR0_2.out HB.out)); (case b02 => exact HC0_2.out); (case a03 => exact (Kd.C_below HR0_3.out HB.out)); (case b03 => exact HC0_3.out); (case a11 => exact (Kd.C_below HR1_1.out HB.out)); (case b11 => exact HC1_1.out); (case a12 => exact (Kd.C_below HR1_2.out HB.out)); (case b12 => exact HC1_2.out); (case a13 => exact (Kd.C_below HR1_3.out HB.out)); (case b13 => exact HC1_3.out); have hlt4 := blk_lt BK4.out; have HB0 := HB; rintro e w6 ⟨v1, v2, v3, rfl, hv1, hv2, hv3, hb⟩; have n0_ := Aside0.mk (below_step HB.out hb); have n1_ := Aside0.mk (blk_below BK2.out hb); have n2_ := Aside0.mk (blk_below BK3.out hb); have n3_ := Aside0.mk (blk_below BK4.out hb); clear HB BK2 BK3 BK4; have HB := n0_; have BK2 := n1_; have BK3 := n2_; have BK4 := n3_; clear n0_ n1_ n2_ n3_ hb; obtain ⟨Av1, cv1, rfl⟩ := Kd.R_slice hv1; obtain ⟨Av2, cv2, rfl⟩ := Kd.R_slice hv2; obtain ⟨Av3, cv3, rfl⟩ := Kd.R_slice hv3; obtain ⟨hc40, hc41, hc42, hc43, hf40, hf41, hf42, hf43⟩ := b4 BK4))
 refine bodyPost_ret (results_cell_row rfl _ _ g4 29 #[.int .i64 r1, .slice Av1 r2.length cv1, .slice Av2 r3.length cv2, .slice Av3 r4.length cv3] (0, 0) _ rfl (by refine blk_put (cs := #[.int .i64 r1, .slice Av1 r2.length cv1, .slice Av2 r3.length cv2, .slice none 0 0]) ?_ 3 _ rfl; refine blk_put (cs := #[.int .i64 r1, .slice Av1 r2.length cv1, .slice none 0 0, .slice none 0 0]) ?_ 2 _ rfl; refine blk_put (cs := #[.int .i64 r1, .slice none 0 0, .slice none 0 0, .slice none 0 0]) ?_ 1 _ rfl; refine blk_put (cs := #[.int .i64 0, .slice none 0 0, .slice none 0 0, .slice none 0 0]) ?_ 0 _ rfl; exact BK4.out) Tryz.underlying29 rfl (by kernel_rfl)) rfl ?_
 have hw_ := below_size HB0.out
 exact ⟨_, _, _, rfl, Kd.R_lower (XR.R_far (XR.R_far (XR.R_far (XR.R_far hv1 hlt4) hlt4) hlt4) hlt4) hw_, Kd.R_lower (XR.R_far (XR.R_far (XR.R_far (XR.R_far hv2 hlt4) hlt4) hlt4) hlt4) hw_, Kd.R_lower (XR.R_far (XR.R_far (XR.R_far (XR.R_far hv3 hlt4) hlt4) hlt4) hlt4) hw_, bh HB.out⟩
end Go.Proofs.YtdgphlkbmplbpaaGreat.Print
end
