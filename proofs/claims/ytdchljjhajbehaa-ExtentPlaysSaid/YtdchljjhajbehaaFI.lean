/- ExtentPlays: a map is the document's. -/
import Derived.Test.YtdchljjhajbehaaFH
import Derived.Test.YtdchljjhajbehaaFC
namespace Go.Proofs.Ytdchljjhajbehaa.Ex
open Go.RowKit Go.Proofs.Ytdchljjhajbehaa.Print Go.Proofs.YtdchljjhajbehaaW.PrintWords Go.Proofs.YtdchljjhajbehaaW.PrintLast Go.Proofs.YtdchljjhajbehaaW.PrintMore Go.Proofs.Ytdchljjhajbehaa.Holes
set_option linter.unusedVariables false
set_option linter.unusedSimpArgs false
theorem Ev.get {α : Type} {g : Nat → Option α} {r : α} (h : Ev g r) : ∃ k, g k = some r := by
  obtain ⟨c, hc⟩ := h
  exact ⟨c, hc c (Nat.le_refl c)⟩
/-- a map and the document's list of truths go together -/
structure Same_ (n : Int) (hs : List Ext) (t : List Bool) : Prop where
  n1 : 1 ≤ n
  n2 : n ≤ 4096
  len : (t.length : Int) = n
  is : Is hs (Fr8 t) (t.length : Int)
theorem Same_.good {n : Int} {hs : List Ext} {t : List Bool} (h : Same_ n hs t) : Good n hs := by
  have q := h.is
  rw [h.len] at q
  exact Good.of q h.n1 h.n2
theorem Same_.ht {n : Int} {hs : List Ext} {t : List Bool} (h : Same_ n hs t) : t.length ≤ 100000 := by have := h.len; have := h.n2; omega
theorem Same_.take {n : Int} {hs : List Ext} {t : List Bool} (h : Same_ n hs t) (e1 e2 : Int) : ∃ t', Ev (fun k => peristyleref05_Take.f k t e1 e2) (t', (takeS n hs (e1, e2)).1) ∧ Same_ n (takeS n hs (e1, e2)).2 t' := by
  have hl := h.len
  by_cases hm : May n (e1, e2)
  · by_cases hF : AllFree t (e1, e2)
    · obtain ⟨hs', e, q⟩ := takeS_ok (by rw [← hl]; exact h.is) hm hF
      rw [e]
      refine ⟨_, takeR_ok t e1 e2 h.ht (by rw [hl]; exact hm) hF, h.n1, h.n2, by rw [setR_length]; exact hl, ?_⟩
      rw [setR_length, hl]
      exact q.congr fun i => (fr_take t (e1, e2) i).symm
    · rw [takeS_none (by rw [← hl]; exact h.is) hm hF]
      exact ⟨t, takeR_none t e1 e2 h.ht (by rw [hl]; exact hm) hF, h⟩
  · rw [takeS_no hm]
    exact ⟨t, takeR_no t e1 e2 h.ht (by rw [hl]; exact hm), h⟩
theorem Same_.free {n : Int} {hs : List Ext} {t : List Bool} (h : Same_ n hs t) (e1 e2 : Int) : ∃ t', Ev (fun k => peristyleref05_Free.f k t e1 e2) (t', (freeS n hs (e1, e2)).1) ∧ Same_ n (freeS n hs (e1, e2)).2 t' := by
  have hl := h.len
  by_cases hm : May n (e1, e2)
  · by_cases hF : NoFree t (e1, e2)
    · obtain ⟨hs', e, q⟩ := freeS_ok (by rw [← hl]; exact h.is) hm hF
      rw [e]
      refine ⟨_, freeR_ok t e1 e2 h.ht (by rw [hl]; exact hm) hF, h.n1, h.n2, by rw [setR_length]; exact hl, ?_⟩
      rw [setR_length, hl]
      exact q.congr fun i => (fr_free t (e1, e2) (by unfold May at hm; exact hm.2.1) (by unfold May at hm; dsimp only at *; omega) i).symm
    · have : ∃ x, Cov (e1, e2) x ∧ Fr8 t x := Classical.byContradiction fun hn => hF fun i hi hf => hn ⟨i, hi, hf⟩
      rw [freeS_none (by rw [← hl]; exact h.is) hm this]
      exact ⟨t, freeR_none t e1 e2 h.ht (by rw [hl]; exact hm) hF, h⟩
  · rw [freeS_no hm]
    exact ⟨t, freeR_no t e1 e2 h.ht (by rw [hl]; exact hm), h⟩
theorem Same_.alloc {n : Int} {hs : List Ext} {t : List Bool} (h : Same_ n hs t) (c : Int) : ∃ t', Ev (fun k => peristyleref05_Alloc.f k t c) (t', (allocS hs c).2.1.1, (allocS hs c).2.1.2, (allocS hs c).1) ∧ Same_ n (allocS hs c).2.2 t' := by
  have hl := h.len
  by_cases hc : c < 1
  · rw [allocS_arg hc]
    exact ⟨t, Ev.yes hc (Ev.now _), h⟩
  · rcases allocS_or (by rw [← hl]; exact h.is : Is hs (Fr8 t) n) hc with ⟨e, hb⟩ | ⟨a, hs', e, hm, hF, hb, q⟩
    · rw [e]
      exact ⟨t, Ev.no hc (alloc_miss t c h.ht hb t.length 0 (Int.le_refl _) (by omega)), h⟩
    · rw [e]
      refine ⟨_, Ev.no hc (alloc_hit t c a h.ht (by rw [hl]; exact hm) hF hb a.toNat 0 (Int.le_refl _) (by unfold May at hm; dsimp only at hm; omega)), h.n1, h.n2, by rw [setR_length]; exact hl, ?_⟩
      rw [setR_length, hl]
      exact q.congr fun i => (fr_take t (a, c) i).symm
theorem Same_.new (n : Int) (h1 : 1 ≤ n) (h2 : n ≤ 4096) : Same_ n [(0, n)] (List.replicate n.toNat false) := by
  have hl : ((List.replicate n.toNat false).length : Int) = n := by rw [List.length_replicate]; omega
  refine ⟨h1, h2, hl, ?_⟩
  rw [hl]
  refine (is_new n h1).congr fun i => ?_
  unfold Fr8
  rw [hl]
  constructor
  · rintro ⟨a, b⟩
    refine ⟨a, b, ?_⟩
    rw [List.getD_eq_getElem?_getD, List.getElem?_replicate, if_pos (by omega)]; rfl
  · rintro ⟨a, b, _⟩; exact ⟨a, b⟩
theorem Same_.sum {n : Int} {hs : List Ext} {t : List Bool} (h : Same_ n hs t) : sumE hs ≤ 1000000 := by
  have := (sum_le_of h.is).1
  have := h.len
  have := h.n2
  unfold sumE
  omega
set_option maxHeartbeats 8000000 in
set_option maxRecDepth 100000 in
theorem same_calls (b g c : Nat) (n : Int) (hs : List Ext) (t : List Bool) (A : Option Addr) (cc : Nat) (w : World) (h : MapAt w b g c n hs) (q : Same_ n hs t) (hC : Kd.C Kd.bool w A t.length t) (hcc : t.length ≤ cc) :
    Calls Try.prog 20 #[.pointer (some ⟨b, 0, none⟩), .slice A t.length cc] w fun e w' => e = .returned (.bool true) ∧ Below w.heap.size w w' := by
  have HM := Aside0.mk h
  have HQ := Aside0.mk q
  have HC := Aside0.mk hC
  have HCC := Aside0.mk hcc
  have HG := Aside0.mk q.good
  have HL : Aside0 (hs.length ≤ 10000) := ⟨Nat.le_trans q.good.len (by decide)⟩
  have HLL : Aside0 (hs.length ≤ 100000) := ⟨Nat.le_trans q.good.len (by decide)⟩
  obtain ⟨k1, hk1⟩ := Ev.get (left_f t q.ht q.is)
  obtain ⟨k2, hk2⟩ := Ev.get (longest_f t q.ht q.is)
  obtain ⟨k3, hk3⟩ := Ev.get (holes_f t q.ht q.is).1
  have K1 := Aside0.mk hk1
  have K2 := Aside0.mk hk2
  have K3 := Aside0.mk hk3
  clear h q hC hcc hk1 hk2 hk3
  go_enter Try.func20, Try.ntmps20
  go_wp2_with (first
    | (go_at_call 12; refine (left_of b g c n hs _ HM.out HG.out HQ.out.sum).mono ?_; rintro e w1 ⟨rfl, hb⟩; have B1 := Aside0.mk hb; clear hb)
    | (go_at_call 38; refine (peristyleref05_Left.calls k1 A cc t _ _ (Kd.C_below HC.out B1.out) HCC.out K1.out).mono ?_; rintro e w2 ⟨rfl, hb⟩; have B2 := Aside0.mk (below_then B1.out B1.out.size hb.below); clear hb)
    | (go_at_call 10; refine (longest_calls b g c n hs _ (HM.out.below B2.out) HL.out).mono ?_; rintro e w3 ⟨rfl, hb⟩; have B3 := Aside0.mk (below_then B2.out B2.out.size hb); clear hb)
    | (go_at_call 39; refine (peristyleref05_Longest.calls k2 A cc t _ _ (Kd.C_below HC.out B3.out) HCC.out K2.out).mono ?_; rintro e w4 ⟨rfl, hb⟩; have B4 := Aside0.mk (below_then B3.out B3.out.size hb); clear hb)
    | (go_at_call 21; refine (holes_calls b g c n hs _ (HM.out.below B4.out) HL.out).mono ?_; rintro e w5 ⟨v5, rfl, hv, hb⟩; obtain ⟨A5, c5, rfl, hl5, hC5⟩ := Kd.R_reads hv; have B5 := Aside0.mk (below_then B4.out B4.out.size hb); have L5 := Aside0.mk hl5; have R5 := Aside0.mk hC5; clear hv hb hl5 hC5)
    | (go_at_call 40; refine (peristyleref05_Holes.calls k3 A cc t _ _ (Kd.C_below HC.out B5.out) HCC.out K3.out).mono ?_; rintro e w6 ⟨v6, rfl, hv, hb⟩; obtain ⟨A6, c6, rfl, hl6, hC6⟩ := Kd.R_reads hv; have B6 := Aside0.mk (below_then B5.out B5.out.size hb); have L6 := Aside0.mk hl6; have R6 := Aside0.mk hC6; have R56 := Aside0.mk (Kd.C_below R5.out hb); clear hv hb hl6 hC6)
    | (go_at_call 23; refine (same_hs hs HLL.out A5 A6 c5 c6 _ R56.out L5.out R6.out L6.out).mono ?_; rintro e w7 ⟨rfl, hb⟩; have B7 := Aside0.mk (below_then B6.out B6.out.size hb); clear hb))
  go_ret
  exact ⟨rfl, B7.out⟩
end Go.Proofs.Ytdchljjhajbehaa.Ex
