-- Numbers taken back as the document tells it.
import Derived.Test.YtcencpedgcdanaaPrint11
import Derived.Test.YtcencpedgcdanaaPrint9
import Derived.Test.YtcencpedgcdanaaSI
set_option linter.unusedVariables false
set_option linter.unusedSimpArgs false
namespace Go.Proofs.Ytcencpedgcdanaa.Print
open Go.RowKit Go.Proofs.YtcencpedgcdanaaW.PrintWords Go.Proofs.YtcencpedgcdanaaW.PrintMore
theorem ref_chk_ev (s : ByteArray) {l : List Int} (hI : ∀ x, x ∈ l → InI x) : Ev (fun k => (peristyleref09_Put.f k l).bind fun bt291 => (if bt291.1.toList = s.toList then (some (l, (0 : Int))) else (some (([] : List Int), 20)))) (chkF s l) := by
  refine Ev.bind (ref09_Put_ev hI) ?_
  by_cases h : (putF l).1.toList = s.toList
  · exact Ev.yes h (Ev.val (if_pos h).symm)
  · exact Ev.no h (Ev.val (if_neg h).symm)
theorem ref_acc_loop (s : ByteArray) (m : Int) (ws : List Int) (hw : ws.length ≤ 65535) : ∀ (d i : Nat) (A : List Int) (x : Int), i + d = ws.length → A.length = i → InI x → (∀ y, y ∈ A → InI y) →
    Ev (fun k => peristyleref09_Take.l0 k s x (A ++ [x]) m ws (i : Int)) (chkF s (A ++ x :: accF m x (ws.drop i)))
  | 0, i, A, x, h, ha, hx, hA => by
    rw [List.drop_eq_nil_of_le (by omega)]
    refine Ev.step (fun k => peristyleref09_Take.l0_succ k _ _ _ _ _ _) (Ev.no (by omega) ?_)
    exact ref_chk_ev s (l := A ++ [x]) (by
      intro y hy
      rcases List.mem_append.1 hy with h | h
      · exact hA y h
      · rw [List.mem_singleton.1 h]; exact hx)
  | d + 1, i, A, x, h, ha, hx, hA => by
    have hlen : (A ++ [x]).length = i + 1 := by simp; omega
    have e2 : wrap64 ((i : Int) + 1) = ((i + 1 : Nat) : Int) := by unfold wrap64; omega
    refine Ev.step (fun k => peristyleref09_Take.l0_succ k _ _ _ _ _ _) (Ev.yes (by omega) (Ev.yes (by omega) (Ev.yes (by omega) ?_)))
    rw [e2]
    have ih := ref_acc_loop s m ws hw d (i + 1) (A ++ [x]) (wrap64 (wrap64 (x + m) + rd ws (i : Int))) (by omega) hlen (InI_wrap64 _) (by
      intro y hy
      rcases List.mem_append.1 hy with h | h
      · exact hA y h
      · rw [List.mem_singleton.1 h]; exact hx)
    rw [drop_rd ws i (by omega)]
    simp only [accF]
    rw [List.append_assoc A [x] (wrap64 (wrap64 (x + m) + rd ws (i : Int)) :: accF m (wrap64 (wrap64 (x + m) + rd ws (i : Int))) (ws.drop (i + 1)))] at ih
    exact ih
theorem ref_take3 (s : ByteArray) (hs : s.size ≤ 4294967296) (n x m : Int) (hn : 1 < n ∧ n ≤ 65536) (hx : InI x) (a u : Nat) (ha : a ≤ s.size) (hu : u ≤ s.size - a) (b : Bool) (hb : b = decide (((a + u : Nat) : Int) ≥ (s.size : Int))) :
    Ev (fun k => peristyleref09_Take.j1 k s n x ((a + u : Nat) : Int) [x] m b) (takeF3 s n x m ((s.extract a s.size).extract u (s.extract a s.size).size)) := by
  rw [rest_of s a u ha hu]
  unfold takeF3
  refine Ev.step (fun k => peristyleref09_Take.j1_succ k _ _ _ _ _ _ _) ?_
  have hsz := rest_size s (a + u)
  by_cases h0 : (s.extract (a + u) s.size).size = 0
  · rw [if_pos h0]
    exact Ev.yes (by rw [hb]; exact decide_eq_true (by omega)) (Ev.now _)
  rw [if_neg h0]
  have e1 : wrap64 (n - 1) = n - 1 := by unfold wrap64; omega
  have e2 : wrap64 (((a + u : Nat) : Int) + 1) = ((a + u + 1 : Nat) : Int) := by unfold wrap64; omega
  have e3 : wrap64 (bt s ((a + u : Nat) : Int)) = bt s ((a + u : Nat) : Int) := by have := bt_range s ((a + u : Nat) : Int); unfold wrap64; omega
  have e4 : bt (s.extract (a + u) s.size) 0 = bt s ((a + u : Nat) : Int) := bt_extract s (a + u) s.size 0 (by omega) (Nat.le_refl _)
  have e5 : (s.extract (a + u) s.size).extract 1 (s.extract (a + u) s.size).size = s.extract (a + u + 1) s.size := rest_of s (a + u) 1 (by omega) (by omega)
  refine Ev.no (by rw [hb, decide_eq_false (by omega)]; decide) ?_
  rw [e1, e2, e3, e4, e5]
  refine Ev.yes (by omega) (Ev.yes (by omega) (Ev.yes (by omega) (Ev.yes (by omega) ?_)))
  rw [Int.toNat_natCast]
  refine Ev.bind (ref08_Take_ev _ _ _ (by rw [ByteArray.size_extract]; omega)) ?_
  by_cases h : (takeR (s.extract (a + u + 1) s.size) (n - 1) (bt s ((a + u : Nat) : Int))).2 = 0
  · rw [if_pos h]
    have hk := takeR_ok h
    exact Ev.yes h (ref_acc_loop s m (takeR (s.extract (a + u + 1) s.size) (n - 1) (bt s ((a + u : Nat) : Int))).1 (by omega) (takeR (s.extract (a + u + 1) s.size) (n - 1) (bt s ((a + u : Nat) : Int))).1.length 0 [] x (Nat.zero_add _) rfl hx (by simp))
  · rw [if_neg h]
    exact Ev.no h (Ev.now _)
theorem ref09_Take_ev (s : ByteArray) (hs : s.size ≤ 4294967296) (n : Int) : Ev (fun k => peristyleref09_Take.f k s n) (takeF s n) := by
  have hbad : Ev (fun k => peristyleref09_Take.j0 k s n true) (([] : List Int), 1) := Ev.step (fun k => peristyleref09_Take.j0_succ k _ _ _) (Ev.yes rfl (Ev.now _))
  unfold peristyleref09_Take.f takeF
  by_cases h1 : n < 0
  · rw [if_pos (.inl h1)]; exact Ev.yes h1 hbad
  refine Ev.no h1 ?_
  by_cases h2 : n > 65536
  · rw [if_pos (.inr h2), decide_eq_true h2]; exact hbad
  rw [if_neg (by omega), decide_eq_false h2]
  refine Ev.step (fun k => peristyleref09_Take.j0_succ k _ _ _) (Ev.no (by decide) ?_)
  by_cases h0 : n = 0
  · rw [if_pos h0]
    refine Ev.yes h0 ?_
    have e0 : (putF []).1.toList = [] := by show (⟨#[]⟩ : ByteArray).toList = []; rw [Lib.toList_data]
    unfold chkF
    rw [e0]
    by_cases h : s.toList = []
    · exact Ev.yes h (Ev.val (if_pos h.symm).symm)
    · exact Ev.no h (Ev.val (if_neg (fun h2 => h h2.symm)).symm)
  rw [if_neg h0]
  have hv := takeV_in s
  have hv2 := takeV_in (s.extract (takeV s).2.1.toNat s.size)
  obtain ⟨a, ha⟩ := Int.eq_ofNat_of_zero_le hv.2.1
  obtain ⟨u, hu⟩ := Int.eq_ofNat_of_zero_le hv2.2.1
  refine Ev.no h0 (Ev.bind (ref02_Take_ev s (by omega)) ?_)
  by_cases h : (takeV s).2.2 = 0
  · rw [if_pos h]
    refine Ev.yes h (Ev.call rfl ?_)
    by_cases h3 : n = 1
    · rw [if_pos h3]
      exact Ev.no (by omega) (ref_chk_ev s (l := [(takeV s).1]) (by intro y hy; rw [List.mem_singleton.1 hy]; exact hv.1))
    · rw [if_neg h3]
      refine Ev.yes (by omega) (Ev.yes (by omega) (Ev.yes (by omega) (Ev.bind (ref02_Take_ev _ (by rw [ByteArray.size_extract]; omega)) ?_)))
      rw [ha, Int.toNat_natCast] at hv2 hu ⊢
      have hsz := rest_size s a
      unfold takeF2
      rw [hu] at hv2 ⊢
      have hadd : wrap64 ((a : Int) + (u : Int)) = ((a + u : Nat) : Int) := by unfold wrap64; omega
      rw [hadd]
      by_cases h4 : (takeV (s.extract a s.size)).2.2 = 0
      · rw [if_pos h4, Int.toNat_natCast]
        exact Ev.yes h4 (ref_take3 s hs n _ _ (by omega) hv.1 a u (by omega) (by omega) _ rfl)
      · rw [if_neg h4]
        exact Ev.no h4 (Ev.step (fun k => peristyleref09_Take.j1_succ k _ _ _ _ _ _ _) (Ev.yes rfl (Ev.now _)))
  · rw [if_neg h]
    exact Ev.no h (Ev.now _)
end Go.Proofs.Ytcencpedgcdanaa.Print
