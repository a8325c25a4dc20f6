/- SpanRanks: of any spans that may be (up to 60, below 2^11; else it says only that the program is awake): the place with a number has so many below it, is there, and the one behind it has one more below it; of no places none has a number. No condition. -/
import Derived.Test.YtlhkjkldjhapeaaPrint7
import Derived.Test.YtlhkjkldjhapeaaTC
set_option linter.unusedVariables false
namespace Go.Proofs.Ytlhkjkldjhapeaa.Pure
open Go.RowKit Go.Proofs.Ytlhkjkldjhapeaa.Print Go.Proofs.YtlhkjkldjhapeaaW.PrintWords Go.Proofs.YtlhkjkldjhapeaaW.PrintLast Go.Proofs.YtlhkjkldjhapeaaW.PrintMore
theorem SpanRanks : peristylelaw14_SpanRanks.Pure := by
  intro l a hl ha
  refine Ev.rounds (g := fun k => peristylelaw14_SpanRanks.f k l a) ?_
  have hyes : Ev (fun k => peristylelaw14_SpanRanks.j0 k l a true) true := Ev.step (fun k => peristylelaw14_SpanRanks.j0_succ k _ _ _) (Ev.yes rfl (Ev.bind awake14_ev (Ev.now _)))
  obtain ⟨f, hf, hf2⟩ := few_all l
  unfold peristylelaw14_SpanRanks.f
  refine Ev.bind hf ?_
  cases f with
  | false => exact Ev.no (by decide) hyes
  | true =>
    have la : l.length ≤ 4398046511104 := by have := (hf2 rfl).1; omega
    refine Ev.yes rfl (Ev.bind (ref14_May_ev l la) ?_)
    cases hm : mayB l (-1) with
    | false => exact hyes
    | true =>
      have hlen := placesR_len hm
      have hc := span_Count_ev l la
      rw [if_pos hm] at hc
      have hpick : ∀ i : Int, pickS l i = if i < 0 ∨ (cnt (memS l) 65536 : Int) ≤ i then (0, 3) else (rd (placesR l) i, 0) := fun i => by unfold pickS; rw [if_pos hm]
      generalize cnt (memS l) 65536 = T at hlen hc hpick
      refine Ev.step (fun k => peristylelaw14_SpanRanks.j0_succ k _ _ _) (Ev.no (by decide) (Ev.bind hc ?_))
      by_cases h0 : (T : Int) = 0
      · refine Ev.yes h0 (Ev.bind (span_Pick_ev l 0 (InI_small 0 (by omega)) la) ?_)
        have : pickS l 0 = (0, 3) := by rw [hpick, if_pos (.inr (by omega))]
        rw [this]
        exact Ev.yes rfl (Ev.bind awake14_ev (Ev.now _))
      · refine Ev.no h0 ?_
        obtain ⟨hb0, hb1⟩ := and_small a 65535 16 (by omega) (by omega)
        obtain ⟨m, hm1⟩ := Int.eq_ofNat_of_zero_le hb0
        have hm2 : Go.bits .and .i64 a 65535 = (m : Int) := hm1
        have hi : Int.tmod (Go.bits .and .i64 a 65535) (T : Int) = ((m % T : Nat) : Int) := by
          rw [hm2]
          rfl
        have hlt := Nat.mod_lt m (show 0 < T by omega)
        obtain ⟨i, hie⟩ : ∃ i, m % T = i := ⟨_, rfl⟩
        rw [hie] at hi hlt
        rw [hi]
        obtain ⟨n, hn, hcn, hrd⟩ := placesR_take l i (by omega)
        have hn16 := top_small hm n hn
        have hp : pickS l (i : Int) = ((n : Int), 0) := by rw [hpick, if_neg (by omega), hrd]
        have hi16 : i ≤ 70000 := by
          have := cnt_le (memS l) n
          omega
        have hr1 := span_Rank_ev l (n : Int) (InI_small n (Nat.le_trans (Nat.le_of_lt hn16) (by decide))) la
        rw [if_pos hm, Int.toNat_natCast, hcn] at hr1
        have e1 := wrap_succ n (Nat.le_trans (Nat.le_of_lt hn16) (by decide))
        have hr2 := span_Rank_ev l ((n + 1 : Nat) : Int) (InI_small _ (Nat.le_trans hn16 (by decide))) la
        rw [if_pos hm, Int.toNat_natCast, show cnt (memS l) (n + 1) = cnt (memS l) n + (if memS l n = true then 1 else 0) from rfl, if_pos hn, hcn] at hr2
        refine Ev.bind (span_Pick_ev l (i : Int) (InI_small i hi16) la) ?_
        rw [hp]
        refine Ev.yes rfl (Ev.bind hr1 (Ev.yes rfl (Ev.bind (span_Has_ev l (n : Int) la) (Ev.yes ?_ ?_))))
        · unfold hasS
          rw [hm, any_mem hm, Int.toNat_natCast, hn, decide_eq_true (Int.natCast_nonneg n)]
          rfl
        · rw [e1]
          exact Ev.bind hr2 (Ev.yes (wrap_succ i (Nat.le_trans hi16 (by decide))).symm (Ev.bind awake14_ev (Ev.now _)))
end Go.Proofs.Ytlhkjkldjhapeaa.Pure
