/- WordsNot: for any spans that may be (up to 60, of places up to 2^11; else it says only that the program is awake) and any n from their top on, twice Not gives their words again, nothing is in both, all places below n are in one, and together they are n. No condition. -/
import Derived.Test.YtgielanobeclnaaPrint0
import Derived.Test.YtgielanobeclnaaPrint2
import Derived.Test.YtgielanobeclnaaPrint8
import Derived.Test.YtgielanobeclnaaSZ
set_option linter.unusedVariables false
namespace Go.Proofs.Ytgielanobeclnaa.Pure
open Go.RowKit Go.Proofs.Ytgielanobeclnaa.Print Go.Proofs.YtgielanobeclnaaW.PrintWords Go.Proofs.YtgielanobeclnaaW.PrintLast Go.Proofs.YtgielanobeclnaaW.PrintMore
theorem not_main (l : List S48) (more : Int) (hl : l.length ≤ 60) (hm : mayB l (-1) = true) (ht : topS l ≤ 2048) : Ev (fun k => peristylelaw15_WordsNot.j0 k l more false) true := by
  have hr := and_small more 255 8 (by decide) (by decide)
  have htop := topS_le hm
  obtain ⟨N, hN⟩ := Int.eq_ofNat_of_zero_le (show 0 ≤ topS l + Go.bits .and .i64 more 255 by have := hr.1; have : (0 : Int) ≤ Go.bits .and .i64 more 255 := hr.1; omega)
  have hlt : Go.bits .and .i64 more 255 < 256 := hr.2
  have hge : 0 ≤ Go.bits .and .i64 more 255 := hr.1
  have e : wrap64 (topS l + Go.bits .and .i64 more 255) = (N : Int) := by rw [← hN]; unfold wrap64; omega
  have hN6 : N ≤ 65536 := by omega
  have htN : topS l ≤ (N : Int) := by omega
  have hma : mayW (wordsTo (memS l) (topN l)) = true := mayW_of (by rw [wordsTo_len]; exact (topN_le hm).1) (of_norm hm)
  have hIa := wordsTo_InI (memS l) (topN l)
  have hmem : ∀ k, memW (wordsTo (memS l) (topN l)) k = true → k < N := by
    intro k hk
    rw [of_mem hm k] at hk
    have := (memS_top hm k hk).1
    omega
  have hof : ofR l = (wordsTo (memS l) (topN l), 0) := by unfold ofR; rw [if_pos hm]
  have h1 := words_Of_ev l (by omega)
  rw [hof] at h1
  generalize wordsTo (memS l) (topN l) = a at *
  have hla := (mayW_norm hma).1
  obtain ⟨b, hb, hmb, hIb, hbm⟩ := notR_ok hma N hN6
  have hlb := (mayW_norm hmb).1
  obtain ⟨c, hc, hmc, hIc, hcm⟩ := notR_ok hmb N hN6
  have hlc := (mayW_norm hmc).1
  obtain ⟨d, hd, hmd, hId, hdm⟩ := bothR_ok (Go.bits .and .i64) (fun x y => x && y) (fun x y i => bit_and x y i) rfl (fun x y => InI_bits _ _ _) hma hmb
  obtain ⟨u, hu, hmu, hIu, hum⟩ := bothR_ok (Go.bits .or .i64) (fun x y => x || y) (fun x y i => bit_or x y i) rfl (fun x y => InI_bits _ _ _) hma hmb
  have hlu := (mayW_norm hmu).1
  have h2 := words_Not_ev a (N : Int) (by omega)
  rw [hb] at h2
  have h3 := words_Not_ev b (N : Int) (by omega)
  rw [hc] at h3
  have h4 := words_And_ev a b (by omega) (by omega)
  rw [hd] at h4
  have h5 := words_Or_ev a b (by omega) (by omega)
  rw [hu] at h5
  have h6 := words_Spans_ev u (by omega)
  have hfull := runs_full (l := u) N (fun k => by
    rw [hum k, hbm k]
    cases ha : memW a k
    · simp
    · have := hmem k ha
      simp [this])
  have hsp : spansR u = (if N = 0 then [] else [⟨0, (N : Int)⟩], 0) := by unfold spansR; rw [if_pos hmu, hfull]
  rw [hsp] at h6
  have hac : a = c := norm_unique hIa hIc (mayW_norm hma).2 (mayW_norm hmc).2 (fun k => by
    rw [hcm k, hbm k]
    cases ha : memW a k
    · simp
    · have := hmem k ha
      simp [this])
  have hd0 : d.length = 0 := by
    have := norm_len hId (mayW_norm hmd).2 0 (fun k _ => by
      rw [hdm k, hbm k]
      cases memW a k <;> simp)
    omega
  have hcnt : countW a + countW b = N := by
    rw [countW_at a N (fun k hk => by
      cases ha : memW a k
      · rfl
      · have := hmem k ha; omega), countW_at b N (fun k hk => by
      have h : ¬ k < N := by omega
      rw [hbm k]
      simp [h])]
    exact cnt_not _ _ N (fun k hk => by rw [hbm k]; simp [hk])
  have h7 := words_Count_ev a (by omega)
  rw [if_pos hma] at h7
  have h8 := words_Count_ev b (by omega)
  rw [if_pos hmb] at h8
  have hend : Ev (fun k => peristylelaw15_WordsNot.j2 k (N : Int) a b c d true) true := by
    refine Ev.step (fun k => peristylelaw15_WordsNot.j2_succ k _ _ _ _ _ _) (Ev.bind (ref01_Same_ev a c (by omega)) (Ev.yes (decide_eq_true hac) (Ev.yes (by omega) (Ev.yes rfl (Ev.bind h7 (Ev.bind h8 (Ev.yes ?_ (Ev.bind awake15_ev (Ev.now _)))))))))
    unfold wrap64
    omega
  refine Ev.step (fun k => peristylelaw15_WordsNot.j0_succ k _ _ _) (Ev.no (by decide) (Ev.call (ref14_Top_eq l (by omega)) (Ev.bind h1 ?_)))
  rw [e]
  refine Ev.bind h2 (Ev.bind h3 (Ev.bind h4 (Ev.bind h5 (Ev.bind h6 (Ev.yes rfl (Ev.yes rfl (Ev.yes rfl (Ev.yes rfl (Ev.yes rfl ?_)))))))))
  refine Ev.step (fun k => peristylelaw15_WordsNot.j1_succ k _ _ _ _ _ _ _) (Ev.no (show ¬ ((0 : Int) != 0) = true by decide) ?_)
  by_cases h0 : N = 0
  · rw [if_pos h0]
    exact Ev.yes (by omega) (Ev.yes rfl hend)
  · rw [if_neg h0]
    refine Ev.no (by omega) (Ev.yes rfl (Ev.yes (show (0 : Int) < 1 by decide) ?_))
    have eb : (((rd_T48 [(⟨0, (N : Int)⟩ : S48)] 0).f0 == 0) && ((rd_T48 [(⟨0, (N : Int)⟩ : S48)] 0).f1 == (N : Int))) = true := by
      show (((0 : Int) == 0) && ((N : Int) == (N : Int))) = true
      simp
    show Ev (fun k => peristylelaw15_WordsNot.j2 k (N : Int) a b c d (((rd_T48 [(⟨0, (N : Int)⟩ : S48)] 0).f0 == 0) && ((rd_T48 [(⟨0, (N : Int)⟩ : S48)] 0).f1 == (N : Int)))) true
    rw [eb]
    exact hend
theorem WordsNot : peristylelaw15_WordsNot.Pure := by
  intro l more hx hmore
  refine Ev.rounds (g := fun k => peristylelaw15_WordsNot.f k l more) ?_
  have hawake : Ev (fun k => peristylelaw15_WordsNot.j0 k l more true) true := Ev.step (fun k => peristylelaw15_WordsNot.j0_succ k _ _ _) (Ev.yes rfl (Ev.bind awake15_ev (Ev.now _)))
  unfold peristylelaw15_WordsNot.f
  by_cases hbig : (l.length : Int) ≤ 60
  · have hlen : l.length ≤ 4398046511104 := by omega
    obtain ⟨b, hb, hbt⟩ := few_ev l hlen
    refine Ev.bind hb ?_
    cases b with
    | false => exact Ev.no (by decide) hawake
    | true =>
      refine Ev.yes rfl (Ev.bind (ref14_May_ev l hlen) ?_)
      by_cases hm : mayB l (-1) = true
      · rw [hm]
        exact not_main l more (hbt rfl).1 hm ((hbt rfl).2 hm)
      · have hm : mayB l (-1) = false := by simpa using hm
        rw [hm]
        exact hawake
  · have hf : Ev (fun k => peristyleref14_Few.f k l) false := by
      unfold peristyleref14_Few.f
      exact Ev.no hbig (Ev.now _)
    exact Ev.bind hf (Ev.no (by decide) hawake)
end Go.Proofs.Ytgielanobeclnaa.Pure
