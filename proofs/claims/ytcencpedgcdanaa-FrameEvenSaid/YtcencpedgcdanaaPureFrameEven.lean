/- FrameEven: 2 to 65 numbers that are as far from one another each lead to the bytes of the first two, and are taken back. No condition. -/
import Derived.Test.YtcencpedgcdanaaPrint14
import Derived.Test.YtcencpedgcdanaaSI
set_option linter.unusedVariables false
namespace Go.Proofs.Ytcencpedgcdanaa.Pure
open Go.RowKit Go.Proofs.Ytcencpedgcdanaa.Print Go.Proofs.YtcencpedgcdanaaW.PrintWords Go.Proofs.YtcencpedgcdanaaW.PrintLast
theorem even_loop (f first : Int) (hf : InI f) (hfirst : InI first) (n : Nat) (hn : 2 ≤ n) (hn6 : n ≤ 65) : ∀ (d i : Nat) (acc : List Int) (x : Int), i + d = n → acc.length = i → acc ++ evenL f d x = evenL f n first →
    Ev (fun k => peristylelaw09_FrameEven.l0 k f (n : Int) acc x (i : Int)) true
  | 0, i, acc, x, h, ha, he => by
    have he : acc = evenL f n first := by simpa [evenL] using he
    subst he
    obtain ⟨j, rfl⟩ : ∃ j, n = j + 2 := ⟨n - 2, by omega⟩
    have hI := evenL_InI f (j + 2) first hfirst
    have hlen := evenL_length f (j + 2) first
    have htk : (evenL f (j + 2) first).take 2 = evenL f 2 first := rfl
    have hI2 := evenL_InI f 2 first hfirst
    have e1 := even_put f j hf hlen (by omega) (evenL_steps f hf (j + 1) first hfirst)
    have e2 := even_put (l := evenL f 2 first) f 0 hf rfl (by rw [evenL_length]; omega) (evenL_steps f hf 1 first hfirst)
    have e3 : rd (evenL f (j + 2) first) 0 = rd (evenL f 2 first) 0 := rfl
    have hsame : putF (evenL f (j + 2) first) = putF (evenL f 2 first) := by rw [e1, e2, e3]
    have hsm := putF_small (evenL f (j + 2) first)
    have ht := frame_Take_ev (putF (evenL f (j + 2) first)).1 (by omega) (((j + 2 : Nat) : Int))
    have htp := takeF_putF hI (by omega)
    rw [hlen] at htp
    rw [htp] at ht
    refine Ev.step (fun k => peristylelaw09_FrameEven.l0_succ k _ _ _ _ _) (Ev.no (by omega) (Ev.bind (frame_Put_ev hI) (Ev.yes (by omega) ?_)))
    rw [htk]
    refine Ev.bind (frame_Put_ev hI2) (Ev.bind ht (Ev.yes (putF_ok (by omega)) (Ev.yes (putF_ok (by rw [evenL_length]; omega)) (Ev.yes (by rw [hsame]) (Ev.yes rfl ?_)))))
    exact Ev.bind (ref01_Same_ev _ _ (by show (evenL f (j + 2) first).length ≤ _; omega)) (Ev.yes (decide_eq_true rfl) (Ev.bind awake09_ev (Ev.now _)))
  | d + 1, i, acc, x, h, ha, he => by
    have e2 : wrap64 ((i : Int) + 1) = ((i + 1 : Nat) : Int) := by unfold wrap64; omega
    refine Ev.step (fun k => peristylelaw09_FrameEven.l0_succ k _ _ _ _ _) (Ev.yes (by omega) (Ev.yes (by omega) ?_))
    rw [e2]
    refine even_loop f first hf hfirst n hn hn6 d (i + 1) _ _ (by omega) (by simp; omega) ?_
    rw [← he]
    simp [evenL]
theorem FrameEven : peristylelaw09_FrameEven.Pure := by
  intro a f m ha hf hm
  refine Ev.rounds (g := fun k => peristylelaw09_FrameEven.f k a f m) ?_
  unfold peristylelaw09_FrameEven.f
  have hr := and_small m 63 6 (by decide) (by decide)
  obtain ⟨q, hq⟩ := Int.eq_ofNat_of_zero_le hr.1
  have e : wrap64 (2 + Go.bits .and .i64 m 63) = ((q + 2 : Nat) : Int) := by
    rw [show (63 : Int) = ((63 : Nat) : Int) from rfl, hq]
    rw [hq] at hr
    unfold wrap64
    omega
  rw [hq] at hr
  rw [e]
  exact even_loop f a (InI.of_wf hf) (InI.of_wf ha) (q + 2) (by omega) (by omega) (q + 2) 0 [] a (by omega) rfl rfl
end Go.Proofs.Ytcencpedgcdanaa.Pure
