/- FrameMany: as many numbers as may be, one like the other, lead to few bytes and are taken back; more are refused. No condition. -/
import Derived.Test.YtcencpedgcdanaaPrint15
import Derived.Test.YtcencpedgcdanaaPrint3
import Derived.Test.YtcencpedgcdanaaPrint5
import Derived.Test.YtcencpedgcdanaaPrint6
import Derived.Test.YtcencpedgcdanaaSI
set_option linter.unusedVariables false
namespace Go.Proofs.Ytcencpedgcdanaa.Pure
open Go.RowKit Go.Proofs.Ytcencpedgcdanaa.Print Go.Proofs.YtcencpedgcdanaaW.PrintWords Go.Proofs.YtcencpedgcdanaaW.PrintLast
theorem many_end (x : Int) (hx : InI x) (n : Nat) (hn : 65532 ≤ n ∧ n ≤ 65539) : Ev (fun k => (frame_Put.f k (List.replicate n x)).bind fun bt330 => (if (n : Int) > 65536 then (if bt330.1.toList = ([] : List UInt8) then (if bt330.2 = 1 then ((frame_Size.f k (List.replicate n x)).bind fun t332 => (if t332 = 0 then ((peristylelaw09_awake.f k).bind fun t333 => (some t333)) else (some false))) else (some false)) else (some false)) else ((frame_Take.f k bt330.1 (n : Int)).bind fun bt334 => (if bt330.2 = 0 then (if bt334.2 = 0 then (if (bt334.1.length : Int) = (n : Int) then (if (bt330.1.size : Int) ≤ 12 then ((frame_Size.f k (List.replicate n x)).bind fun t338 => (if t338 = (bt330.1.size : Int) then ((peristylelaw09_awake.f k).bind fun t339 => (some t339)) else (some false))) else (some false)) else (some false)) else (some false)) else (some false))))) true := by
  have hI : ∀ y, y ∈ List.replicate n x → InI y := fun y hy => by rw [List.eq_of_mem_replicate hy]; exact hx
  have hlen : (List.replicate n x).length = n := List.length_replicate
  have hsz := frame_Size_ev hI
  refine Ev.bind (frame_Put_ev hI) ?_
  by_cases h6 : (n : Int) > 65536
  · have e : putF (List.replicate n x) = ((⟨#[]⟩ : ByteArray), 1) := by unfold putF; rw [if_pos (by omega)]
    rw [e] at hsz ⊢
    exact Ev.yes h6 (Ev.yes (by rw [Lib.toList_data]) (Ev.yes rfl (Ev.bind hsz (Ev.yes rfl (Ev.bind awake09_ev (Ev.now _))))))
  · obtain ⟨j, rfl⟩ : ∃ j, n = j + 2 := ⟨n - 2, by omega⟩
    have hsm := putF_small (List.replicate (j + 2) x)
    have ht := frame_Take_ev (putF (List.replicate (j + 2) x)).1 (by omega) (((j + 2 : Nat) : Int))
    have htp := takeF_putF hI (by omega)
    rw [hlen] at htp
    rw [htp] at ht
    have h12 := even_size 0 j (by unfold InI; decide) hlen (by omega) (same_steps x (j + 1))
    have hv := vl_le (zig (rd (List.replicate (j + 2) x) 0))
    have hz : vl (zig 0) = 1 := by decide +kernel
    refine Ev.no h6 (Ev.bind ht (Ev.yes (putF_ok (by omega)) (Ev.yes rfl (Ev.yes ?_ (Ev.yes ?_ (Ev.bind hsz (Ev.yes rfl (Ev.bind awake09_ev (Ev.now _)))))))))
    · show (((List.replicate (j + 2) x).length : Nat) : Int) = _
      rw [hlen]
    · rw [h12]; omega
theorem many_loop (x : Int) (hx : InI x) (n : Nat) (hn : 65532 ≤ n ∧ n ≤ 65539) : ∀ (d i : Nat), i + d = n → Ev (fun k => peristylelaw09_FrameMany.l0 k x (n : Int) (List.replicate i x ++ List.replicate d 0) (i : Int)) true
  | 0, i, h => by
    obtain rfl : i = n := by omega
    have e : List.replicate i x ++ List.replicate 0 0 = List.replicate i x := by simp
    rw [e]
    exact Ev.step (fun k => peristylelaw09_FrameMany.l0_succ k _ _ _ _) (Ev.no (by omega) (many_end x hx i hn))
  | d + 1, i, h => by
    have hlen : (List.replicate i x ++ List.replicate (d + 1) (0 : Int)).length = n := by rw [List.length_append, List.length_replicate, List.length_replicate]; omega
    have e2 : wrap64 ((i : Int) + 1) = ((i + 1 : Nat) : Int) := by unfold wrap64; omega
    refine Ev.step (fun k => peristylelaw09_FrameMany.l0_succ k _ _ _ _) (Ev.yes (by omega) (Ev.yes (by omega) (Ev.yes (by rw [hlen]; omega) ?_)))
    have e : (List.replicate i x ++ List.replicate (d + 1) (0 : Int)).set i x = List.replicate (i + 1) x ++ List.replicate d 0 := by
      have := set_mid (List.replicate i x) 0 x (List.replicate d 0)
      rw [List.length_replicate] at this
      rw [List.replicate_succ, this, List.replicate_succ']
      simp
    rw [e2, Int.toNat_natCast, e]
    exact many_loop x hx n hn d (i + 1) (by omega)
theorem FrameMany : peristylelaw09_FrameMany.Pure := by
  intro m x hm hx
  refine Ev.rounds (g := fun k => peristylelaw09_FrameMany.f k m x) ?_
  unfold peristylelaw09_FrameMany.f
  have hr := and_small m 7 3 (by decide) (by decide)
  obtain ⟨q, hq⟩ := Int.eq_ofNat_of_zero_le hr.1
  have e : wrap64 (65532 + Go.bits .and .i64 m 7) = ((q + 65532 : Nat) : Int) := by
    rw [show (7 : Int) = ((7 : Nat) : Int) from rfl, hq]
    rw [hq] at hr
    unfold wrap64
    omega
  rw [hq] at hr
  rw [e]
  refine Ev.yes (by omega) (Ev.yes (by omega) ?_)
  rw [Int.toNat_natCast]
  exact many_loop x (InI.of_wf hx) (q + 65532) (by omega) (q + 65532) 0 (by omega)
end Go.Proofs.Ytcencpedgcdanaa.Pure
