/- PackBack: any words (up to 60, else it says only that the program is awake), put in as many bits as they need or more, are taken as they were, each is at its place, and in one bit less they are not put. No condition. -/
import Derived.Test.YtbgdboplkcgpaaaPrint5
import Derived.Test.YtbgdboplkcgpaaaSQ
import Derived.Test.YtbgdboplkcgpaaaSR
import Derived.Test.YtbgdboplkcgpaaaSA
namespace Go.Proofs.Ytbgdboplkcgpaaa.Pure
open Go.RowKit Go.Proofs.Ytbgdboplkcgpaaa.Print Go.Proofs.YtbgdboplkcgpaaaW.PrintWords Go.Proofs.YtbgdboplkcgpaaaW.PrintLast Go.Proofs.YtbgdboplkcgpaaaW.PrintMore
theorem wordS_pack (l : List Int) (w k : Nat) (hw : w ≤ 64) (hl : ∀ x, x ∈ l → InI x) (hwid : widL l ≤ (w : Int)) (hk : k < l.length) :
    wordS (strOfNums (packB (stL l w) (l.length * w))) (k * w) w = rd l (k : Int) := by
  have hx := rd_mem l k hk
  refine (wordP_of (hl _ hx) _ (fun t ht => ?_)).symm
  have hN : (k + 1) * w ≤ l.length * w := Nat.mul_le_mul_right w (by omega)
  rw [Nat.succ_mul] at hN
  by_cases h : t < w
  · rw [sbit_pack _ _ _ (by omega), stL_at l w k t h]
    simp [h]
  · rw [(widL_le_iff l w (by omega)).1 hwid _ hx t (by omega)]
    simp [h]
theorem spare_pack (st : Nat → Bool) (N : Nat) : spareOK (strOfNums (packB st N)) N := by
  refine (pack_same _ N (by rw [str_size, packB_length])).1 ?_
  rw [packB_congr (st' := st) N (fun j hj => sbit_pack st N j hj)]
theorem back_loop (l : List Int) (w : Nat) (s : ByteArray) (hs : s = strOfNums (packB (stL l w) (l.length * w))) (hw : w ≤ 64) (hl : ∀ x, x ∈ l → InI x) (hwid : widL l ≤ (w : Int)) (h60 : l.length ≤ 60) :
    ∀ (d i : Nat), i + d = l.length → Ev (fun k => peristylelaw08_PackBack.l0 k l (w : Int) s (i : Int)) true
  | 0, i, h => by
    refine Ev.step (fun k => peristylelaw08_PackBack.l0_succ k _ _ _ _) (Ev.no (by omega) ?_)
    exact Ev.step (fun k => peristylelaw08_PackBack.j3_succ k _ _ _ _ _) (Ev.no (by decide) (Ev.bind awake_ev (Ev.now _)))
  | d + 1, i, h => by
    have hih := back_loop l w s hs hw hl hwid h60 d (i + 1) (by omega)
    refine Ev.step (fun k => peristylelaw08_PackBack.l0_succ k _ _ _ _) (Ev.yes (by omega) ?_)
    refine Ev.step (fun k => peristylelaw08_PackBack.j3_succ k _ _ _ _ _) ?_
    by_cases h0 : (w : Int) > 0
    · have hsz : s.size = (l.length * w + 7) / 8 := by rw [hs, str_size, packB_length]
      have hN : l.length * w ≤ 60 * 64 := Nat.mul_le_mul h60 hw
      have hN2 : (i + 1) * w ≤ l.length * w := Nat.mul_le_mul_right w (by omega)
      rw [Nat.succ_mul] at hN2
      refine Ev.yes (decide_eq_true h0) (Ev.bind (pack_At_ev s (i : Int) (w : Int) (by omega)) ?_)
      have hk : i < 8 * s.size / w := (Nat.le_div_iff_mul_le (show 0 < w by omega) (x := i + 1) (y := 8 * s.size)).2 (by rw [Nat.succ_mul]; omega)
      obtain ⟨b1, b2, b3⟩ := at_bounds s i w (by omega) (by omega) hw
      have ha : atR s (i : Int) (w : Int) = (rd l (i : Int), 0) := by
        unfold atR
        rw [if_neg (by omega), b2, if_neg (fun h => by rcases h with h | h; omega; exact absurd hk (Nat.not_lt.2 (Int.ofNat_le.1 h))), Int.toNat_natCast, Int.toNat_natCast, hs, wordS_pack l w i hw hl hwid (by omega)]
      rw [ha]
      refine Ev.yes (by omega) (Ev.yes (by omega) (Ev.yes rfl (Ev.yes rfl ?_)))
      rw [show wrap64 ((i : Int) + 1) = ((i + 1 : Nat) : Int) by unfold wrap64; omega]
      exact hih
    · exact Ev.no (by simpa using h0) (Ev.bind awake_ev (Ev.now _))
theorem PackBack : peristylelaw08_PackBack.Pure := by
  intro l more hl hb hx hm
  refine Ev.rounds (g := fun k => peristylelaw08_PackBack.f k l more) ?_
  unfold peristylelaw08_PackBack.f
  by_cases h60 : (l.length : Int) > 60
  · exact Ev.yes h60 (Ev.bind awake_ev (Ev.now _))
  have hI : ∀ x, x ∈ l → InI x := fun x h => InI.of_wf (hx x h)
  have hwl := widL_le l
  refine Ev.no h60 (Ev.bind (pack_Width_ev l (by omega)) ?_)
  rw [and_7]
  obtain ⟨w, hw⟩ : ∃ w : Nat, mn 64 (wrap64 (widL l + more % 8)) = (w : Int) := ⟨(mn 64 (wrap64 (widL l + more % 8))).toNat, by unfold mn wrap64; split <;> omega⟩
  have hw1 : w ≤ 64 ∧ widL l ≤ (w : Int) := by unfold mn wrap64 at hw; split at hw <;> omega
  rw [hw]
  have hput : putR l (w : Int) = (strOfNums (packB (stL l w) (l.length * w)), 0) := by
    unfold putR
    rw [if_pos (by unfold mayPut; omega), Int.toNat_natCast]
  have hsz : (strOfNums (packB (stL l w) (l.length * w))).size = (l.length * w + 7) / 8 := by rw [str_size, packB_length]
  have hN : l.length * w ≤ 60 * 64 := Nat.mul_le_mul (by omega) hw1.1
  have htake : takeR (strOfNums (packB (stL l w) (l.length * w))) (l.length : Int) (w : Int) = (l, 0) := by
    unfold takeR
    rw [if_neg (by omega), bytesN_nat l.length w (by omega) hw1.1, Int.toNat_natCast, Int.toNat_natCast, if_pos ⟨by rw [hsz], spare_pack _ _⟩]
    refine congrArg (fun z => (z, (0 : Int))) (List.ext_getElem (by rw [listS_length]) (fun i h1 h2 => ?_))
    have : (listS (strOfNums (packB (stL l w) (l.length * w))) l.length w)[i] = wordS (strOfNums (packB (stL l w) (l.length * w))) (i * w) w := by simp [listS]
    rw [this, wordS_pack l w i hw1.1 hI hw1.2 h2, rd_get l i h2]
  refine Ev.bind (pack_Put_ev l w (by omega)) ?_
  rw [hput]
  refine Ev.bind (pack_Take_ev _ _ _ (by dsimp only; omega)) ?_
  rw [htake]
  refine Ev.yes rfl (Ev.yes rfl (Ev.bind (ref01_Same_ev l l (by omega)) ?_))
  refine Ev.step (fun k => peristylelaw08_PackBack.j0_succ k _ _ _ _ _) (Ev.no (by simp) ?_)
  have hlast : Ev (fun k => peristylelaw08_PackBack.j1 k l (w : Int) (strOfNums (packB (stL l w) (l.length * w)))) true :=
    Ev.step (fun k => peristylelaw08_PackBack.j1_succ k _ _ _) (back_loop l w _ rfl hw1.1 hI hw1.2 (by omega) l.length 0 (by omega))
  by_cases h0 : widL l > 0
  · refine Ev.yes h0 (Ev.bind (pack_Put_ev l _ (by omega)) (Ev.yes ?_ hlast))
    unfold putR
    rw [if_neg (fun h => by unfold mayPut at h; rw [show wrap64 (widL l - 1) = widL l - 1 by unfold wrap64; omega] at h; omega)]
  · exact Ev.no h0 hlast
end Go.Proofs.Ytbgdboplkcgpaaa.Pure
