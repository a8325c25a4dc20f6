/- PackMany: as many words as may be are put and taken, one more are not. No condition. -/
import Derived.Test.YtbgdboplkcgpaaaPrint6
import Derived.Test.YtbgdboplkcgpaaaSQ
import Derived.Test.YtbgdboplkcgpaaaSR
import Derived.Test.YtbgdboplkcgpaaaSA
namespace Go.Proofs.Ytbgdboplkcgpaaa.Pure
open Go.RowKit Go.Proofs.Ytbgdboplkcgpaaa.Print Go.Proofs.YtbgdboplkcgpaaaW.PrintWords Go.Proofs.YtbgdboplkcgpaaaW.PrintLast Go.Proofs.YtbgdboplkcgpaaaW.PrintMore
theorem spare_pack' (st : Nat → Bool) (N : Nat) : spareOK (strOfNums (packB st N)) N := by
  refine (pack_same _ N (by rw [str_size, packB_length])).1 ?_
  rw [packB_congr (st' := st) N (fun j hj => sbit_pack st N j hj)]
theorem PackMany : peristylelaw08_PackMany.Pure := by
  intro more width hm hw
  refine Ev.rounds (g := fun k => peristylelaw08_PackMany.f k more width) ?_
  unfold peristylelaw08_PackMany.f
  rw [and_7]
  obtain ⟨n, hn⟩ : ∃ n : Nat, wrap64 (65532 + more % 8) = (n : Int) := ⟨(wrap64 (65532 + more % 8)).toNat, by unfold wrap64; omega⟩
  have hn1 : 65532 ≤ n ∧ n ≤ 65539 := by unfold wrap64 at hn; omega
  have h255 : ∃ v : Nat, v ≤ 255 ∧ Go.bits .and .i64 width 255 = (v : Int) := by
    refine ⟨(width % 256).toNat, by omega, ?_⟩
    refine bit_inj (InI_bits _ _ _) (by unfold InI; omega) (fun i hi => ?_)
    have e : B (Go.bits .and .i64 width 255) = B (((width % 256).toNat : Nat) : Int) := by
      apply BitVec.eq_of_toNat_eq
      rw [B_and, BitVec.toNat_and, show (B 255).toNat = 2 ^ 8 - 1 by decide, Nat.and_two_pow_sub_one_eq_mod, B_toNat, B_toNat]
      omega
    unfold bit
    rw [e]
  obtain ⟨v, hv, he⟩ := h255
  rw [hn, he]
  have hmod : Int.tmod (v : Int) 3 = ((v % 3 : Nat) : Int) := rfl
  rw [hmod]
  obtain ⟨w, hw3⟩ : ∃ w, v % 3 = w := ⟨_, rfl⟩
  have hw4 : w ≤ 2 := by omega
  rw [hw3]
  have hwid : widL (List.replicate n 0) ≤ 0 := by
    rw [widL_le_iff _ _ (by omega)]
    intro x hx i hi
    rw [List.eq_of_mem_replicate hx, bit_zero]
  refine Ev.yes (by omega) (Ev.yes (by omega) ?_)
  rw [Int.toNat_natCast]
  refine Ev.bind (pack_Put_ev _ _ (by rw [List.length_replicate]; omega)) ?_
  by_cases h : (n : Int) > 65536
  · have hput : putR (List.replicate n 0) (w : Int) = ((⟨#[]⟩ : ByteArray), 1) := by
      unfold putR
      rw [if_neg (fun h2 => by unfold mayPut at h2; rw [List.length_replicate] at h2; omega)]
    rw [hput]
    refine Ev.yes h (Ev.yes (by rw [Lib.toList_data]) (Ev.yes rfl (Ev.call (pack_Bytes_eq _ _) (Ev.yes ?_ (Ev.bind awake_ev (Ev.now _))))))
    rw [if_pos (.inr (.inl (by omega)))]
  · have hput : putR (List.replicate n 0) (w : Int) = (strOfNums (packB (stL (List.replicate n 0) w) (n * w)), 0) := by
      unfold putR
      rw [if_pos (by unfold mayPut; rw [List.length_replicate]; omega), List.length_replicate, Int.toNat_natCast]
    rw [hput]
    have hN : n * w ≤ 65539 * 2 := Nat.mul_le_mul hn1.2 hw4
    have hsz : (strOfNums (packB (stL (List.replicate n 0) w) (n * w))).size = (n * w + 7) / 8 := by rw [str_size, packB_length]
    have htake : takeR (strOfNums (packB (stL (List.replicate n 0) w) (n * w))) (n : Int) (w : Int) = (listS (strOfNums (packB (stL (List.replicate n 0) w) (n * w))) n w, 0) := by
      unfold takeR
      rw [if_neg (by omega), bytesN_nat n w (by omega) (by omega), Int.toNat_natCast, Int.toNat_natCast, if_pos ⟨by rw [hsz], spare_pack' _ _⟩]
    refine Ev.no h (Ev.bind (pack_Take_ev _ _ _ (by dsimp only; omega)) ?_)
    rw [htake]
    refine Ev.yes rfl (Ev.yes rfl (Ev.yes (by rw [listS_length]) (Ev.yes ?_ (Ev.bind awake_ev (Ev.now _)))))
    rw [hsz, ← Int.natCast_mul]
    rw [show wrap64 (((n * w : Nat) : Int)) = ((n * w : Nat) : Int) by unfold wrap64; omega, show wrap64 (((n * w : Nat) : Int) + 7) = ((n * w + 7 : Nat) : Int) by unfold wrap64; omega]
    rcases tdiv8 (n * w + 7) with h | h
    · exact h.symm
    · omega
end Go.Proofs.Ytbgdboplkcgpaaa.Pure
