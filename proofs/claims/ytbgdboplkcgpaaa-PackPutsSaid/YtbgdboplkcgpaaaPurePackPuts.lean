/- PackPuts: for any words (up to 100, else it says only that the program is awake) and any number of bits the program's bytes, errors and sizes are the document's. No condition. -/
import Derived.Test.YtbgdboplkcgpaaaPrint4
import Derived.Test.YtbgdboplkcgpaaaSQ
import Derived.Test.YtbgdboplkcgpaaaSR
import Derived.Test.YtbgdboplkcgpaaaSA
namespace Go.Proofs.Ytbgdboplkcgpaaa.Pure
open Go.RowKit Go.Proofs.Ytbgdboplkcgpaaa.Print Go.Proofs.YtbgdboplkcgpaaaW.PrintWords Go.Proofs.YtbgdboplkcgpaaaW.PrintLast
theorem PackPuts : peristylelaw08_PackPuts.Pure := by
  intro l w hl hb hx hw
  refine Ev.rounds (g := fun k => peristylelaw08_PackPuts.f k l w) ?_
  unfold peristylelaw08_PackPuts.f
  by_cases h100 : (l.length : Int) > 100
  · exact Ev.yes h100 (Ev.bind awake_ev (Ev.now _))
  refine Ev.no h100 (Ev.bind (pack_Put_ev l w (by omega)) (Ev.bind (ref08_Put_ev l w (by omega)) (Ev.yes rfl (Ev.yes rfl ?_))))
  refine Ev.bind (pack_Width_ev l (by omega)) (Ev.bind (ref08_Width_ev l (by omega)) (Ev.yes rfl ?_))
  refine Ev.call (pack_Bytes_eq _ _) (Ev.call (ref_Bytes_eq _ _) (Ev.yes rfl ?_))
  by_cases hm : mayPut l w
  · have hp : putR l w = (strOfNums (packB (stL l w.toNat) (l.length * w.toNat)), 0) := by unfold putR; rw [if_pos hm]
    rw [hp]
    refine Ev.yes rfl (Ev.call (pack_Bytes_eq _ _) (Ev.yes ?_ (Ev.bind awake_ev (Ev.now _))))
    unfold mayPut at hm
    obtain ⟨n, rfl⟩ := Int.eq_ofNat_of_zero_le hm.1
    have := bytesN_nat l.length n hm.2.2.1 (by omega)
    unfold bytesN at this
    rw [this, str_size, packB_length, Int.toNat_natCast]
  · have hp : putR l w = ((⟨#[]⟩ : ByteArray), 1) := by unfold putR; rw [if_neg hm]
    rw [hp]
    exact Ev.no (by decide) (Ev.bind awake_ev (Ev.now _))
end Go.Proofs.Ytbgdboplkcgpaaa.Pure
