/- PackTakes: for any bytes (up to 2^9, else it says only that the program is awake) and any numbers the program's words, the word at any place, and the errors are the document's. No condition. -/
import Derived.Test.YtbgdboplkcgpaaaPrint5
import Derived.Test.YtbgdboplkcgpaaaSQ
import Derived.Test.YtbgdboplkcgpaaaSR
import Derived.Test.YtbgdboplkcgpaaaSA
namespace Go.Proofs.Ytbgdboplkcgpaaa.Pure
open Go.RowKit Go.Proofs.Ytbgdboplkcgpaaa.Print Go.Proofs.YtbgdboplkcgpaaaW.PrintWords Go.Proofs.YtbgdboplkcgpaaaW.PrintLast
theorem takeR_length (s : ByteArray) (n w : Int) : (takeR s n w).1.length ≤ 65536 := by
  unfold takeR
  split
  · simp
  · split
    · rw [listS_length]; omega
    · simp
theorem PackTakes : peristylelaw08_PackTakes.Pure := by
  intro s n w hs hn hw
  refine Ev.rounds (g := fun k => peristylelaw08_PackTakes.f k s n w) ?_
  unfold peristylelaw08_PackTakes.f
  by_cases h : (s.size : Int) > 512
  · exact Ev.yes h (Ev.bind awake_ev (Ev.now _))
  refine Ev.no h (Ev.bind (pack_Take_ev s n w (by omega)) (Ev.bind (ref08_Take_ev s n w (by omega)) ?_))
  refine Ev.bind (pack_At_ev s n w (by omega)) (Ev.bind (ref08_At_ev s n w (by omega)) ?_)
  have := takeR_length s n w
  refine Ev.bind (ref01_Same_ev _ _ (by omega)) (Ev.yes (by simp) (Ev.yes rfl (Ev.yes rfl (Ev.yes rfl ?_))))
  refine Ev.call (pack_Bytes_eq _ _) (Ev.call (ref_Bytes_eq _ _) (Ev.yes rfl ?_))
  exact Ev.bind awake_ev (Ev.now _)
end Go.Proofs.Ytbgdboplkcgpaaa.Pure
