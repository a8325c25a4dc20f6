/- What the functions answer for a map that nobody made. -/
import Derived.Test.YtdchljjhajbehaaER
namespace Go.Proofs.Ytdchljjhajbehaa.Ex
open Go.RowKit Go.Proofs.Ytdchljjhajbehaa.Print Go.Proofs.YtdchljjhajbehaaW.PrintWords Go.Proofs.YtdchljjhajbehaaW.PrintLast Go.Proofs.YtdchljjhajbehaaW.PrintMore Go.Proofs.Ytdchljjhajbehaa.Holes
set_option linter.unusedVariables false
set_option linter.unusedSimpArgs false
/-- a map that nobody made: nil, or a struct of zeros -/
def No (w : World) (p : Value) : Prop := p = .pointer none ∨ ∃ b u, p = .pointer (some ⟨b, 0, none⟩) ∧ w.heap[b]? = some (.cells #[.int .i64 0, u] 57 (0, 0))
theorem No.below {w w1 : World} {p : Value} (h : No w p) (hb : Below w.heap.size w w1) : No w1 p := by
  rcases h with h | ⟨b, u, h1, h2⟩
  · exact .inl h
  · exact .inr ⟨b, u, h1, blk_below h2 hb⟩
theorem given_no (p : Value) (w : World) (h : No w p) : Calls Try.prog 31 #[p] w fun e w' => e = .returned (.bool false) ∧ w' = w := by
  rcases h with rfl | ⟨b, u, rfl, h2⟩
  · exact given_nil w
  · exact given_zero b u w h2
set_option maxHeartbeats 4000000 in
theorem alloc_no (p : Value) (count : Int) (w : World) (h : No w p) :
    Calls Try.prog 11 #[p, .int .i64 count] w fun r w' => r = .returned (.tuple #[.agg #[.int .i64 0, .int .i64 0], .int .i64 1]) ∧ Below w.heap.size w w' := by
  have HM := Aside0.mk h
  clear h
  go_enter Try.func11, Try.ntmps11
  go_wp2_with (go_at_call 31; refine (given_no p _ (HM.out.below (below_alloc (below_alloc (Below.refl _ _) _) _))).mono ?_; rintro e w9 ⟨rfl, hw9⟩; rw [hw9]; clear hw9)
  refine bodyPost_ret (results_ct rfl _ _ (w.heap.size + 1) 31 #[.int .i64 0, .int .i64 0] (0, 0) _ rfl (by first | exact new_blk _ _ _ (by simp) | exact blk_put (new_blk _ _ _ (by simp)) _ _ rfl) Try.underlying31 rfl (by kernel_rfl)) rfl ?_
  exact ⟨rfl, below_alloc (below_alloc (Below.refl _ _) _) _⟩
set_option maxHeartbeats 4000000 in
theorem may_no (p : Value) (e1 e2 : Int) (w : World) (h : No w p) :
    Calls Try.prog 24 #[p, .agg #[.int .i64 e1, .int .i64 e2]] w fun e w' => e = .returned (.bool false) ∧ Below w.heap.size w w' := by
  have HM := Aside0.mk h
  have K4 := Aside0.mk (below_alloc (Below.refl w.heap.size w) (.cells #[.int .i64 e1, .int .i64 e2] 31))
  clear h
  go_enter Try.func24, Try.ntmps24
  go_wp2
  go_quiet ((go_at_call 31; refine Calls.quiet_of_same (given_no p _ (by first | exact HM.out.below K4.out | exact HM.out.below (pw_below_drewN K4.out _)))))
  go_wp2
  go_ret
  exact ⟨rfl, pw_below_drewN K4.out _⟩
set_option maxHeartbeats 4000000 in
theorem take_no (p : Value) (e1 e2 : Int) (w : World) (h : No w p) :
    Calls Try.prog 18 #[p, .agg #[.int .i64 e1, .int .i64 e2]] w fun r w' => r = .returned (.int .i64 1) ∧ Below w.heap.size w w' := by
  have HM := Aside0.mk h
  clear h
  go_enter Try.func18, Try.ntmps18
  go_wp2_with (go_at_call 24; refine (may_no p e1 e2 _ (HM.out.below (below_alloc (Below.refl _ _) _))).mono ?_; rintro e w8 ⟨rfl, hb⟩; have HB8 := Aside0.mk (below_then (below_alloc (Below.refl w.heap.size w) _) (by simp) hb); clear hb)
  go_ret
  exact ⟨rfl, HB8.out⟩
set_option maxHeartbeats 4000000 in
theorem free_no_ (p : Value) (e1 e2 : Int) (w : World) (h : No w p) :
    Calls Try.prog 9 #[p, .agg #[.int .i64 e1, .int .i64 e2]] w fun r w' => r = .returned (.int .i64 1) ∧ Below w.heap.size w w' := by
  have HM := Aside0.mk h
  clear h
  go_enter Try.func9, Try.ntmps9
  go_wp2_with (go_at_call 24; refine (may_no p e1 e2 _ (HM.out.below (below_alloc (Below.refl _ _) _))).mono ?_; rintro e w8 ⟨rfl, hb⟩; have HB8 := Aside0.mk (below_then (below_alloc (Below.refl w.heap.size w) _) (by simp) hb); clear hb)
  go_ret
  exact ⟨rfl, HB8.out⟩
set_option maxHeartbeats 4000000 in
theorem holes_no (p : Value) (w : World) (h : No w p) :
    Calls Try.prog 21 #[p] w fun e w' => e = .returned (.slice none 0 0) ∧ w' = w := by
  have HM := Aside0.mk h
  clear h
  go_enter Try.func21, Try.ntmps21
  go_wp2_with (go_at_call 31; refine (given_no p _ HM.out).mono ?_; rintro e w9 ⟨rfl, hw9⟩; rw [hw9]; clear hw9)
  go_ret
  exact ⟨rfl, rfl⟩
set_option maxHeartbeats 4000000 in
theorem copy_no (p : Value) (w : World) (h : No w p) :
    Calls Try.prog 22 #[p] w fun e w' => e = .returned (.pointer none) ∧ w' = w := by
  have HM := Aside0.mk h
  clear h
  go_enter Try.func22, Try.ntmps22
  go_wp2_with (go_at_call 31; refine (given_no p _ HM.out).mono ?_; rintro e w9 ⟨rfl, hw9⟩; rw [hw9]; clear hw9)
  go_ret
  exact ⟨rfl, rfl⟩
set_option maxHeartbeats 4000000 in
theorem left_no (p : Value) (w : World) (h : No w p) :
    Calls Try.prog 12 #[p] w fun e w' => e = .returned (.int .i64 0) ∧ w' = w := by
  have HM := Aside0.mk h
  clear h
  go_enter Try.func12, Try.ntmps12
  go_wp2_with (go_at_call 21; refine (holes_no p _ HM.out).mono ?_; rintro e w9 ⟨rfl, hw9⟩; rw [hw9]; clear hw9)
  go_loopw [3, 5, 9] (fun v3 _ v9 wr => v3 = .int .i64 0 ∧ v9 = .int .i64 0 ∧ wr = w) (fun _ _ v9 _ => 0)
  case atStart => exact ⟨rfl, rfl, rfl⟩
  case round =>
    obtain ⟨rfl, rfl, rfl⟩ := hrel
    go_wp2
    go_ret
    exact ⟨rfl, rfl⟩
set_option maxHeartbeats 4000000 in
theorem longest_no (p : Value) (w : World) (h : No w p) :
    Calls Try.prog 10 #[p] w fun e w' => e = .returned (.int .i64 0) ∧ w' = w := by
  have HM := Aside0.mk h
  clear h
  go_enter Try.func10, Try.ntmps10
  go_wp2_with (go_at_call 21; refine (holes_no p _ HM.out).mono ?_; rintro e w9 ⟨rfl, hw9⟩; rw [hw9]; clear hw9)
  go_loopw [3, 5, 9] (fun v3 _ v9 wr => v3 = .int .i64 0 ∧ v9 = .int .i64 0 ∧ wr = w) (fun _ _ v9 _ => 0)
  case atStart => exact ⟨rfl, rfl, rfl⟩
  case round =>
    obtain ⟨rfl, rfl, rfl⟩ := hrel
    go_wp2
    go_ret
    exact ⟨rfl, rfl⟩
end Go.Proofs.Ytdchljjhajbehaa.Ex
