/- may: whether an extent may be. (Written by genem.py.) -/
import Derived.Test.YtdchljjhajbehaaEL
namespace Go.Proofs.Ytdchljjhajbehaa.Ex
open Go.RowKit Go.Proofs.Ytdchljjhajbehaa.Print Go.Proofs.YtdchljjhajbehaaW.PrintWords Go.Proofs.YtdchljjhajbehaaW.PrintLast Go.Proofs.YtdchljjhajbehaaW.PrintMore Go.Proofs.Ytdchljjhajbehaa.Holes
set_option linter.unusedVariables false
set_option linter.unusedSimpArgs false
/-- an extent that may be in a map of n blocks -/
def May (n : Int) (e : Ext) : Prop := 1 ≤ e.2 ∧ 0 ≤ e.1 ∧ e.1 < n ∧ e.2 ≤ n - e.1
instance (n : Int) (e : Ext) : Decidable (May n e) := by unfold May; infer_instance
set_option maxHeartbeats 8000000 in
set_option maxRecDepth 100000 in
theorem may_0 (b : Nat) (n : Int) (u : Value) (e1 e2 : Int) (w : World) (h : w.heap[b]? = some (.cells #[.int .i64 n, u] 57 (0, 0))) (hn : 0 < n) (hn2 : n ≤ 1000000) (h0 : ¬ 1 ≤ e2) :
    Calls Try.prog 24 #[.pointer (some ⟨b, 0, none⟩), .agg #[.int .i64 e1, .int .i64 e2]] w fun e w' => e = .returned (.bool false) ∧ Below w.heap.size w w' := by
  have hb := blk_alloc h (.cells #[.int .i64 e1, .int .i64 e2] 31)
  have HB := Aside0.mk hb
  have HN := Aside0.mk hn
  have k0 : (w.alloc (.cells #[.int .i64 e1, .int .i64 e2] 31)).cell? ⟨b, 0, none⟩ = some (.int .i64 n) := (blk_cell hb 0).trans rfl
  have k4 : Below w.heap.size w (w.alloc (.cells #[.int .i64 e1, .int .i64 e2] 31)) := (Below.refl _ _).alloc (Nat.le_refl _) _
  have K4 := Aside0.mk k4
  clear h hb k4 hn
  have d0 : decide (1 ≤ e2) = false := decide_eq_false h0
  clear hn2 h0
  go_enter Try.func24, Try.ntmps24
  go_wp2
  go_quiet ((go_at_call 31; refine Calls.quiet_of_same (given_calls b n u _ HB.out HN.out)))
  go_wp2
  go_ret
  exact ⟨rfl, pw_below_drewN K4.out _⟩
set_option maxHeartbeats 8000000 in
set_option maxRecDepth 100000 in
theorem may_1 (b : Nat) (n : Int) (u : Value) (e1 e2 : Int) (w : World) (h : w.heap[b]? = some (.cells #[.int .i64 n, u] 57 (0, 0))) (hn : 0 < n) (hn2 : n ≤ 1000000) (h0 : 1 ≤ e2) (h1 : ¬ 0 ≤ e1) :
    Calls Try.prog 24 #[.pointer (some ⟨b, 0, none⟩), .agg #[.int .i64 e1, .int .i64 e2]] w fun e w' => e = .returned (.bool false) ∧ Below w.heap.size w w' := by
  have hb := blk_alloc h (.cells #[.int .i64 e1, .int .i64 e2] 31)
  have HB := Aside0.mk hb
  have HN := Aside0.mk hn
  have k0 : (w.alloc (.cells #[.int .i64 e1, .int .i64 e2] 31)).cell? ⟨b, 0, none⟩ = some (.int .i64 n) := (blk_cell hb 0).trans rfl
  have k4 : Below w.heap.size w (w.alloc (.cells #[.int .i64 e1, .int .i64 e2] 31)) := (Below.refl _ _).alloc (Nat.le_refl _) _
  have K4 := Aside0.mk k4
  clear h hb k4 hn
  have d0 : decide (1 ≤ e2) = true := decide_eq_true h0
  have d1 : decide (0 ≤ e1) = false := decide_eq_false h1
  clear hn2 h1
  go_enter Try.func24, Try.ntmps24
  go_wp2
  go_quiet ((go_at_call 31; refine Calls.quiet_of_same (given_calls b n u _ HB.out HN.out)))
  go_wp2
  go_ret
  exact ⟨rfl, pw_below_drewN K4.out _⟩
set_option maxHeartbeats 8000000 in
set_option maxRecDepth 100000 in
theorem may_2 (b : Nat) (n : Int) (u : Value) (e1 e2 : Int) (w : World) (h : w.heap[b]? = some (.cells #[.int .i64 n, u] 57 (0, 0))) (hn : 0 < n) (hn2 : n ≤ 1000000) (h0 : 1 ≤ e2) (h1 : 0 ≤ e1) (h2 : ¬ e1 < n) :
    Calls Try.prog 24 #[.pointer (some ⟨b, 0, none⟩), .agg #[.int .i64 e1, .int .i64 e2]] w fun e w' => e = .returned (.bool false) ∧ Below w.heap.size w w' := by
  have hb := blk_alloc h (.cells #[.int .i64 e1, .int .i64 e2] 31)
  have HB := Aside0.mk hb
  have HN := Aside0.mk hn
  have k0 : (w.alloc (.cells #[.int .i64 e1, .int .i64 e2] 31)).cell? ⟨b, 0, none⟩ = some (.int .i64 n) := (blk_cell hb 0).trans rfl
  have k4 : Below w.heap.size w (w.alloc (.cells #[.int .i64 e1, .int .i64 e2] 31)) := (Below.refl _ _).alloc (Nat.le_refl _) _
  have K4 := Aside0.mk k4
  clear h hb k4 hn
  have d0 : decide (1 ≤ e2) = true := decide_eq_true h0
  have d1 : decide (0 ≤ e1) = true := decide_eq_true h1
  have d2 : decide (e1 < n) = false := decide_eq_false h2
  clear hn2 h2
  go_enter Try.func24, Try.ntmps24
  go_wp2
  go_quiet ((go_at_call 31; refine Calls.quiet_of_same (given_calls b n u _ HB.out HN.out)))
  go_wp2
  go_ret
  exact ⟨rfl, pw_below_drewN K4.out _⟩
set_option maxHeartbeats 8000000 in
set_option maxRecDepth 100000 in
theorem may_3 (b : Nat) (n : Int) (u : Value) (e1 e2 : Int) (w : World) (h : w.heap[b]? = some (.cells #[.int .i64 n, u] 57 (0, 0))) (hn : 0 < n) (hn2 : n ≤ 1000000) (h0 : 1 ≤ e2) (h1 : 0 ≤ e1) (h2 : e1 < n) (h3 : ¬ e2 ≤ n - e1) :
    Calls Try.prog 24 #[.pointer (some ⟨b, 0, none⟩), .agg #[.int .i64 e1, .int .i64 e2]] w fun e w' => e = .returned (.bool false) ∧ Below w.heap.size w w' := by
  have hb := blk_alloc h (.cells #[.int .i64 e1, .int .i64 e2] 31)
  have HB := Aside0.mk hb
  have HN := Aside0.mk hn
  have k0 : (w.alloc (.cells #[.int .i64 e1, .int .i64 e2] 31)).cell? ⟨b, 0, none⟩ = some (.int .i64 n) := (blk_cell hb 0).trans rfl
  have k4 : Below w.heap.size w (w.alloc (.cells #[.int .i64 e1, .int .i64 e2] 31)) := (Below.refl _ _).alloc (Nat.le_refl _) _
  have K4 := Aside0.mk k4
  clear h hb k4 hn
  have d0 : decide (1 ≤ e2) = true := decide_eq_true h0
  have d1 : decide (0 ≤ e1) = true := decide_eq_true h1
  have d2 : decide (e1 < n) = true := decide_eq_true h2
  have d3 : decide (e2 ≤ n - e1) = false := decide_eq_false h3
  have hw : IntKind.i64.wrap (n - e1) = n - e1 := by rw [IntKind.wrap_i64]; omega
  clear hn2 h3
  go_enter Try.func24, Try.ntmps24
  go_wp2
  go_quiet ((go_at_call 31; refine Calls.quiet_of_same (given_calls b n u _ HB.out HN.out)))
  go_wp2
  go_ret
  exact ⟨rfl, pw_below_drewN K4.out _⟩
set_option maxHeartbeats 8000000 in
set_option maxRecDepth 100000 in
theorem may_4 (b : Nat) (n : Int) (u : Value) (e1 e2 : Int) (w : World) (h : w.heap[b]? = some (.cells #[.int .i64 n, u] 57 (0, 0))) (hn : 0 < n) (hn2 : n ≤ 1000000) (h0 : 1 ≤ e2) (h1 : 0 ≤ e1) (h2 : e1 < n) (h3 : e2 ≤ n - e1) :
    Calls Try.prog 24 #[.pointer (some ⟨b, 0, none⟩), .agg #[.int .i64 e1, .int .i64 e2]] w fun e w' => e = .returned (.bool true) ∧ Below w.heap.size w w' := by
  have hb := blk_alloc h (.cells #[.int .i64 e1, .int .i64 e2] 31)
  have HB := Aside0.mk hb
  have HN := Aside0.mk hn
  have k0 : (w.alloc (.cells #[.int .i64 e1, .int .i64 e2] 31)).cell? ⟨b, 0, none⟩ = some (.int .i64 n) := (blk_cell hb 0).trans rfl
  have k4 : Below w.heap.size w (w.alloc (.cells #[.int .i64 e1, .int .i64 e2] 31)) := (Below.refl _ _).alloc (Nat.le_refl _) _
  have K4 := Aside0.mk k4
  clear h hb k4 hn
  have d0 : decide (1 ≤ e2) = true := decide_eq_true h0
  have d1 : decide (0 ≤ e1) = true := decide_eq_true h1
  have d2 : decide (e1 < n) = true := decide_eq_true h2
  have d3 : decide (e2 ≤ n - e1) = true := decide_eq_true h3
  have hw : IntKind.i64.wrap (n - e1) = n - e1 := by rw [IntKind.wrap_i64]; omega
  clear hn2
  go_enter Try.func24, Try.ntmps24
  go_wp2
  go_quiet ((go_at_call 31; refine Calls.quiet_of_same (given_calls b n u _ HB.out HN.out)))
  go_wp2
  go_ret
  exact ⟨rfl, pw_below_drewN K4.out _⟩
theorem may_calls (b : Nat) (n : Int) (u : Value) (e1 e2 : Int) (w : World) (h : w.heap[b]? = some (.cells #[.int .i64 n, u] 57 (0, 0))) (hn : 0 < n) (hn2 : n ≤ 1000000) :
    Calls Try.prog 24 #[.pointer (some ⟨b, 0, none⟩), .agg #[.int .i64 e1, .int .i64 e2]] w fun e w' => e = .returned (.bool (decide (May n (e1, e2)))) ∧ Below w.heap.size w w' := by
  by_cases h0 : 1 ≤ e2
  · by_cases h1 : 0 ≤ e1
    · by_cases h2 : e1 < n
      · by_cases h3 : e2 ≤ n - e1
        · rw [decide_eq_true (show May n (e1, e2) from ⟨h0, h1, h2, h3⟩)]
          exact may_4 b n u e1 e2 w h hn hn2 h0 h1 h2 h3
        · rw [decide_eq_false (fun q : May n (e1, e2) => h3 q.2.2.2)]
          exact may_3 b n u e1 e2 w h hn hn2 h0 h1 h2 h3
      · rw [decide_eq_false (fun q : May n (e1, e2) => h2 q.2.2.1)]
        exact may_2 b n u e1 e2 w h hn hn2 h0 h1 h2
    · rw [decide_eq_false (fun q : May n (e1, e2) => h1 q.2.1)]
      exact may_1 b n u e1 e2 w h hn hn2 h0 h1
  · rw [decide_eq_false (fun q : May n (e1, e2) => h0 q.1)]
    exact may_0 b n u e1 e2 w h hn hn2 h0
end Go.Proofs.Ytdchljjhajbehaa.Ex
