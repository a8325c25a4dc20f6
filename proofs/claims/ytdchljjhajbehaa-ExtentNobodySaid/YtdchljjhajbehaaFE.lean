/- ExtentNobody: a map that nobody made answers nothing. -/
import Derived.Test.YtdchljjhajbehaaFA
import Derived.Test.YtdchljjhajbehaaFC
namespace Go.Proofs.Ytdchljjhajbehaa.Ex
open Go.RowKit Go.Proofs.Ytdchljjhajbehaa.Print Go.Proofs.YtdchljjhajbehaaW.PrintWords Go.Proofs.YtdchljjhajbehaaW.PrintLast Go.Proofs.YtdchljjhajbehaaW.PrintMore Go.Proofs.Ytdchljjhajbehaa.Holes
set_option linter.unusedVariables false
set_option linter.unusedSimpArgs false
/-- what the law has laid: its argument at X, the map of zeros at M, the list of both at L -/
structure NB (w : World) (X M L : Nat) (a b : Int) (W : World) : Prop where
  x : W.heap[X]? = some (.cells #[.int .i64 a, .int .i64 b] 31 (0, 0))
  m : ∃ u, W.heap[M]? = some (.cells #[.int .i64 0, u] 57 (0, 0))
  l0 : W.cell? ⟨L, 0, none⟩ = some (.pointer none)
  l1 : W.cell? ⟨L, 1, none⟩ = some (.pointer (some ⟨M, 0, none⟩))
  below : Below w.heap.size w W
theorem NB.then {w W W' : World} {X M L : Nat} {a b : Int} (h : NB w X M L a b W) (hb : Below W.heap.size W W') : NB w X M L a b W' :=
  ⟨blk_below h.x hb, by obtain ⟨u, hu⟩ := h.m; exact ⟨u, blk_below hu hb⟩, pw_cell_below hb h.l0, pw_cell_below hb h.l1, below_then h.below h.below.size hb⟩
theorem NB.at_ {w : World} {X M L : Nat} {a b : Int} (k : Nat) (hk : k < 2) : ∃ p, ∀ W, NB w X M L a b W → W.cell? ⟨L, k, none⟩ = some p ∧ No W p := by
  match k, hk with
  | 0, _ => exact ⟨_, fun W h => ⟨h.l0, .inl rfl⟩⟩
  | 1, _ => exact ⟨_, fun W h => ⟨h.l1, .inr (by obtain ⟨u, hu⟩ := h.m; exact ⟨M, u, rfl, hu⟩)⟩⟩
theorem NB.x1 {w W : World} {X M L : Nat} {a b : Int} (h : NB w X M L a b W) : W.cell? ⟨X, 1, none⟩ = some (.int .i64 b) := (blk_cell h.x 1).trans rfl
theorem NB.x0 {w W : World} {X M L : Nat} {a b : Int} (h : NB w X M L a b W) : W.cell? ⟨X, 0, none⟩ = some (.int .i64 a) := (blk_cell h.x 0).trans rfl
theorem NB.again {w wr W : World} {X M L kk : Nat} {a b : Int} {p : Value} (hp : ∀ W, NB w X M L a b W → W.cell? ⟨L, kk, none⟩ = some p ∧ No W p) (h : NB w X M L a b wr) (hb : Below wr.heap.size wr W) : W.cell? ⟨L, kk, none⟩ = some p ∧ W.cell? ⟨X, 1, none⟩ = some (.int .i64 b) ∧ NB w X M L a b W :=
  ⟨(hp _ (h.then hb)).1, (h.then hb).x1, h.then hb⟩
set_option maxHeartbeats 8000000 in
set_option maxRecDepth 100000 in
theorem ExtentNobody_walk (a b : Int) (w : World) (w0 : (Lit.int .i64 a).wf = true) (w1 : (Lit.int .i64 b).wf = true) : Calls Try.prog 7 #[.agg #[.int .i64 a, .int .i64 b]] w fun e w' => e = .returned (.bool true) ∧ Below w.heap.size w w' := by
  clear w0 w1
  go_enter Try.func7, Try.ntmps7
  go_wp2
  refine wp_letter (fun W => NB w w.heap.size (w.heap.size + 1) (w.heap.size + 1 + 1) a b W) ⟨blk_alloc (blk_alloc (new_blk w _ _ rfl) _) _, ⟨_, blk_alloc (new_blk _ _ _ (by simp)) _⟩, new_cell _ _ _ _ (by simp) 0, new_cell _ _ _ _ (by simp) 1, below_alloc (below_alloc (below_alloc (Below.refl _ _) _) _) _⟩ ?_
  generalize w.heap.size + 1 + 1 = L
  generalize w.heap.size + 1 = M
  generalize hX : w.heap.size = X
  have HX := Aside0.mk hX
  clear hX
  rintro W0 hW0
  go_loopw [4] (fun v4 wr => ∃ kk : Nat, Aside0 (kk ≤ 2) ∧ v4 = .int .i64 (kk : Int) ∧ Aside0 (NB w X M L a b wr)) (fun v4 _ => 2 - (intOf v4).toNat)
  case atStart => exact ⟨0, ⟨by decide⟩, rfl, ⟨hW0⟩⟩
  case round =>
    obtain ⟨kk, hkk, rfl, HN⟩ := hrel
    clear hW0
    by_cases hlt : kk < 2
    · have hltz : (kk : Int) < 2 := by omega
      have hltz0 : (0 : Int) ≤ (kk : Int) := Int.natCast_nonneg kk
      have hk1 := wrap_succ (k := kk) (by omega)
      have hk2 := wrap_succ' (k := kk) (by omega)
      obtain ⟨p, hp⟩ := NB.at_ (w := w) (X := X) (M := M) (L := L) (a := a) (b := b) kk hlt
      have HP := Aside0.mk hp
      have HLT := Aside0.mk hlt
      clear hp
      go_wp2
      go_region_held3 (fun w' => w'.cell? ⟨L, kk, none⟩ = some p ∧ w'.cell? ⟨X, 1, none⟩ = some (.int .i64 b) ∧ NB w X M L a b w')
        (first | exact ⟨(HP.out wr HN.out).1, HN.out.x1, HN.out.then (below_drew1 (Below.refl _ _))⟩ | assumption | (obtain ⟨s0, s1, s2⟩ := ‹(World.cell? _ _ = some _) ∧ _ ∧ NB _ _ _ _ _ _ _›; first | exact ⟨pw_cell_below hb s0, pw_cell_below hb s1, s2.then hb⟩ | exact ⟨pw_cell_below (below_alloc (Below.refl _ _) _) s0, pw_cell_below (below_alloc (Below.refl _ _) _) s1, s2.then (below_alloc (Below.refl _ _) _)⟩ | exact NB.again HP.out HN.out (by first | exact below_set (below_set HB8.out (Nat.le_refl _)) (Nat.le_refl _) | exact below_alloc HB8.out _ | exact below_set (below_set (below_alloc HB8.out _) HB8.out.size) HB8.out.size)))
        (first | (go_at_call 11; refine (alloc_no p b _ (by first | exact (HP.out _ (‹(World.cell? _ _ = some _) ∧ _ ∧ NB _ _ _ _ _ _ _›).2.2).2)).mono ?_; rintro e w8 ⟨rfl, hb⟩; have HB8 := Aside0.mk (show Below wr.heap.size wr w8 from by first | exact below_then (below_drew1 (Below.refl _ _)) (below_drew1 (Below.refl wr.heap.size wr)).size hb | exact below_then (below_alloc (below_drew1 (Below.refl _ _)) _) (below_alloc (below_drew1 (Below.refl wr.heap.size wr)) _).size hb); try (have hq := blk_below (new_blk wr.drew (.cells #[.int .i64 0, .int .i64 0] 31) wr.heap.size rfl) hb; have q0 : w8.cell? ⟨wr.heap.size, 0, none⟩ = some (.int .i64 0) := (blk_cell hq 0).trans rfl; have q1 : w8.cell? ⟨wr.heap.size, 1, none⟩ = some (.int .i64 0) := (blk_cell hq 1).trans rfl; have q2 := blk_frozen hq 0; have q3 := blk_frozen hq 1; have HQ := Aside0.mk hq; clear hq)))
      all_goals
        first
        | refine at_letter (fun W => ∃ q : Nat, q = wr.heap.size ∧ NB w X M L a b W ∧ W.heap[q]? = some (.cells #[.int .i64 0, .int .i64 0] 31 (0, 0))) ⟨_, rfl, HN.out.then (by exact below_set (below_set HB8.out (Nat.le_refl _)) (Nat.le_refl _)), blk_put (blk_put HQ.out 0 _ rfl) 1 _ rfl⟩ ?_
        | refine at_letter (fun W => ∃ q : Nat, q = w8.heap.size ∧ NB w X M L a b W ∧ W.heap[q]? = some (.cells #[.int .i64 0, .int .i64 0] 31 (0, 0))) ⟨_, rfl, HN.out.then (below_alloc HB8.out _), new_blk _ _ _ rfl⟩ ?_
      all_goals
        rintro W5 ⟨q, hq, h5, q5⟩
        rw [← hq]
        have H5 := Aside0.mk h5
        have Q5 := Aside0.mk q5
        clear hq h5 q5
        go_wp2
        go_region_held3 (fun w' => w'.cell? ⟨L, kk, none⟩ = some p ∧ w'.cell? ⟨X, 0, none⟩ = some (.int .i64 a) ∧ w'.cell? ⟨X, 1, none⟩ = some (.int .i64 b) ∧ w'.cell? ⟨q, 0, none⟩ = some (.int .i64 0) ∧ w'.cell? ⟨q, 1, none⟩ = some (.int .i64 0) ∧ NB w X M L a b w')
          (first | exact ⟨(HP.out W5 H5.out).1, H5.out.x0, H5.out.x1, (blk_cell Q5.out 0).trans rfl, (blk_cell Q5.out 1).trans rfl, H5.out.then (below_drew1 (Below.refl _ _))⟩ | assumption | (obtain ⟨s0, s1, s2, s3, s4, s5⟩ := ‹(World.cell? _ _ = some _) ∧ _ ∧ _ ∧ _ ∧ _ ∧ NB _ _ _ _ _ _ _›; exact ⟨pw_cell_below hb s0, pw_cell_below hb s1, pw_cell_below hb s2, pw_cell_below hb s3, pw_cell_below hb s4, s5.then hb⟩))
          (first
            | (go_at_call 18; refine (take_no p a b _ (HP.out _ (‹(World.cell? _ _ = some _) ∧ _ ∧ _ ∧ _ ∧ _ ∧ NB _ _ _ _ _ _ _›).2.2.2.2.2).2).mono ?_; rintro e w8 ⟨rfl, hb⟩)
            | (go_at_call 9; refine (free_no_ p a b _ (HP.out _ (‹(World.cell? _ _ = some _) ∧ _ ∧ _ ∧ _ ∧ _ ∧ NB _ _ _ _ _ _ _›).2.2.2.2.2).2).mono ?_; rintro e w8 ⟨rfl, hb⟩)
            | (go_at_call 12; refine (left_no p _ (HP.out _ (‹(World.cell? _ _ = some _) ∧ _ ∧ _ ∧ _ ∧ _ ∧ NB _ _ _ _ _ _ _›).2.2.2.2.2).2).mono ?_; rintro e w8 ⟨rfl, rfl⟩)
            | (go_at_call 10; refine (longest_no p _ (HP.out _ (‹(World.cell? _ _ = some _) ∧ _ ∧ _ ∧ _ ∧ _ ∧ NB _ _ _ _ _ _ _›).2.2.2.2.2).2).mono ?_; rintro e w8 ⟨rfl, rfl⟩)
            | (go_at_call 21; refine (holes_no p _ (HP.out _ (‹(World.cell? _ _ = some _) ∧ _ ∧ _ ∧ _ ∧ _ ∧ NB _ _ _ _ _ _ _›).2.2.2.2.2).2).mono ?_; rintro e w8 ⟨rfl, rfl⟩)
            | (go_at_call 22; refine (copy_no p _ (HP.out _ (‹(World.cell? _ _ = some _) ∧ _ ∧ _ ∧ _ ∧ _ ∧ NB _ _ _ _ _ _ _›).2.2.2.2.2).2).mono ?_; rintro e w8 ⟨rfl, rfl⟩))
        all_goals
          obtain ⟨_, _, _, _, _, hN9⟩ := ‹(World.cell? _ _ = some _) ∧ _ ∧ _ ∧ _ ∧ _ ∧ NB _ _ _ _ _ _ _›
          have HN9 := Aside0.mk hN9
          clear hN9
          go_wp2
          go_roundw
          case rel => exact ⟨kk + 1, ⟨HLT.out⟩, by first | rfl | (go_num; done), ⟨HN9.out⟩⟩
          case measure => exact meas HLT.out
    · have hltz : ¬ (kk : Int) < 2 := by omega
      clear hlt
      go_wp2_with (go_at_call 13; refine (awake_calls _).mono ?_; rintro e w3 ⟨rfl, hb⟩; have B3 := Aside0.mk (below_then HN.out.below HN.out.below.size hb); clear hb)
      go_ret
      exact ⟨rfl, B3.out⟩
end Go.Proofs.Ytdchljjhajbehaa.Ex
