/- Holes, New; a map's holes as the document's extents. -/
import Derived.Test.YtdchljjhajbehaaEP
namespace Go.Proofs.Ytdchljjhajbehaa.Ex
open Go.RowKit Go.Proofs.Ytdchljjhajbehaa.Print Go.Proofs.YtdchljjhajbehaaW.PrintWords Go.Proofs.YtdchljjhajbehaaW.PrintLast Go.Proofs.YtdchljjhajbehaaW.PrintMore Go.Proofs.Ytdchljjhajbehaa.Holes
set_option linter.unusedVariables false
set_option linter.unusedSimpArgs false
def toS (h : Ext) : S31 := ⟨h.1, h.2⟩
theorem toS_inj {a b : List Ext} (h : a.map toS = b.map toS) : a = b := by
  induction a generalizing b with
  | nil => cases b with
    | nil => rfl
    | cons y b => cases h
  | cons x a ih => cases b with
    | nil => cases h
    | cons y b =>
      simp only [List.map_cons, List.cons.injEq] at h
      have h1 := congrArg S31.f0 h.1
      have h2 := congrArg S31.f1 h.1
      rw [ih h.2, show x = y from Prod.ext h1 h2]
theorem cells_pair (hs : List Ext) (j : Nat) (hj : j < hs.length) : ((cellsE hs).drop (j * 2)).take 2 = [.int .i64 hs[j].1, .int .i64 hs[j].2] := by
  rw [cellsE_drop, List.drop_eq_getElem_cons hj]
  rfl
theorem reps_S (w : World) (hs : List Ext) : Reps (k31.K w) 2 (hs.map toS) (cellsE hs) := by
  refine ⟨by rw [cellsE_length, List.length_map], fun j p hp => ?_⟩
  rw [List.getElem?_map] at hp
  obtain ⟨x, hx, rfl⟩ := Option.map_eq_some_iff.1 hp
  obtain ⟨hj, rfl⟩ := List.getElem?_eq_some_iff.1 hx
  rw [cells_pair hs j hj]
  exact k31_mk w (toS hs[j])
/-- a row of extents, as the document's functions read it -/
theorem Row.kC {W : World} {g n c : Nat} {hs : List Ext} (h : Row W g n c (cellsE hs)) : k31.C W (some ⟨g, 0, none⟩) (hs.map toS).length (hs.map toS) := by
  have hl := h.elen
  have hm := h.le
  have hx := h.max
  unfold maxLen at hx
  refine ⟨rfl, by rw [List.length_map]; omega, fun _ => ⟨⟨g, 0, none⟩, rfl, fun j p hp => ?_⟩⟩
  rw [List.getElem?_map] at hp
  obtain ⟨x, hx, rfl⟩ := Option.map_eq_some_iff.1 hp
  obtain ⟨hj, rfl⟩ := List.getElem?_eq_some_iff.1 hx
  refine ⟨[.int .i64 hs[j].1, .int .i64 hs[j].2], rfl, k31_mk W (toS hs[j]), fun i u hu => ?_⟩
  rw [add_plain]
  have hr := h.ext j hj
  match i, hu with
  | 0, hu => obtain rfl := Option.some.inj hu; exact hr.1
  | 1, hu => obtain rfl := Option.some.inj hu; exact hr.2
  | i + 2, hu => simp at hu
/-- a row of the document's extents as cells -/
theorem R_cells {W : World} {base : Nat} {ok : Nat → Prop} {v : Value} {hs : List Ext} (h : k31.R 31 W base ok v (hs.map toS)) : W.ownsRow base 31 2 v hs.length (cellsE hs) := by
  obtain ⟨_, inner, ho, hr⟩ := h
  rw [List.length_map] at ho
  have : inner = cellsE hs := by
    have hl := hr.1
    rw [List.length_map] at hl
    apply List.ext_getElem?
    intro i
    by_cases hi : i < hs.length * 2
    · have hj : i / 2 < hs.length := by omega
      have h1 := k31_openM (hr.2 (i / 2) (toS hs[i / 2]) (by rw [List.getElem?_map, List.getElem?_eq_getElem hj]; rfl))
      have h2 := cells_pair hs (i / 2) hj
      have e1 : inner[i]? = ((inner.drop (i / 2 * 2)).take 2)[i % 2]? := by
        rw [List.getElem?_take, if_pos (Nat.mod_lt _ (by decide)), List.getElem?_drop]
        congr 1; omega
      have e2 : (cellsE hs)[i]? = (((cellsE hs).drop (i / 2 * 2)).take 2)[i % 2]? := by
        rw [List.getElem?_take, if_pos (Nat.mod_lt _ (by decide)), List.getElem?_drop]
        congr 1; omega
      rw [e1, e2, h2]
      exact congrArg (fun z => z[i % 2]?) h1
    · have hk : k31.sz = 2 := rfl
      rw [hk] at hl
      rw [List.getElem?_eq_none (by omega), List.getElem?_eq_none (by rw [cellsE_length]; omega)]
  rw [this] at ho
  exact ho
set_option maxHeartbeats 4000000 in
theorem holes_calls (b g c : Nat) (n : Int) (hs : List Ext) (w : World) (h : MapAt w b g c n hs) (hlen : hs.length ≤ 10000) :
    Calls Try.prog 21 #[.pointer (some ⟨b, 0, none⟩)] w fun e w' => ∃ v : Value, e = .returned v ∧ k31.R 31 w' w.heap.size (fun _ => True) v (hs.map toS) ∧ Below w.heap.size w w' := by
  have HM := Aside0.mk h
  have hm0 : w.cell? ⟨b, 1, none⟩ = some (.slice (some ⟨g, 0, none⟩) hs.length c) := (blk_cell h.hd 1).trans rfl
  have HC := Aside0.mk h.row.kC
  have HLE : Aside0 ((hs.map toS).length ≤ c) := ⟨by rw [List.length_map]; exact h.row.le⟩
  have HF : Aside0 (api_Extent_41.f (hs.map toS) = some (hs.map toS)) := ⟨by unfold api_Extent_41.f; rw [if_pos (by rw [List.length_map]; omega)]⟩
  have HLL : Aside0 ((hs.map toS).length = hs.length) := ⟨List.length_map _⟩
  clear h hlen
  go_enter Try.func21, Try.ntmps21
  go_wp2_with (first | (go_at_call 31; refine (given_calls b n _ _ HM.out.hd HM.out.pos).mono ?_; rintro e w9 ⟨rfl, hw9⟩; rw [hw9]; clear hw9) | (go_at_call 41; rw [← HLL.out]; refine (api_Extent_41.calls _ _ _ _ _ HC.out HLE.out HF.out).mono ?_; rintro e w8 ⟨v, rfl, hv, hb⟩; have HV := Aside0.mk hv; have HB := Aside0.mk hb; clear hv hb))
  go_ret
  exact ⟨v, rfl, HV.out, HB.out⟩
set_option maxHeartbeats 4000000 in
theorem new_ok (n : Int) (w : World) (h1 : 1 ≤ n) (h2 : n ≤ 4096) :
    Calls Try.prog 8 #[.int .i64 n] w fun e w' => ∃ b g c, e = .returned (.tuple #[.pointer (some ⟨b, 0, none⟩), .int .i64 0]) ∧ MapAt w' b g c n [(0, n)] ∧ w.heap.size ≤ b ∧ w.heap.size ≤ g ∧ Below w.heap.size w w' := by
  have d1 : decide (n < 1) = false := decide_eq_false (by omega)
  have d2 : decide (4096 < n) = false := decide_eq_false (by omega)
  have HN := Aside0.mk (show 0 < n by omega)
  go_enter Try.func8, Try.ntmps8
  go_wp2
  go_ret2
  refine ⟨w.heap.size + 1, w.heap.size, 1, rfl, ⟨?_, ⟨⟨#[.int .i64 0, .int .i64 n], ?_, rfl, rfl⟩, Nat.le_refl _, by decide, cellsE_one _⟩, HN.out⟩, Nat.le_succ _, Nat.le_refl _, below_alloc (below_alloc (Below.refl _ _) _) _⟩
  · exact new_blk _ _ _ (by simp)
  · exact blk_alloc (new_blk w _ _ rfl) _
set_option maxHeartbeats 4000000 in
theorem new_no (n : Int) (w : World) (h : n < 1 ∨ 4096 < n) :
    Calls Try.prog 8 #[.int .i64 n] w fun e w' => e = .returned (.tuple #[.pointer none, .int .i64 1]) ∧ w' = w := by
  by_cases h1 : n < 1
  · have d1 : decide (n < 1) = true := decide_eq_true h1
    clear h
    go_enter Try.func8, Try.ntmps8
    go_wp2
    go_ret2
    exact ⟨rfl, rfl⟩
  · have h2 : 4096 < n := by omega
    have d1 : decide (n < 1) = false := decide_eq_false h1
    have d2 : decide (4096 < n) = true := decide_eq_true h2
    clear h
    go_enter Try.func8, Try.ntmps8
    go_wp2
    go_ret2
    exact ⟨rfl, rfl⟩
end Go.Proofs.Ytdchljjhajbehaa.Ex
