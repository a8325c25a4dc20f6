/- Holes of any map, Copy. -/
import Derived.Test.YtdchljjhajbehaaER
namespace Go.Proofs.Ytdchljjhajbehaa.Ex
open Go.RowKit Go.Proofs.Ytdchljjhajbehaa.Print Go.Proofs.YtdchljjhajbehaaW.PrintWords Go.Proofs.YtdchljjhajbehaaW.PrintLast Go.Proofs.YtdchljjhajbehaaW.PrintMore Go.Proofs.Ytdchljjhajbehaa.Holes
set_option linter.unusedVariables false
set_option linter.unusedSimpArgs false
/-- a map of which its holes can be read -/
def Read (W : World) (b : Nat) (n : Int) (hs : List Ext) : Prop := ∃ A c, W.heap[b]? = some (.cells #[.int .i64 n, .slice A hs.length c] 57 (0, 0)) ∧ Kd.C k31 W A (hs.map toS).length (hs.map toS) ∧ hs.length ≤ c ∧ 0 < n
theorem MapAt.read {W : World} {b g c : Nat} {n : Int} {hs : List Ext} (h : MapAt W b g c n hs) : Read W b n hs := ⟨_, c, h.hd, h.row.kC, h.row.le, h.pos⟩
theorem Read.below {W W1 : World} {b : Nat} {n : Int} {hs : List Ext} (h : Read W b n hs) (hb : Below W.heap.size W W1) : Read W1 b n hs := by
  obtain ⟨A, c, h1, h2, h3, h4⟩ := h
  exact ⟨A, c, blk_below h1 hb, Kd.C_below h2 hb, h3, h4⟩
set_option maxHeartbeats 4000000 in
theorem holes_read (b : Nat) (n : Int) (hs : List Ext) (w : World) (h : Read w b n hs) (hlen : hs.length ≤ 10000) :
    Calls Try.prog 21 #[.pointer (some ⟨b, 0, none⟩)] w fun e w' => ∃ v : Value, e = .returned v ∧ k31.R 31 w' w.heap.size (fun _ => True) v (hs.map toS) ∧ Below w.heap.size w w' := by
  obtain ⟨A, c, hd, hC, hle, hp⟩ := h
  have HD := Aside0.mk hd
  have HP := Aside0.mk hp
  have hm0 : w.cell? ⟨b, 1, none⟩ = some (.slice A hs.length c) := (blk_cell hd 1).trans rfl
  have HC := Aside0.mk hC
  have HLE : Aside0 ((hs.map toS).length ≤ c) := ⟨by rw [List.length_map]; exact hle⟩
  have HF : Aside0 (api_Extent_41.f (hs.map toS) = some (hs.map toS)) := ⟨by unfold api_Extent_41.f; rw [if_pos (by rw [List.length_map]; omega)]⟩
  have HLL : Aside0 ((hs.map toS).length = hs.length) := ⟨List.length_map _⟩
  clear hd hC hle hp hlen
  go_enter Try.func21, Try.ntmps21
  go_wp2_with (first | (go_at_call 31; refine (given_calls b n _ _ HD.out HP.out).mono ?_; rintro e w9 ⟨rfl, hw9⟩; rw [hw9]; clear hw9) | (go_at_call 41; rw [← HLL.out]; refine (api_Extent_41.calls _ _ _ _ _ HC.out HLE.out HF.out).mono ?_; rintro e w8 ⟨v, rfl, hv, hb⟩; have HV := Aside0.mk hv; have HB := Aside0.mk hb; clear hv hb))
  go_ret
  exact ⟨v, rfl, HV.out, HB.out⟩
/-- what Copy leaves: another map with the same holes -/
def Copied (w : World) (n : Int) (hs : List Ext) (b' : Nat) (w' : World) : Prop := w.heap.size ≤ b' ∧ Below w.heap.size w w' ∧ Read w' b' n hs ∧ (hs ≠ [] → ∃ g' c', MapAt w' b' g' c' n hs ∧ w.heap.size ≤ g')
theorem Row.of_R {W : World} {v : Value} {base : Nat} {hs : List Ext} (h : k31.R 31 W base (fun _ => True) v (hs.map toS)) (h0 : hs ≠ []) : ∃ g c, v = .slice (some ⟨g, 0, none⟩) hs.length c ∧ Row W g hs.length c (cellsE hs) ∧ base ≤ g := by
  have ho := R_cells h
  generalize hl : hs.length = m at ho
  rcases ho.2 with ⟨_, hz⟩ | ⟨g, cap, cur, hv, hg, hh, hnc, hcm, hcs, ht⟩
  · exact absurd (List.eq_nil_of_length_eq_zero (hl.trans hz)) h0
  · subst hl; exact ⟨g, cap, hv, ⟨⟨cur, hh, hcs, ht⟩, hnc, hcm, cellsE_one _⟩, hg⟩
set_option maxHeartbeats 4000000 in
theorem copy_calls (b g c : Nat) (n : Int) (hs : List Ext) (w : World) (h : MapAt w b g c n hs) (hlen : hs.length ≤ 10000) :
    Calls Try.prog 22 #[.pointer (some ⟨b, 0, none⟩)] w fun e w' => ∃ b', e = .returned (.pointer (some ⟨b', 0, none⟩)) ∧ Copied w n hs b' w' := by
  have HM := Aside0.mk h
  have hm0 : w.cell? ⟨b, 0, none⟩ = some (.int .i64 n) := (blk_cell h.hd 0).trans rfl
  have hm1 : w.cell? ⟨b, 1, none⟩ = some (.slice (some ⟨g, 0, none⟩) hs.length c) := (blk_cell h.hd 1).trans rfl
  have HC : Aside0 (Kd.C k31 w.drew (some ⟨g, 0, none⟩) (hs.map toS).length (hs.map toS)) := ⟨(h.row.same (W1 := w.drew) rfl).kC⟩
  have HLE : Aside0 ((hs.map toS).length ≤ c) := ⟨by rw [List.length_map]; exact h.row.le⟩
  have HF : Aside0 (api_Extent_41.f (hs.map toS) = some (hs.map toS)) := ⟨by unfold api_Extent_41.f; rw [if_pos (by rw [List.length_map]; omega)]⟩
  have HLL : Aside0 ((hs.map toS).length = hs.length) := ⟨List.length_map _⟩
  clear h hlen
  go_enter Try.func22, Try.ntmps22
  go_wp2_with (go_at_call 31; refine (given_calls b n _ _ HM.out.hd HM.out.pos).mono ?_; rintro e w9 ⟨rfl, hw9⟩; rw [hw9]; clear hw9)
  go_region_law (first | (go_simp; go_at_call 41; rw [← HLL.out]; refine (api_Extent_41.calls _ _ _ _ _ HC.out HLE.out HF.out).mono ?_; rintro e w8 ⟨v, rfl, hv, hb⟩; have HV := Aside0.mk hv; obtain ⟨A, cc, rfl, hlc, hC⟩ := Kd.R_reads hv; have HB := Aside0.mk hb; have hm8 : w8.cell? ⟨b, 0, none⟩ = some (.int .i64 n) := pw_cell_below hb hm0; have hm9 : w8.cell? ⟨b, 1, none⟩ = some (.slice (some ⟨g, 0, none⟩) hs.length c) := pw_cell_below hb hm1; clear hv hb hlc hC))
  all_goals go_wp2
  all_goals go_ret
  all_goals
    have hbw : Below w.heap.size w w8 := below_undrew HB.out
    obtain ⟨A2, c2, e2, hl2, hC2⟩ := Kd.R_reads HV.out
    injection e2 with e21 e22 e23
    subst e21 e23
    refine ⟨w8.heap.size, rfl, hbw.size, below_alloc hbw _, ⟨A, cc, new_blk _ _ _ rfl, Kd.C_below hC2 (below_alloc (Below.refl _ _) _), by rw [← HLL.out]; exact hl2, HM.out.pos⟩, fun h0 => ?_⟩
    obtain ⟨g', c', e, hr, hg⟩ := Row.of_R HV.out h0
    injection e with e3 e4 e5
    subst e3 e5
    exact ⟨g', cc, ⟨new_blk _ _ _ rfl, hr.below (below_alloc (Below.refl _ _) _), HM.out.pos⟩, hg⟩
end Go.Proofs.Ytdchljjhajbehaa.Ex
