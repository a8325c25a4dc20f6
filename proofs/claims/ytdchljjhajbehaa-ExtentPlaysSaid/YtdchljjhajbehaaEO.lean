/- Alloc and Take. -/
import Derived.Test.YtdchljjhajbehaaEN
namespace Go.Proofs.Ytdchljjhajbehaa.Ex
open Go.RowKit Go.Proofs.Ytdchljjhajbehaa.Print Go.Proofs.YtdchljjhajbehaaW.PrintWords Go.Proofs.YtdchljjhajbehaaW.PrintLast Go.Proofs.YtdchljjhajbehaaW.PrintMore Go.Proofs.Ytdchljjhajbehaa.Holes
set_option linter.unusedVariables false
set_option linter.unusedSimpArgs false
theorem e32 (args : Array Value) (W : World) : (callFunc 32 args).run Try.prog W = .ok (.enter 32 args) W := Go.Proofs.YtdchljjhajbehaaW.PrintLast.enters_ Try.func32 (by kernel_rfl) rfl args W
theorem e37 (args : Array Value) (W : World) : (callFunc 37 args).run Try.prog W = .ok (.enter 37 args) W := Go.Proofs.YtdchljjhajbehaaW.PrintLast.enters_ Try.func37 (by kernel_rfl) rfl args W
theorem e26 (args : Array Value) (W : World) : (callFunc 26 args).run Try.prog W = .ok (.enter 26 args) W := Go.Proofs.YtdchljjhajbehaaW.PrintLast.enters_ Try.func26 (by kernel_rfl) rfl args W
theorem e29 (args : Array Value) (W : World) : (callFunc 29 args).run Try.prog W = .ok (.enter 29 args) W := Go.Proofs.YtdchljjhajbehaaW.PrintLast.enters_ Try.func29 (by kernel_rfl) rfl args W
theorem MapAt.left {w w' : World} {b g c : Nat} {n : Int} {hs : List Ext} (h : MapAt w b g c n hs) (hb : Below w.heap.size w w') : Left_ w b g n hs w' := ⟨g, c, h.below hb, .inl rfl, Moved.of_below hb⟩
theorem MapAt.set {W : World} {b g c a j : Nat} {n : Int} {hs : List Ext} {v : Value} (h : MapAt W b g c n hs) (hb : a ≠ b) (hg : a ≠ g) : MapAt (W.setCell ⟨a, j, none⟩ v) b g c n hs :=
  h.far (Below.heap_setCell _ _ _ _ (fun e => hb e.symm)) (Below.heap_setCell _ _ _ _ (fun e => hg e.symm))
theorem Moved.setNew {w W : World} {b g a j : Nat} {v : Value} (h : Moved w W b g) (ha : w.heap.size ≤ a) : Moved w (W.setCell ⟨a, j, none⟩ v) b g :=
  ⟨h.os, h.tape, h.output, by have := h.size; simpa [World.setCell] using this, fun q hq h1 h2 => (Below.heap_setCell _ _ _ _ (fun e => by simp only at e; omega)).trans (h.block q hq h1 h2)⟩
/-- is a hole long enough? -/
def fitsP (count : Int) (h : Ext) : Bool := decide (count ≤ h.2)
set_option maxHeartbeats 8000000 in
set_option maxRecDepth 100000 in
theorem alloc_arg (b g c : Nat) (n : Int) (hs : List Ext) (count : Int) (w : World) (h : MapAt w b g c n hs) (hc : count < 1) :
    Calls Try.prog 11 #[.pointer (some ⟨b, 0, none⟩), .int .i64 count] w fun r w' => r = .returned (.tuple #[.agg #[.int .i64 0, .int .i64 0], .int .i64 1]) ∧ Left_ w b g n hs w' := by
  have HM := Aside0.mk h
  have hbl := h.lt.1
  clear h
  go_enter Try.func11, Try.ntmps11
  go_wp2_with (go_at_call 31; refine (given_calls b n _ _ (blk_alloc (blk_alloc HM.out.hd _) _) HM.out.pos).mono ?_; rintro e w9 ⟨rfl, hw9⟩; rw [hw9]; clear hw9)
  refine bodyPost_ret (results_ct rfl _ _ (w.heap.size + 1) 31 #[.int .i64 0, .int .i64 0] (0, 0) _ rfl (by first | exact new_blk _ _ _ (by simp) | exact blk_put (new_blk _ _ _ (by simp)) _ _ rfl) Try.underlying31 rfl (by kernel_rfl)) rfl ?_
  exact ⟨rfl, HM.out.left (below_alloc (below_alloc (Below.refl _ _) _) _)⟩
set_option maxHeartbeats 8000000 in
set_option maxRecDepth 100000 in
theorem alloc_full (b g c : Nat) (n : Int) (hs : List Ext) (count : Int) (w : World) (h : MapAt w b g c n hs) (hc : ¬ count < 1) (hlen : hs.length ≤ 10000) (hno : idxI (fitsP count) hs = -1) :
    Calls Try.prog 11 #[.pointer (some ⟨b, 0, none⟩), .int .i64 count] w fun r w' => r = .returned (.tuple #[.agg #[.int .i64 0, .int .i64 0], .int .i64 2]) ∧ Left_ w b g n hs w' := by
  have HM := Aside0.mk h
  have hbl := h.lt.1
  have hm0 : w.cell? ⟨b, 1, none⟩ = some (.slice (some ⟨g, 0, none⟩) hs.length c) := (blk_cell h.hd 1).trans rfl
  have HL := Aside0.mk hlen
  have HB0 : Aside0 (Below w.heap.size w ((w.alloc (.cells #[.int .i64 count] 3)).alloc (.cells #[.int .i64 0, .int .i64 0] 31))) := ⟨below_alloc (below_alloc (Below.refl _ _) _) _⟩
  have HK0 : Aside0 (((w.alloc (.cells #[.int .i64 count] 3)).alloc (.cells #[.int .i64 0, .int .i64 0] 31)).cell? ⟨w.heap.size, 0, none⟩ = some (.int .i64 count)) := ⟨(blk_cell (blk_alloc (new_blk w _ _ rfl) _) 0).trans rfl⟩
  have hc' : ¬ count ≤ 0 := by omega
  clear h hlen
  go_enter Try.func11, Try.ntmps11
  go_wp2_with (first | (go_at_call 31; refine (given_calls b n _ _ (blk_below HM.out.hd HB0.out) HM.out.pos).mono ?_; rintro e w9 ⟨rfl, hw9⟩; rw [hw9]; clear hw9) | (go_at_call 28; refine (indexFunc_calls 32 #[.pointer (some ⟨w.heap.size, 0, none⟩)] (fitsP count) e32 g c hs _ (HM.out.row.below HB0.out) (Nat.le_trans HL.out (by decide)) (fun k hk W hW => fits_calls w.heap.size count _ _ W (pw_cell_below hW HK0.out) (World.block_lt_of_cell? _ _ (pw_cell_below hW HK0.out)))).mono ?_; rintro e w8 ⟨rfl, hb⟩; rw [hno]; have HB8 := Aside0.mk (below_then HB0.out HB0.out.size hb); have h31 := blk_below (new_blk (w.alloc (.cells #[.int .i64 count] 3)) (.cells #[.int .i64 0, .int .i64 0] 31) (w.heap.size + 1) (by simp)) hb; have H31 := Aside0.mk h31; have hz8 : w8.cell? ⟨w.heap.size + 1, 0, none⟩ = some (.int .i64 0) := (blk_cell h31 0).trans rfl; have hz9 : w8.cell? ⟨w.heap.size + 1, 1, none⟩ = some (.int .i64 0) := (blk_cell h31 1).trans rfl; have hf8 := blk_frozen h31 0; have hf9 := blk_frozen h31 1; clear h31; clear hb))
  refine bodyPost_ret (results_ct rfl _ _ (w.heap.size + 1) 31 #[.int .i64 0, .int .i64 0] (0, 0) _ rfl (by exact blk_put (blk_put H31.out 0 _ rfl) 1 _ rfl) Try.underlying31 rfl (by kernel_rfl)) rfl ?_
  exact ⟨rfl, HM.out.left (below_set (below_set HB8.out (Nat.le_succ _)) (Nat.le_succ _))⟩
set_option maxHeartbeats 8000000 in
set_option maxRecDepth 100000 in
theorem alloc_ok (b g c : Nat) (n : Int) (hs : List Ext) (count : Int) (w : World) (h : MapAt w b g c n hs) (hc : ¬ count < 1) (hlen : hs.length ≤ 10000) (k : Nat) (hk : k < hs.length) (hno : idxI (fitsP count) hs = (k : Int)) (x1 x2 : Int) (hx : hs[k] = (x1, x2)) (hx2 : Sm x1 x2) (he : Sm x1 count) :
    Calls Try.prog 11 #[.pointer (some ⟨b, 0, none⟩), .int .i64 count] w fun r w' => r = .returned (.tuple #[.agg #[.int .i64 x1, .int .i64 count], .int .i64 0]) ∧ Left_ w b g n (hs.take k ++ Holes.rest (x1, x2) (x1, count) ++ hs.drop (k + 1)) w' := by
  have HM := Aside0.mk h
  have hbl := h.lt.1
  have hm0 : w.cell? ⟨b, 1, none⟩ = some (.slice (some ⟨g, 0, none⟩) hs.length c) := (blk_cell h.hd 1).trans rfl
  have HL := Aside0.mk hlen
  have HB0 : Aside0 (Below w.heap.size w ((w.alloc (.cells #[.int .i64 count] 3)).alloc (.cells #[.int .i64 0, .int .i64 0] 31))) := ⟨below_alloc (below_alloc (Below.refl _ _) _) _⟩
  have HK0 : Aside0 (((w.alloc (.cells #[.int .i64 count] 3)).alloc (.cells #[.int .i64 0, .int .i64 0] 31)).cell? ⟨w.heap.size, 0, none⟩ = some (.int .i64 count)) := ⟨(blk_cell (blk_alloc (new_blk w _ _ rfl) _) 0).trans rfl⟩
  have hc' : ¬ count ≤ 0 := by omega
  have HK := Aside0.mk hk
  have HX := Aside0.mk hx
  have HX2 := Aside0.mk hx2
  have HE := Aside0.mk he
  have hk0 : (k : Int) < (hs.length : Int) := by omega
  have hk1 : (0 : Int) ≤ (k : Int) := by omega
  have hk2 : ¬ ((k : Int) < 0) := by omega
  have HLT := Aside0.mk h.lt
  clear h hlen hx hx2 he
  go_enter Try.func11, Try.ntmps11
  go_wp2_with (first | (go_at_call 31; refine (given_calls b n _ _ (blk_below HM.out.hd HB0.out) HM.out.pos).mono ?_; rintro e w9 ⟨rfl, hw9⟩; rw [hw9]; clear hw9) | (go_at_call 28; refine (indexFunc_calls 32 #[.pointer (some ⟨w.heap.size, 0, none⟩)] (fitsP count) e32 g c hs _ (HM.out.row.below HB0.out) (Nat.le_trans HL.out (by decide)) (fun k hk W hW => fits_calls w.heap.size count _ _ W (pw_cell_below hW HK0.out) (World.block_lt_of_cell? _ _ (pw_cell_below hW HK0.out)))).mono ?_; rintro e w8 ⟨rfl, hb⟩; rw [hno]; have HB8 := Aside0.mk (below_then HB0.out HB0.out.size hb); have h31 := blk_below (new_blk (w.alloc (.cells #[.int .i64 count] 3)) (.cells #[.int .i64 0, .int .i64 0] 31) (w.heap.size + 1) (by simp)) hb; have H31 := Aside0.mk h31; have hz8 : w8.cell? ⟨w.heap.size + 1, 0, none⟩ = some (.int .i64 0) := (blk_cell h31 0).trans rfl; have hz9 : w8.cell? ⟨w.heap.size + 1, 1, none⟩ = some (.int .i64 0) := (blk_cell h31 1).trans rfl; have hf8 := blk_frozen h31 0; have hf9 := blk_frozen h31 1; clear h31; have hr8 := (HM.out.row.below HB8.out).ext k HK.out; rw [HX.out] at hr8; have hr80 := hr8.1; have hr81 := hr8.2; have hm8 := pw_cell_below HB8.out hm0; have hq8 := pw_cell_below hb HK0.out; have hl81 : w.heap.size < w8.heap.size := World.block_lt_of_cell? _ _ hq8; have hl82 : w.heap.size + 1 < w8.heap.size := World.block_lt_of_cell? _ _ hz8; have hl83 : b < w8.heap.size := Nat.lt_trans HLT.out.1 hl81; have hl84 : g < w8.heap.size := Nat.lt_trans HLT.out.2 hl81; clear hr8; clear hb))
  go_region
  have HB9 : Aside0 (Below w.heap.size w (w8.alloc (.cells #[.int .i64 x1, .int .i64 count] 31)).drew) := ⟨below_drew1 (below_alloc HB8.out _)⟩
  have HS9 : Aside0 ((w8.alloc (.cells #[.int .i64 x1, .int .i64 count] 31)).drew.heap.size = w8.heap.size + 1) := ⟨by simp⟩
  have H7 : Aside0 ((w8.alloc (.cells #[.int .i64 x1, .int .i64 count] 31)).drew.heap[w8.heap.size]? = some (.cells #[.int .i64 x1, .int .i64 count] 31 (0, 0))) := ⟨new_blk w8 _ _ rfl⟩
  have H319 : Aside0 ((w8.alloc (.cells #[.int .i64 x1, .int .i64 count] 31)).drew.heap[w.heap.size + 1]? = some (.cells #[.int .i64 0, .int .i64 0] 31 (0, 0))) := ⟨blk_alloc H31.out _⟩
  have HLL : Aside0 (w.heap.size + 1 < w8.heap.size ∧ b < w8.heap.size ∧ g < w8.heap.size) := ⟨hl82, hl83, hl84⟩
  have h70 : (w8.alloc (.cells #[.int .i64 x1, .int .i64 count] 31)).drew.cell? ⟨w8.heap.size, 0, none⟩ = some (.int .i64 x1) := (blk_cell H7.out 0).trans rfl
  have h71 : (w8.alloc (.cells #[.int .i64 x1, .int .i64 count] 31)).drew.cell? ⟨w8.heap.size, 1, none⟩ = some (.int .i64 count) := (blk_cell H7.out 1).trans rfl
  go_wp2_with (go_at_call 33; refine (cuts_calls b g c k n hs x1 count x1 x2 _ (HM.out.below HB9.out) HK.out HX.out HE.out HX2.out HL.out).mono ?_; rintro e w10 ⟨rfl, g', c', hm, hg, hmv⟩; have HM10 := Aside0.mk hm; have HG10 := Aside0.mk hg; have HV10 := Aside0.mk hmv; have H710 := Aside0.mk ((hmv.block w8.heap.size (by rw [HS9.out]; exact Nat.lt_succ_self _) (Nat.ne_of_gt HLL.out.2.1) (Nat.ne_of_gt HLL.out.2.2)).trans H7.out); have H3110 := Aside0.mk ((hmv.block (w.heap.size + 1) (by rw [HS9.out]; exact Nat.lt_succ_of_lt HLL.out.1) (Nat.ne_of_gt (Nat.lt_succ_of_lt HLT.out.1)) (Nat.ne_of_gt (Nat.lt_succ_of_lt HLT.out.2))).trans H319.out); have y0 : w10.cell? ⟨w8.heap.size, 0, none⟩ = some (.int .i64 x1) := (blk_cell H710.out 0).trans rfl; have y1 : w10.cell? ⟨w8.heap.size, 1, none⟩ = some (.int .i64 count) := (blk_cell H710.out 1).trans rfl; have y2 : w10.cell? ⟨w.heap.size + 1, 0, none⟩ = some (.int .i64 0) := (blk_cell H3110.out 0).trans rfl; have y3 : w10.cell? ⟨w.heap.size + 1, 1, none⟩ = some (.int .i64 0) := (blk_cell H3110.out 1).trans rfl; have y4 := blk_frozen H3110.out 0; have y5 := blk_frozen H3110.out 1; clear hm hg hmv)
  refine bodyPost_ret (results_ct rfl _ _ (w.heap.size + 1) 31 #[.int .i64 x1, .int .i64 count] (0, 0) _ rfl (by exact blk_put (blk_put H3110.out 0 _ rfl) 1 _ rfl) Try.underlying31 rfl (by kernel_rfl)) rfl ?_
  have hne1 : w.heap.size + 1 ≠ b := Nat.ne_of_gt (Nat.lt_succ_of_lt HLT.out.1)
  have hne2 : w.heap.size + 1 ≠ g' := by
    rcases HG10.out with e | e
    · rw [e]; exact Nat.ne_of_gt (Nat.lt_succ_of_lt HLT.out.2)
    · rw [HS9.out] at e
      have := HLL.out.1
      omega
  refine ⟨rfl, g', c', (HM10.out.set hne1 hne2).set hne1 hne2, ?_, (((Moved.of_below HB9.out).trans HV10.out (.inl rfl)).setNew (Nat.le_succ _)).setNew (Nat.le_succ _)⟩
  rcases HG10.out with e | e
  · exact .inl e
  · rw [HS9.out] at e
    have := HLL.out.1
    exact .inr (by omega)
end Go.Proofs.Ytdchljjhajbehaa.Ex
