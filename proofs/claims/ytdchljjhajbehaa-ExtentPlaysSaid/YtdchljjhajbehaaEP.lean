/- Take. -/
import Derived.Test.YtdchljjhajbehaaEO
namespace Go.Proofs.Ytdchljjhajbehaa.Ex
open Go.RowKit Go.Proofs.Ytdchljjhajbehaa.Print Go.Proofs.YtdchljjhajbehaaW.PrintWords Go.Proofs.YtdchljjhajbehaaW.PrintLast Go.Proofs.YtdchljjhajbehaaW.PrintMore Go.Proofs.Ytdchljjhajbehaa.Holes
set_option linter.unusedVariables false
set_option linter.unusedSimpArgs false
/-- does a hole hold an extent? -/
def holdsP (e h : Ext) : Bool := decide (h.1 ≤ e.1 ∧ e.1 + e.2 ≤ h.1 + h.2)
theorem May.sm {n : Int} {e : Ext} (h : May n e) (hn : n ≤ 1000000) : Sm e.1 e.2 := by unfold May at h; unfold Sm; omega
set_option maxHeartbeats 8000000 in
set_option maxRecDepth 100000 in
theorem take_arg (b g c : Nat) (n : Int) (hs : List Ext) (e1 e2 : Int) (w : World) (h : MapAt w b g c n hs) (hn : n ≤ 1000000) (hm : ¬ May n (e1, e2)) :
    Calls Try.prog 18 #[.pointer (some ⟨b, 0, none⟩), .agg #[.int .i64 e1, .int .i64 e2]] w fun r w' => r = .returned (.int .i64 1) ∧ Left_ w b g n hs w' := by
  have HM := Aside0.mk h
  have HN := Aside0.mk hn
  have HMY := Aside0.mk hm
  clear h hn hm
  go_enter Try.func18, Try.ntmps18
  go_wp2_with (go_at_call 24; refine (may_calls b n _ e1 e2 _ (blk_alloc HM.out.hd _) HM.out.pos HN.out).mono ?_; rintro e w8 ⟨rfl, hb⟩; rw [decide_eq_false HMY.out]; have HB8 := Aside0.mk (below_then (below_alloc (Below.refl w.heap.size w) _) (by simp) hb); clear hb)
  go_ret
  exact ⟨rfl, HM.out.left HB8.out⟩
set_option maxHeartbeats 8000000 in
set_option maxRecDepth 100000 in
theorem take_none (b g c : Nat) (n : Int) (hs : List Ext) (e1 e2 : Int) (w : World) (h : MapAt w b g c n hs) (hn : n ≤ 1000000) (hm : May n (e1, e2)) (hlen : hs.length ≤ 10000) (hsm : ∀ x, x ∈ hs → Sm x.1 x.2) (hno : idxI (holdsP (e1, e2)) hs = -1) :
    Calls Try.prog 18 #[.pointer (some ⟨b, 0, none⟩), .agg #[.int .i64 e1, .int .i64 e2]] w fun r w' => r = .returned (.int .i64 3) ∧ Left_ w b g n hs w' := by
  have HM := Aside0.mk h
  have HN := Aside0.mk hn
  have HMY := Aside0.mk hm
  have HL := Aside0.mk hlen
  have HSM := Aside0.mk hsm
  have HBX := Aside0.mk (new_blk w (.cells #[.int .i64 e1, .int .i64 e2] 31) w.heap.size rfl)
  have HNO := Aside0.mk hno
  have hm0 : w.cell? ⟨b, 1, none⟩ = some (.slice (some ⟨g, 0, none⟩) hs.length c) := (blk_cell h.hd 1).trans rfl
  clear h hn hm hlen hsm hno
  go_enter Try.func18, Try.ntmps18
  go_wp2_with (first | (go_at_call 24; refine (may_calls b n _ e1 e2 _ (blk_alloc HM.out.hd _) HM.out.pos HN.out).mono ?_; rintro e w8 ⟨rfl, hb⟩; rw [decide_eq_true HMY.out]; have HB8 := Aside0.mk (below_then (below_alloc (Below.refl w.heap.size w) _) (by simp) hb); have HX8 := Aside0.mk (blk_below HBX.out hb); have hm8 := pw_cell_below HB8.out hm0; clear hb) | (go_at_call 28; refine (indexFunc_calls 37 #[.pointer (some ⟨w.heap.size, 0, none⟩)] (holdsP (e1, e2)) e37 g c hs _ (HM.out.row.below HB8.out) (Nat.le_trans HL.out (by decide)) (fun k hk W hW => holds_calls w.heap.size e1 e2 _ _ W (blk_below HX8.out hW) (HMY.out.sm HN.out) (HSM.out _ (List.getElem_mem hk)))).mono ?_; rintro e w9 ⟨rfl, hb⟩; rw [HNO.out]; have HB9 := Aside0.mk (below_then HB8.out HB8.out.size hb); clear hb))
  go_ret
  exact ⟨rfl, HM.out.left HB9.out⟩
set_option maxHeartbeats 8000000 in
set_option maxRecDepth 100000 in
theorem take_ok (b g c : Nat) (n : Int) (hs : List Ext) (e1 e2 : Int) (w : World) (h : MapAt w b g c n hs) (hn : n ≤ 1000000) (hm : May n (e1, e2)) (hlen : hs.length ≤ 10000) (hsm : ∀ x, x ∈ hs → Sm x.1 x.2) (k : Nat) (hk : k < hs.length) (hno : idxI (holdsP (e1, e2)) hs = (k : Int)) (x1 x2 : Int) (hx : hs[k] = (x1, x2)) :
    Calls Try.prog 18 #[.pointer (some ⟨b, 0, none⟩), .agg #[.int .i64 e1, .int .i64 e2]] w fun r w' => r = .returned (.int .i64 0) ∧ Left_ w b g n (hs.take k ++ Holes.rest (x1, x2) (e1, e2) ++ hs.drop (k + 1)) w' := by
  have HM := Aside0.mk h
  have HN := Aside0.mk hn
  have HMY := Aside0.mk hm
  have HL := Aside0.mk hlen
  have HSM := Aside0.mk hsm
  have HBX := Aside0.mk (new_blk w (.cells #[.int .i64 e1, .int .i64 e2] 31) w.heap.size rfl)
  have HNO := Aside0.mk hno
  have HK := Aside0.mk hk
  have HX := Aside0.mk hx
  have HX2 := Aside0.mk (show Sm x1 x2 from by have := hsm _ (List.getElem_mem hk); rw [hx] at this; exact this)
  have hk2 : ¬ ((k : Int) < 0) := by omega
  have hm0 : w.cell? ⟨b, 1, none⟩ = some (.slice (some ⟨g, 0, none⟩) hs.length c) := (blk_cell h.hd 1).trans rfl
  clear h hn hm hlen hsm hno hx
  go_enter Try.func18, Try.ntmps18
  go_wp2_with (first | (go_at_call 24; refine (may_calls b n _ e1 e2 _ (blk_alloc HM.out.hd _) HM.out.pos HN.out).mono ?_; rintro e w8 ⟨rfl, hb⟩; rw [decide_eq_true HMY.out]; have HB8 := Aside0.mk (below_then (below_alloc (Below.refl w.heap.size w) _) (by simp) hb); have HX8 := Aside0.mk (blk_below HBX.out hb); have hm8 := pw_cell_below HB8.out hm0; clear hb) | (go_at_call 28; refine (indexFunc_calls 37 #[.pointer (some ⟨w.heap.size, 0, none⟩)] (holdsP (e1, e2)) e37 g c hs _ (HM.out.row.below HB8.out) (Nat.le_trans HL.out (by decide)) (fun k hk W hW => holds_calls w.heap.size e1 e2 _ _ W (blk_below HX8.out hW) (HMY.out.sm HN.out) (HSM.out _ (List.getElem_mem hk)))).mono ?_; rintro e w9 ⟨rfl, hb⟩; rw [HNO.out]; have HB9 := Aside0.mk (below_then HB8.out HB8.out.size hb); have hx9 := blk_below HX8.out hb; have z0 : w9.cell? ⟨w.heap.size, 0, none⟩ = some (.int .i64 e1) := (blk_cell hx9 0).trans rfl; have z1 : w9.cell? ⟨w.heap.size, 1, none⟩ = some (.int .i64 e2) := (blk_cell hx9 1).trans rfl; clear hb hx9) | (go_at_call 33; refine (cuts_calls b g c k n hs e1 e2 x1 x2 _ (HM.out.below HB9.out) HK.out HX.out (HMY.out.sm HN.out) HX2.out HL.out).mono ?_; rintro e w10 ⟨rfl, g', c', hm, hg, hmv⟩; have HM10 := Aside0.mk hm; have HG10 := Aside0.mk hg; have HV10 := Aside0.mk hmv; clear hm hg hmv))
  go_ret
  refine ⟨rfl, g', c', HM10.out, ?_, (Moved.of_below HB9.out).trans HV10.out (.inl rfl)⟩
  rcases HG10.out with e | e
  · exact .inl e
  · exact .inr (Nat.le_trans HB9.out.size e)
end Go.Proofs.Ytdchljjhajbehaa.Ex
