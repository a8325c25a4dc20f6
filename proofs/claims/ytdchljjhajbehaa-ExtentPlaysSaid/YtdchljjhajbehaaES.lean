/- Free: its two errors. -/
import Derived.Test.YtdchljjhajbehaaER
namespace Go.Proofs.Ytdchljjhajbehaa.Ex
open Go.RowKit Go.Proofs.Ytdchljjhajbehaa.Print Go.Proofs.YtdchljjhajbehaaW.PrintWords Go.Proofs.YtdchljjhajbehaaW.PrintLast Go.Proofs.YtdchljjhajbehaaW.PrintMore Go.Proofs.Ytdchljjhajbehaa.Holes
set_option linter.unusedVariables false
set_option linter.unusedSimpArgs false
/-- does a hole overlap an extent? does it lie behind its begin? -/
def overP (e h : Ext) : Bool := decide (h.1 < e.1 + e.2 ∧ e.1 < h.1 + h.2)
def behindP (e h : Ext) : Bool := decide (e.1 < h.1)
set_option maxHeartbeats 8000000 in
set_option maxRecDepth 100000 in
theorem free_arg (b g c : Nat) (n : Int) (hs : List Ext) (e1 e2 : Int) (w : World) (h : MapAt w b g c n hs) (hn : n ≤ 1000000) (hm : ¬ May n (e1, e2)) :
    Calls Try.prog 9 #[.pointer (some ⟨b, 0, none⟩), .agg #[.int .i64 e1, .int .i64 e2]] w fun r w' => r = .returned (.int .i64 1) ∧ Left_ w b g n hs w' := by
  have HM := Aside0.mk h
  have HN := Aside0.mk hn
  have HMY := Aside0.mk hm
  clear h hn hm
  go_enter Try.func9, Try.ntmps9
  go_wp2_with (go_at_call 24; refine (may_calls b n _ e1 e2 _ (blk_alloc HM.out.hd _) HM.out.pos HN.out).mono ?_; rintro e w8 ⟨rfl, hb⟩; rw [decide_eq_false HMY.out]; have HB8 := Aside0.mk (below_then (below_alloc (Below.refl w.heap.size w) _) (by simp) hb); clear hb)
  go_ret
  exact ⟨rfl, HM.out.left HB8.out⟩
set_option maxHeartbeats 8000000 in
set_option maxRecDepth 100000 in
theorem free_none (b g c : Nat) (n : Int) (hs : List Ext) (e1 e2 : Int) (w : World) (h : MapAt w b g c n hs) (hn : n ≤ 1000000) (hm : May n (e1, e2)) (hlen : hs.length ≤ 10000) (hsm : ∀ x, x ∈ hs → Sm x.1 x.2) (hno : 0 ≤ idxI (overP (e1, e2)) hs) :
    Calls Try.prog 9 #[.pointer (some ⟨b, 0, none⟩), .agg #[.int .i64 e1, .int .i64 e2]] w fun r w' => r = .returned (.int .i64 3) ∧ Left_ w b g n hs w' := by
  have HM := Aside0.mk h
  have HN := Aside0.mk hn
  have HMY := Aside0.mk hm
  have HL := Aside0.mk hlen
  have HSM := Aside0.mk hsm
  have HBX := Aside0.mk (new_blk w (.cells #[.int .i64 e1, .int .i64 e2] 31) w.heap.size rfl)
  have HNO := Aside0.mk hno
  have hm0 : w.cell? ⟨b, 1, none⟩ = some (.slice (some ⟨g, 0, none⟩) hs.length c) := (blk_cell h.hd 1).trans rfl
  clear h hn hm hlen hsm hno
  go_enter Try.func9, Try.ntmps9
  go_wp2_with (first | (go_at_call 24; refine (may_calls b n _ e1 e2 _ (blk_alloc HM.out.hd _) HM.out.pos HN.out).mono ?_; rintro e w8 ⟨rfl, hb⟩; rw [decide_eq_true HMY.out]; have HB8 := Aside0.mk (below_then (below_alloc (Below.refl w.heap.size w) _) (by simp) hb); have HX8 := Aside0.mk (blk_below HBX.out hb); have hm8 := pw_cell_below HB8.out hm0; clear hb) | (go_at_call 25; refine (containsFunc_calls 26 #[.pointer (some ⟨w.heap.size, 0, none⟩)] (overP (e1, e2)) e26 g c hs _ (HM.out.row.below HB8.out) (Nat.le_trans HL.out (by decide)) (fun k hk W hW => over_calls w.heap.size e1 e2 _ _ W (blk_below HX8.out hW) (HMY.out.sm HN.out) (HSM.out _ (List.getElem_mem hk)))).mono ?_; rintro e w9 ⟨rfl, hb⟩; rw [decide_eq_true HNO.out]; have HB9 := Aside0.mk (below_then HB8.out HB8.out.size hb); clear hb))
  go_ret
  exact ⟨rfl, HM.out.left HB9.out⟩
end Go.Proofs.Ytdchljjhajbehaa.Ex
