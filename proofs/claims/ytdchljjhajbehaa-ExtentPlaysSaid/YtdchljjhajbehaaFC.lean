/- awake: what must come, whatever the arguments are. -/
import Derived.Test.YtdchljjhajbehaaEX
import Derived.Test.YtdchljjhajbehaaFB
namespace Go.Proofs.Ytdchljjhajbehaa.Ex
open Go.RowKit Go.Proofs.Ytdchljjhajbehaa.Print Go.Proofs.YtdchljjhajbehaaW.PrintWords Go.Proofs.YtdchljjhajbehaaW.PrintLast Go.Proofs.YtdchljjhajbehaaW.PrintMore Go.Proofs.Ytdchljjhajbehaa.Holes
set_option linter.unusedVariables false
set_option linter.unusedSimpArgs false
theorem sumE_cons (h : Ext) (hs : List Ext) : sumE (h :: hs) = h.2 + sumE hs := rfl
theorem sumE_part : ∀ (hs : List Ext), (∀ x, x ∈ hs → 1 ≤ x.2) → ∀ k, 0 ≤ sumE (hs.take k) ∧ sumE (hs.take k) ≤ sumE hs
  | [], _, k => by simp [sumE]
  | h :: hs, hp, 0 => by
    have h1 := hp h (by simp)
    have h2 := (sumE_part hs (fun x hx => hp x (by simp [hx])) 0)
    rw [sumE_cons]
    simp only [List.take_zero] at *
    have : sumE [] = 0 := rfl
    omega
  | h :: hs, hp, k + 1 => by
    have h1 := hp h (by simp)
    have h2 := (sumE_part hs (fun x hx => hp x (by simp [hx])) k)
    rw [List.take_succ_cons, sumE_cons, sumE_cons]
    omega
theorem left_of (b g c : Nat) (n : Int) (hs : List Ext) (w : World) (h : MapAt w b g c n hs) (G : Good n hs) (hS : sumE hs ≤ 1000000) :
    Calls Try.prog 12 #[.pointer (some ⟨b, 0, none⟩)] w fun e w' => e = .returned (.int .i64 (sumE hs)) ∧ Below w.heap.size w w' :=
  left_calls b g c n hs w h (Nat.le_trans G.len (by decide)) (fun k _ => by have := sumE_part hs (fun x hx => (G.pos x hx).1) k; omega)
theorem aw1 (b g c : Nat) (w : World) (h : MapAt w b g c 4 [(0, 4)]) : Calls Try.prog 11 #[.pointer (some ⟨b, 0, none⟩), .int .i64 2] w fun r w' => r = .returned (.tuple #[.agg #[.int .i64 0, .int .i64 2], .int .i64 0]) ∧ Left_ w b g 4 [(2, 2)] w' :=
  alloc_calls b g c 4 [(0, 4)] 2 w h ⟨by decide, by decide, by decide, by decide⟩
theorem aw2 (b g c : Nat) (w : World) (h : MapAt w b g c 4 [(2, 2)]) : Calls Try.prog 11 #[.pointer (some ⟨b, 0, none⟩), .int .i64 1] w fun r w' => r = .returned (.tuple #[.agg #[.int .i64 2, .int .i64 1], .int .i64 0]) ∧ Left_ w b g 4 [(3, 1)] w' :=
  alloc_calls b g c 4 [(2, 2)] 1 w h ⟨by decide, by decide, by decide, by decide⟩
theorem aw3 (b g c : Nat) (w : World) (h : MapAt w b g c 4 [(3, 1)]) : Calls Try.prog 9 #[.pointer (some ⟨b, 0, none⟩), .agg #[.int .i64 0, .int .i64 2]] w fun r w' => r = .returned (.int .i64 0) ∧ Left_ w b g 4 [(0, 2), (3, 1)] w' :=
  free_calls b g c 4 [(3, 1)] 0 2 w h ⟨by decide, by decide, by decide, by decide⟩
theorem aw4 (b g c : Nat) (w : World) (h : MapAt w b g c 4 [(0, 2), (3, 1)]) : Calls Try.prog 12 #[.pointer (some ⟨b, 0, none⟩)] w fun e w' => e = .returned (.int .i64 3) ∧ Below w.heap.size w w' :=
  left_of b g c 4 _ w h ⟨by decide, by decide, by decide, by decide⟩ (by decide)
theorem aw5 (b g c : Nat) (w : World) (h : MapAt w b g c 4 [(0, 2), (3, 1)]) : Calls Try.prog 10 #[.pointer (some ⟨b, 0, none⟩)] w fun e w' => e = .returned (.int .i64 2) ∧ Below w.heap.size w w' :=
  longest_calls b g c 4 _ w h (by decide)
theorem aw6 (b g c : Nat) (w : World) (h : MapAt w b g c 4 [(0, 2), (3, 1)]) : Calls Try.prog 21 #[.pointer (some ⟨b, 0, none⟩)] w fun e w' => ∃ A cc, e = .returned (.slice A 2 cc) ∧ Below w.heap.size w w' :=
  (holes_read b 4 _ w h.read (by decide)).mono fun e w' ⟨v, he, hv, hb⟩ => by
    obtain ⟨A, cc, rfl, hlc, hC⟩ := Kd.R_reads hv
    exact ⟨A, cc, he, hb⟩
theorem aw7 (w : World) : Calls Try.prog 14 #[.int .i64 129] w fun e w' => e = .returned (.int .i64 2) ∧ Drawn0 w w' := extent_For.calls 129 2 w (by unfold extent_For.f wrap64; decide)
/-- a map that was made since w0, and whatever was there before is as it was -/
structure St (w0 W : World) (b g c : Nat) (n : Int) (hs : List Ext) : Prop where
  at_ : MapAt W b g c n hs
  below : Below w0.heap.size w0 W
  hb : w0.heap.size ≤ b
  hg : w0.heap.size ≤ g
theorem St.moved {w0 W W' : World} {b g c g' c' : Nat} {n : Int} {hs hs' : List Ext} (h : St w0 W b g c n hs) (hm : MapAt W' b g' c' n hs') (hg : g' = g ∨ W.heap.size ≤ g') (hv : Moved W W' b g) : St w0 W' b g' c' n hs' :=
  ⟨hm, hv.below h.below h.hb h.hg, h.hb, by rcases hg with e | e; · rw [e]; exact h.hg
                                            · exact Nat.le_trans h.below.size e⟩
theorem St.then {w0 W W' : World} {b g c : Nat} {n : Int} {hs : List Ext} (h : St w0 W b g c n hs) (hb : Below W.heap.size W W') : St w0 W' b g c n hs := ⟨h.at_.below hb, below_then h.below h.below.size hb, h.hb, h.hg⟩
theorem Moved.blk {w w' : World} {b g a : Nat} {o : Obj} (h : Moved w w' b g) (ha : w.heap[a]? = some o) (h1 : a ≠ b) (h2 : a ≠ g) : w'.heap[a]? = some o := (h.block a (blk_lt ha) h1 h2).trans ha
theorem Moved.lt {w w' : World} {b g a : Nat} (h : Moved w w' b g) (ha : a < w.heap.size) : a < w'.heap.size := Nat.lt_of_lt_of_le ha h.size
set_option maxHeartbeats 8000000 in
set_option maxRecDepth 100000 in
theorem awake_calls (w : World) : Calls Try.prog 13 #[] w fun e w' => e = .returned (.bool true) ∧ Below w.heap.size w w' := by
  go_enter Try.func13, Try.ntmps13
  go_wp2_with (first
    | (go_at_call 8; refine (new_ok 4 _ (by decide) (by decide)).mono ?_; rintro e w1 ⟨b, g, c, rfl, hm, hb1, hg1, hbl⟩; have HM1 := Aside0.mk hm; have HB1 := Aside0.mk hb1; have HG1 := Aside0.mk hg1; have HW1 := Aside0.mk hbl; clear hm hb1 hg1 hbl)
    | (go_at_call 9; refine (aw3 b g3 c3 _ (HM3.out.below (below_alloc (Below.refl _ _) _))).mono ?_; rintro e w4 ⟨rfl, g4, c4, hm, hg4, hmv⟩; have HM4 := Aside0.mk hm; have HG4 := Aside0.mk hg4; have HV4 := Aside0.mk hmv; clear hm hg4 hmv)
    | (go_at_call 12; refine (aw4 b g4 c4 _ HM4.out).mono ?_; rintro e w5 ⟨rfl, hb⟩; have HB5 := Aside0.mk hb; clear hb)
    | (go_at_call 10; refine (aw5 b g4 c4 _ (HM4.out.below HB5.out)).mono ?_; rintro e w6 ⟨rfl, hb⟩; have HB6 := Aside0.mk (below_then HB5.out HB5.out.size hb); clear hb)
    | (go_at_call 21; refine (aw6 b g4 c4 _ (HM4.out.below HB6.out)).mono ?_; rintro e w7 ⟨A7, c7, rfl, hb⟩; have HB7 := Aside0.mk (below_then HB6.out HB6.out.size hb); clear hb)
    | (go_at_call 14; refine (aw7 _).mono ?_; rintro e w8 ⟨rfl, hb⟩; have HB8 := Aside0.mk (below_then HB7.out HB7.out.size hb.below); clear hb)
    | (go_at_call 11; refine (aw2 b g2 c2 _ (HM2.out.below (below_alloc (Below.refl _ _) _))).mono ?_; rintro e w3 ⟨rfl, g3, c3, hm, hg3, hmv⟩; have HM3 := Aside0.mk hm; have HG3 := Aside0.mk hg3; have HV3 := Aside0.mk hmv; have hq3 := hmv.blk (new_blk w2 _ _ rfl) (Nat.ne_of_gt HBL2.out.1) (Nat.ne_of_gt HBL2.out.2); have q30 : w3.cell? ⟨w2.heap.size, 0, none⟩ = some (.int .i64 0) := (blk_cell hq3 0).trans rfl; have q31 : w3.cell? ⟨w2.heap.size, 1, none⟩ = some (.int .i64 2) := (blk_cell hq3 1).trans rfl; have q32 := blk_lt hq3; clear hm hg3 hmv hq3)
    | (go_at_call 11; refine (aw1 b g c _ HM1.out).mono ?_; rintro e w2 ⟨rfl, g2, c2, hm, hg2, hmv⟩; have HM2 := Aside0.mk hm; have HG2 := Aside0.mk hg2; have HV2 := Aside0.mk hmv; have HBL2 := Aside0.mk hm.lt; clear hm hg2 hmv))
  go_ret
  refine ⟨rfl, ?_⟩
  have x2 := HV2.out.below HW1.out HB1.out HG1.out
  have y2 : w.heap.size ≤ g2 := by
    rcases HG2.out with e | e
    · rw [e]; exact HG1.out
    · exact Nat.le_trans HW1.out.size e
  have x3 := HV3.out.below (below_alloc x2 _) HB1.out y2
  have y3 : w.heap.size ≤ g3 := by
    rcases HG3.out with e | e
    · rw [e]; exact y2
    · exact Nat.le_trans (below_alloc x2 _).size e
  have x4 := HV4.out.below (below_alloc x3 _) HB1.out y3
  exact below_then x4 x4.size HB8.out
end Go.Proofs.Ytdchljjhajbehaa.Ex
