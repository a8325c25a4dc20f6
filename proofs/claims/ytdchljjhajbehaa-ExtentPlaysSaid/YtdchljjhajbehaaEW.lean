/- Free, its ways yy ye. (Written by genet.py.) -/
import Derived.Test.YtdchljjhajbehaaET
namespace Go.Proofs.Ytdchljjhajbehaa.Ex
open Go.RowKit Go.Proofs.Ytdchljjhajbehaa.Print Go.Proofs.YtdchljjhajbehaaW.PrintWords Go.Proofs.YtdchljjhajbehaaW.PrintLast Go.Proofs.YtdchljjhajbehaaW.PrintMore Go.Proofs.Ytdchljjhajbehaa.Holes
set_option linter.unusedVariables false
set_option linter.unusedSimpArgs false
set_option maxHeartbeats 8000000 in
set_option maxRecDepth 100000 in
theorem free_yy (b g c : Nat) (n : Int) (hs : List Ext) (e1 e2 : Int) (w : World) (h : MapAt w b g c n hs) (hn0 : n ≤ 10000) (hm : May n (e1, e2)) (hlen : hs.length ≤ 10000) (hpos : ∀ x, x ∈ hs → 1 ≤ x.2 ∧ 0 ≤ x.1 ∧ x.1 + x.2 ≤ n) (hno : idxI (overP (e1, e2)) hs = -1) (k : Nat) (hk : k < hs.length) (hidx : idxI (behindP (e1, e2)) hs = (k : Int)) (hk0 : 0 < k) (hkm : k - 1 < hs.length) (y1 y2 : Int) (hy : hs[k - 1] = (y1, y2)) (hj : y1 + y2 = e1) (x1 x2 : Int) (hx : hs[k] = (x1, x2)) (hr : y1 + (y2 + e2) = x1) :
    Calls Try.prog 9 #[.pointer (some ⟨b, 0, none⟩), .agg #[.int .i64 e1, .int .i64 e2]] w fun r w' => r = .returned (.int .i64 0) ∧ Left_ w b g n (hs.take (k - 1) ++ (y1, y2 + e2 + x2) :: hs.drop (k + 1)) w' := by
  have hn : n ≤ 1000000 := by omega
  have hsm : ∀ x, x ∈ hs → Sm x.1 x.2 := fun x hx => by have := hpos x hx; unfold Sm; omega
  have HM := Aside0.mk h
  have HN := Aside0.mk hn
  have HMY := Aside0.mk hm
  have HL := Aside0.mk hlen
  have HSM := Aside0.mk hsm
  have HBX := Aside0.mk (new_blk w (.cells #[.int .i64 e1, .int .i64 e2] 31) w.heap.size rfl)
  have HNO := Aside0.mk hno
  have HIDX := Aside0.mk hidx
  have hk2 : ¬ ((k : Int) < 0) := by omega
  have hm0 : w.cell? ⟨b, 1, none⟩ = some (.slice (some ⟨g, 0, none⟩) hs.length c) := (blk_cell h.hd 1).trans rfl
  have HK5 : Aside0 ((k : Int) - 1 = ((k - 1 : Nat) : Int)) := ⟨by omega⟩
  have HK15 : Aside0 ((k : Int) + 1 = ((k + 1 : Nat) : Int)) := ⟨by omega⟩
  have HA2 : Aside0 (hs.length + 1 ≤ 1000000) := ⟨by omega⟩
  have d9 : decide ((0 : Int) < (k : Int)) = true := decide_eq_true (by omega)
  have hwk : wrap64 ((k : Int) - 1) = (k : Int) - 1 := by unfold wrap64; omega
  have hwk' : IntKind.i64.wrap ((k : Int) - 1) = (k : Int) - 1 := by rw [IntKind.wrap_i64]; omega
  have hk6 : (0 : Int) ≤ (k : Int) - 1 := by omega
  have hk7 : (k : Int) - 1 < (hs.length : Int) := by omega
  have hk9 : (1 : Int) ≤ (k : Int) := by omega
  have hk10 : (k : Int) ≤ (hs.length : Int) := by omega
  have hk11 : k ≤ hs.length := by omega
  have hk8 : ((k : Int) - 1).toNat = k - 1 := by omega
  have HX := Aside0.mk hx
  have HR := Aside0.mk hr
  have HK := Aside0.mk hk
  have dk : decide ((k : Int) < (hs.length : Int)) = true := decide_eq_true (by omega)
  have hkl : (k : Int) < (hs.length : Int) := by omega
  have hr1 : ((y1 + (y2 + e2)) == x1) = true := by simpa using hr
  have hr2 : decide (y1 + (y2 + e2) = x1) = true := decide_eq_true hr
  have HXS := Aside0.mk (show Sm x1 x2 from by have := hsm _ (List.getElem_mem hk); rw [hx] at this; exact this)
  have HSE : Aside0 (Sm y1 (y2 + e2)) := ⟨by have h2 := hpos _ (List.getElem_mem hkm); rw [hy] at h2; unfold Sm; unfold May at hm; dsimp only at *; omega⟩
  have hs3 : wrap64 (y2 + e2 + x2) = y2 + e2 + x2 := Go.Proofs.Ytdchljjhajbehaa.Ex.wrap_id (by have h2 := HSE.out; have h3 := HXS.out; unfold Sm at h2 h3; omega)
  have hs4 : IntKind.i64.wrap (y2 + e2 + x2) = y2 + e2 + x2 := Go.Proofs.Ytdchljjhajbehaa.Ex.wrap_id' (by have h2 := HSE.out; have h3 := HXS.out; unfold Sm at h2 h3; omega)
  have hw5 := wrap_succ (k := k) (Nat.lt_of_lt_of_le hk (Nat.le_trans hlen (by decide)))
  have hw6 := wrap_succ' (k := k) (Nat.lt_of_lt_of_le hk (Nat.le_trans hlen (by decide)))
  have HKM := Aside0.mk hkm
  have HY := Aside0.mk hy
  have HYS := Aside0.mk (show Sm y1 y2 from by have := hsm _ (List.getElem_mem hkm); rw [hy] at this; exact this)
  have hj' : ((y1 + y2) == e1) = true := by rw [hj]; simp
  have hj2 : decide (y1 + y2 = e1) = true := decide_eq_true hj
  have HJ := Aside0.mk hj
  clear h hn hm hlen hsm hno hidx hj hy hx hr hpos hn0
  go_enter Try.func9, Try.ntmps9
  go_wp2_with (first | (go_at_call 24; refine (may_calls b n _ e1 e2 _ (blk_alloc HM.out.hd _) HM.out.pos HN.out).mono ?_; rintro e w8 ⟨rfl, hb⟩; rw [decide_eq_true HMY.out]; have HB8 := Aside0.mk (below_then (below_alloc (Below.refl w.heap.size w) _) (by simp) hb); have HX8 := Aside0.mk (blk_below HBX.out hb); have hm8 := pw_cell_below HB8.out hm0; clear hb) | (go_at_call 25; refine (containsFunc_calls 26 #[.pointer (some ⟨w.heap.size, 0, none⟩)] (overP (e1, e2)) e26 g c hs _ (HM.out.row.below HB8.out) (Nat.le_trans HL.out (by decide)) (fun k hk W hW => over_calls w.heap.size e1 e2 _ _ W (blk_below HX8.out hW) (HMY.out.sm HN.out) (HSM.out _ (List.getElem_mem hk)))).mono ?_; rintro e w9 ⟨rfl, hb⟩; rw [HNO.out, show decide ((0 : Int) ≤ -1) = false from rfl]; have HB9 := Aside0.mk (below_then HB8.out HB8.out.size hb); have HX9 := Aside0.mk (blk_below HX8.out hb); have hm9 := pw_cell_below HB9.out hm0; clear hb) | (go_at_call 28; refine (indexFunc_calls 29 #[.pointer (some ⟨w.heap.size, 0, none⟩)] (behindP (e1, e2)) e29 g c hs _ (HM.out.row.below HB9.out) (Nat.le_trans HL.out (by decide)) (fun k hk W hW => behind_calls w.heap.size e1 _ _ W ((blk_cell (blk_below HX9.out hW) 0).trans rfl) (blk_lt (blk_below HX9.out hW)))).mono ?_; rintro e w10 ⟨rfl, hb⟩; rw [HIDX.out]; have HBa := Aside0.mk (below_then HB9.out HB9.out.size hb); have HXa := Aside0.mk (blk_below HX9.out hb); have hma := pw_cell_below HBa.out hm0; clear hb))
  have hr10 := (HM.out.row.below HBa.out).ext (k - 1) HKM.out
  rw [HY.out] at hr10
  obtain ⟨y0, y1_⟩ := hr10
  have hS0 : Aside0 (w10.cell? ⟨b, 1, none⟩ = some (.slice (some ⟨g, 0, none⟩) hs.length c)) := ⟨hma⟩
  have hS1 : Aside0 (w10.cell? ⟨g, (k - 1) * 2, none⟩ = some (.int .i64 y1)) := ⟨y0⟩
  have hS2 : Aside0 (w10.cell? ⟨g, (k - 1) * 2 + 1, none⟩ = some (.int .i64 y2)) := ⟨y1_⟩
  have hS3 : Aside0 (w10.cell? ⟨w.heap.size, 0, none⟩ = some (.int .i64 e1)) := ⟨(blk_cell HXa.out 0).trans rfl⟩
  clear hm0 hma
  go_region_held3 (fun w' => w'.cell? ⟨b, 1, none⟩ = some (.slice (some ⟨g, 0, none⟩) hs.length c) ∧ w'.cell? ⟨g, (k - 1) * 2, none⟩ = some (.int .i64 y1) ∧ w'.cell? ⟨g, (k - 1) * 2 + 1, none⟩ = some (.int .i64 y2) ∧ w'.cell? ⟨w.heap.size, 0, none⟩ = some (.int .i64 e1) ∧ Below w10.heap.size w10 w')
    (first | exact ⟨hS0.out, hS1.out, hS2.out, hS3.out, below_drew1 (Below.refl _ _)⟩ | assumption | (obtain ⟨s0, s1, s2, s3, s4⟩ := ‹(World.cell? _ _ = some _) ∧ _ ∧ _ ∧ _ ∧ Below _ _ _›; exact ⟨pw_cell_below hb s0, pw_cell_below hb s1, pw_cell_below hb s2, pw_cell_below hb s3, below_then s4 s4.size hb⟩))
    (first | (go_at_call 27; refine (end_calls _ _ _ (by first | exact HYS.out)).mono ?_; rintro e w8 ⟨rfl, hb⟩))
  obtain ⟨z0, z1, z2, z3, hB11⟩ := ‹(World.cell? _ _ = some _) ∧ _ ∧ _ ∧ _ ∧ Below _ _ _›
  have hX11 := blk_below HXa.out hB11
  have HX11 := Aside0.mk hX11
  have z4 := (blk_cell hX11 1).trans (rfl : (#[Value.int .i64 e1, .int .i64 e2])[1]? = some (.int .i64 e2))
  have z5 := blk_frozen hX11 0
  have z6 := blk_frozen hX11 1
  have hs1 : wrap64 (y2 + e2) = y2 + e2 := Go.Proofs.Ytdchljjhajbehaa.Ex.wrap_id (by have := HYS.out; have := HMY.out.sm HN.out; unfold Sm at *; omega)
  have hs2 : IntKind.i64.wrap (y2 + e2) = y2 + e2 := Go.Proofs.Ytdchljjhajbehaa.Ex.wrap_id' (by have := HYS.out; have := HMY.out.sm HN.out; unfold Sm at *; omega)
  clear hX11
  go_wp2
  go_region
  go_wp2_with (fail)
  refine wp_letter (fun W => W.heap[w.heap.size]? = some (.cells #[.int .i64 y1, .int .i64 (y2 + e2)] 31 (0, 0)) ∧ Below w.heap.size w W) ⟨blk_put (blk_put HX11.out 0 _ rfl) 1 _ rfl, below_drew1 (below_set (below_set (below_then HBa.out HBa.out.size hB11) (Nat.le_refl _)) (Nat.le_refl _))⟩ ?_
  clear z0 z1 z2 z3 z4 z5 z6
  rintro w12 ⟨hx12, hb12⟩
  have HX12 := Aside0.mk hx12
  have HB12 := Aside0.mk hb12
  have hS0 : Aside0 (w12.cell? ⟨b, 1, none⟩ = some (.slice (some ⟨g, 0, none⟩) hs.length c)) := ⟨(blk_cell (blk_below HM.out.hd hb12) 1).trans rfl⟩
  have hr12 := (HM.out.row.below hb12).ext k HK.out
  rw [HX.out] at hr12
  have hS1 : Aside0 (w12.cell? ⟨g, k * 2, none⟩ = some (.int .i64 x1)) := ⟨hr12.1⟩
  have hS2 : Aside0 (w12.cell? ⟨w.heap.size, 0, none⟩ = some (.int .i64 y1)) := ⟨(blk_cell hx12 0).trans rfl⟩
  have hS3 : Aside0 (w12.cell? ⟨w.heap.size, 1, none⟩ = some (.int .i64 (y2 + e2))) := ⟨(blk_cell hx12 1).trans rfl⟩
  clear hx12 hb12 hr12
  first | go_region_held3 (fun w' => w'.cell? ⟨b, 1, none⟩ = some (.slice (some ⟨g, 0, none⟩) hs.length c) ∧ w'.cell? ⟨g, k * 2, none⟩ = some (.int .i64 x1) ∧ w'.cell? ⟨w.heap.size, 0, none⟩ = some (.int .i64 y1) ∧ w'.cell? ⟨w.heap.size, 1, none⟩ = some (.int .i64 (y2 + e2)) ∧ Below w12.heap.size w12 w')
    (first | exact ⟨hS0.out, hS1.out, hS2.out, hS3.out, below_drew1 (Below.refl _ _)⟩ | assumption | (obtain ⟨s0, s1, s2, s3, s4⟩ := ‹(World.cell? _ _ = some _) ∧ _ ∧ _ ∧ _ ∧ Below _ _ _›; exact ⟨pw_cell_below hb s0, pw_cell_below hb s1, pw_cell_below hb s2, pw_cell_below hb s3, below_then s4 s4.size hb⟩))
    (first | (go_at_call 27; refine (end_calls _ _ _ (by first | exact HSE.out)).mono ?_; rintro e w13 ⟨rfl, hb⟩)) | fail
  obtain ⟨t0, t1, t2, t3, hB13⟩ := ‹(World.cell? _ _ = some _) ∧ _ ∧ _ ∧ _ ∧ Below _ _ _›
  have HX13 := Aside0.mk (blk_below HX12.out hB13)
  have HB13 := Aside0.mk (below_then HB12.out HB12.out.size hB13)
  have hr13 := (HM.out.row.below HB13.out).ext k HK.out
  rw [HX.out] at hr13
  have hx13 := hr13.2
  have z5 := blk_frozen HX13.out 0
  have z6 := blk_frozen HX13.out 1
  clear hr13
  go_wp2
  go_region
  go_wp2_with (fail)
  refine wp_letter (fun W => W.heap[w.heap.size]? = some (.cells #[.int .i64 y1, .int .i64 (y2 + e2 + x2)] 31 (0, 0)) ∧ Below w.heap.size w W) ⟨by first | exact blk_put HX13.out 1 _ rfl | exact blk_put (blk_put HX13.out 0 _ rfl) 1 _ rfl, by first | exact below_set HB13.out (Nat.le_refl _) | exact below_drew1 (below_set HB13.out (Nat.le_refl _)) | exact below_set (below_drew1 HB13.out) (Nat.le_refl _)⟩ ?_
  clear t0 t1 t2 t3 z5 z6 hx13 hB13 HX13 HB13
  rintro w13 ⟨hx13, hb13⟩
  have HX13 := Aside0.mk hx13
  have HB13 := Aside0.mk hb13
  have t0 := (blk_cell (blk_below HM.out.hd hb13) 1).trans (rfl : (#[Value.int .i64 n, .slice (some ⟨g, 0, none⟩) hs.length c])[1]? = some (.slice (some ⟨g, 0, none⟩) hs.length c))
  have t2 : w13.cell? ⟨w.heap.size, 0, none⟩ = some (.int .i64 y1) := (blk_cell hx13 0).trans rfl
  have t3 : w13.cell? ⟨w.heap.size, 1, none⟩ = some (.int .i64 (y2 + e2 + x2)) := (blk_cell hx13 1).trans rfl
  clear hx13 hb13
  have HA1 : Aside0 ((k + 1) ≤ hs.length) := ⟨HK.out⟩
  have HA3 : Aside0 (w13.heap.size ≠ g) := ⟨fun e => Nat.lt_irrefl _ (Nat.lt_of_lt_of_le (e ▸ HM.out.lt.2) HB13.out.size)⟩
  have hl1 : b < w13.heap.size := Nat.lt_of_lt_of_le HM.out.lt.1 HB13.out.size
  have hl2 : w.heap.size < w13.heap.size := blk_lt HX13.out
  go_wp2
  have HARG := Aside0.mk (one_arg w13 g y1 (y2 + e2 + x2) HA3.out)
  have HROW := Aside0.mk (HM.out.row.below (show Below w.heap.size w ((w13.alloc (.cells #[.int .i64 y1, .int .i64 (y2 + e2 + x2)] 31)).drew) from by first | exact below_drew1 (below_alloc HB13.out _) | exact below_alloc (below_drew1 HB13.out) _))
  have HBW := Aside0.mk (show Below w.heap.size w ((w13.alloc (.cells #[.int .i64 y1, .int .i64 (y2 + e2 + x2)] 31)).drew) from by first | exact below_drew1 (below_alloc HB13.out _) | exact below_alloc (below_drew1 HB13.out) _)
  have HBD := Aside0.mk (blk_below HM.out.hd (show Below w.heap.size w ((w13.alloc (.cells #[.int .i64 y1, .int .i64 (y2 + e2 + x2)] 31)).drew) from by first | exact below_drew1 (below_alloc HB13.out _) | exact below_alloc (below_drew1 HB13.out) _))
  go_region_law (first | (go_simp; go_at_call 30; rw [HK5.out, HK15.out]; refine (replace_row g hs.length c (k - 1) (k + 1) 1 _ _ (cellsE hs) [.int .i64 y1, .int .i64 (y2 + e2 + x2)] _ HROW.out HARG.out (Nat.le_trans (Nat.sub_le k 1) (Nat.le_succ k)) HA1.out (fun _ => Nat.one_pos) HA2.out).mono ?_; rintro e V2 ⟨g', c', rfl, hr, hg, hgr⟩; have HR2 := Aside0.mk hr; have HG2 := Aside0.mk hg; have HGR := Aside0.mk hgr; have hb2 := blk_grown HBD.out hgr (fun e => HM.out.ne (Option.some.inj e)); have HB2 := Aside0.mk hb2; have u2 : V2.cell? ⟨b, 1, none⟩ = some (.slice (some ⟨g, 0, none⟩) hs.length c) := (blk_cell hb2 1).trans rfl; have u3 := blk_frozen hb2 1; clear hr hg hgr hb2))
  all_goals go_wp2
  all_goals go_ret
  all_goals (
    have hl1 : (hs.take (k - 1) ++ (y1, y2 + e2 + x2) :: hs.drop (k + 1)).length = k - 1 + 1 + (hs.length - (k + 1)) := by
      have hkk := HA1.out
      rw [List.length_append, List.length_cons, List.length_take, List.length_drop, Nat.min_eq_left (by omega)]
      omega
    have hl2 : cellsE (hs.take (k - 1) ++ (y1, y2 + e2 + x2) :: hs.drop (k + 1)) = (cellsE hs).take ((k - 1) * 2) ++ ([.int .i64 y1, .int .i64 (y2 + e2 + x2)] ++ (cellsE hs).drop ((k + 1) * 2)) := by
      rw [cellsE_app, show (y1, y2 + e2 + x2) :: hs.drop (k + 1) = [(y1, y2 + e2 + x2)] ++ hs.drop (k + 1) from rfl, cellsE_app, cellsE_take, cellsE_drop]
      rfl
    refine ⟨rfl, g', c', ⟨?_, ?_, HM.out.pos⟩, ?_, ((Moved.of_below HBW.out).trans (Moved.of_grown HGR.out) (.inl rfl)).trans (Moved.set 1 _) (.inl rfl)⟩
    · rw [hl1]
      first | exact blk_put HB2.out 1 _ rfl | (rw [Nat.sub_self, Nat.add_zero]; exact blk_put HB2.out 1 _ rfl)
    · rw [hl1, hl2]
      refine HR2.out.far (g' := b) ⟨rfl, rfl, rfl, by simp [World.setCell], fun q _ hq => Below.heap_setCell _ _ _ _ (fun e => hq (by rw [e]))⟩ ?_
      rintro rfl
      obtain ⟨cur, h1, _⟩ := HR2.out.ex
      have h2 := HB2.out
      rw [h1] at h2
      injection h2 with h2
      injection h2 with _ h2
      cases h2
    · rcases HG2.out with e | e
      · exact .inl e
      · exact .inr (Nat.le_trans HBW.out.size e))
set_option maxHeartbeats 8000000 in
set_option maxRecDepth 100000 in
theorem free_ye (b g c : Nat) (n : Int) (hs : List Ext) (e1 e2 : Int) (w : World) (h : MapAt w b g c n hs) (hn0 : n ≤ 10000) (hm : May n (e1, e2)) (hlen : hs.length ≤ 10000) (hpos : ∀ x, x ∈ hs → 1 ≤ x.2 ∧ 0 ≤ x.1 ∧ x.1 + x.2 ≤ n) (hno : idxI (overP (e1, e2)) hs = -1) (hidx : idxI (behindP (e1, e2)) hs = -1) (hk0 : 0 < hs.length) (hkm : hs.length - 1 < hs.length) (y1 y2 : Int) (hy : hs[hs.length - 1] = (y1, y2)) (hj : y1 + y2 = e1) :
    Calls Try.prog 9 #[.pointer (some ⟨b, 0, none⟩), .agg #[.int .i64 e1, .int .i64 e2]] w fun r w' => r = .returned (.int .i64 0) ∧ Left_ w b g n (hs.take (hs.length - 1) ++ (y1, y2 + e2) :: hs.drop hs.length) w' := by
  have hn : n ≤ 1000000 := by omega
  have hsm : ∀ x, x ∈ hs → Sm x.1 x.2 := fun x hx => by have := hpos x hx; unfold Sm; omega
  have HM := Aside0.mk h
  have HN := Aside0.mk hn
  have HMY := Aside0.mk hm
  have HL := Aside0.mk hlen
  have HSM := Aside0.mk hsm
  have HBX := Aside0.mk (new_blk w (.cells #[.int .i64 e1, .int .i64 e2] 31) w.heap.size rfl)
  have HNO := Aside0.mk hno
  have HIDX := Aside0.mk hidx
  have hm0 : w.cell? ⟨b, 1, none⟩ = some (.slice (some ⟨g, 0, none⟩) hs.length c) := (blk_cell h.hd 1).trans rfl
  have HK5 : Aside0 ((hs.length : Int) - 1 = ((hs.length - 1 : Nat) : Int)) := ⟨by omega⟩
  have HA2 : Aside0 (hs.length + 1 ≤ 1000000) := ⟨by omega⟩
  have d9 : decide ((0 : Int) < (hs.length : Int)) = true := decide_eq_true (by omega)
  have hwk : wrap64 ((hs.length : Int) - 1) = (hs.length : Int) - 1 := by unfold wrap64; omega
  have hwk' : IntKind.i64.wrap ((hs.length : Int) - 1) = (hs.length : Int) - 1 := by rw [IntKind.wrap_i64]; omega
  have hk6 : (0 : Int) ≤ (hs.length : Int) - 1 := by omega
  have hk7 : (hs.length : Int) - 1 < (hs.length : Int) := by omega
  have hk9 : (1 : Int) ≤ (hs.length : Int) := by omega
  have hk8 : ((hs.length : Int) - 1).toNat = hs.length - 1 := by omega
  have HLEN0 : Aside0 (0 ≤ hs.length) := ⟨Nat.zero_le _⟩
  have dk : decide ((hs.length : Int) < (hs.length : Int)) = false := decide_eq_false (by omega)
  have HSE : Aside0 (Sm y1 (y2 + e2)) := ⟨by have h2 := hpos _ (List.getElem_mem hkm); rw [hy] at h2; unfold Sm; unfold May at hm; dsimp only at *; omega⟩
  have HKM := Aside0.mk hkm
  have HY := Aside0.mk hy
  have HYS := Aside0.mk (show Sm y1 y2 from by have := hsm _ (List.getElem_mem hkm); rw [hy] at this; exact this)
  have hj' : ((y1 + y2) == e1) = true := by rw [hj]; simp
  have hj2 : decide (y1 + y2 = e1) = true := decide_eq_true hj
  have HJ := Aside0.mk hj
  clear h hn hm hlen hsm hno hidx hj hy hpos hn0
  go_enter Try.func9, Try.ntmps9
  go_wp2_with (first | (go_at_call 24; refine (may_calls b n _ e1 e2 _ (blk_alloc HM.out.hd _) HM.out.pos HN.out).mono ?_; rintro e w8 ⟨rfl, hb⟩; rw [decide_eq_true HMY.out]; have HB8 := Aside0.mk (below_then (below_alloc (Below.refl w.heap.size w) _) (by simp) hb); have HX8 := Aside0.mk (blk_below HBX.out hb); have hm8 := pw_cell_below HB8.out hm0; clear hb) | (go_at_call 25; refine (containsFunc_calls 26 #[.pointer (some ⟨w.heap.size, 0, none⟩)] (overP (e1, e2)) e26 g c hs _ (HM.out.row.below HB8.out) (Nat.le_trans HL.out (by decide)) (fun k hk W hW => over_calls w.heap.size e1 e2 _ _ W (blk_below HX8.out hW) (HMY.out.sm HN.out) (HSM.out _ (List.getElem_mem hk)))).mono ?_; rintro e w9 ⟨rfl, hb⟩; rw [HNO.out, show decide ((0 : Int) ≤ -1) = false from rfl]; have HB9 := Aside0.mk (below_then HB8.out HB8.out.size hb); have HX9 := Aside0.mk (blk_below HX8.out hb); have hm9 := pw_cell_below HB9.out hm0; clear hb) | (go_at_call 28; refine (indexFunc_calls 29 #[.pointer (some ⟨w.heap.size, 0, none⟩)] (behindP (e1, e2)) e29 g c hs _ (HM.out.row.below HB9.out) (Nat.le_trans HL.out (by decide)) (fun k hk W hW => behind_calls w.heap.size e1 _ _ W ((blk_cell (blk_below HX9.out hW) 0).trans rfl) (blk_lt (blk_below HX9.out hW)))).mono ?_; rintro e w10 ⟨rfl, hb⟩; rw [HIDX.out]; have HBa := Aside0.mk (below_then HB9.out HB9.out.size hb); have HXa := Aside0.mk (blk_below HX9.out hb); have hma := pw_cell_below HBa.out hm0; clear hb))
  have hr10 := (HM.out.row.below HBa.out).ext (hs.length - 1) HKM.out
  rw [HY.out] at hr10
  obtain ⟨y0, y1_⟩ := hr10
  have hS0 : Aside0 (w10.cell? ⟨b, 1, none⟩ = some (.slice (some ⟨g, 0, none⟩) hs.length c)) := ⟨hma⟩
  have hS1 : Aside0 (w10.cell? ⟨g, (hs.length - 1) * 2, none⟩ = some (.int .i64 y1)) := ⟨y0⟩
  have hS2 : Aside0 (w10.cell? ⟨g, (hs.length - 1) * 2 + 1, none⟩ = some (.int .i64 y2)) := ⟨y1_⟩
  have hS3 : Aside0 (w10.cell? ⟨w.heap.size, 0, none⟩ = some (.int .i64 e1)) := ⟨(blk_cell HXa.out 0).trans rfl⟩
  clear hm0 hma
  go_region_held3 (fun w' => w'.cell? ⟨b, 1, none⟩ = some (.slice (some ⟨g, 0, none⟩) hs.length c) ∧ w'.cell? ⟨g, (hs.length - 1) * 2, none⟩ = some (.int .i64 y1) ∧ w'.cell? ⟨g, (hs.length - 1) * 2 + 1, none⟩ = some (.int .i64 y2) ∧ w'.cell? ⟨w.heap.size, 0, none⟩ = some (.int .i64 e1) ∧ Below w10.heap.size w10 w')
    (first | exact ⟨hS0.out, hS1.out, hS2.out, hS3.out, below_drew1 (Below.refl _ _)⟩ | assumption | (obtain ⟨s0, s1, s2, s3, s4⟩ := ‹(World.cell? _ _ = some _) ∧ _ ∧ _ ∧ _ ∧ Below _ _ _›; exact ⟨pw_cell_below hb s0, pw_cell_below hb s1, pw_cell_below hb s2, pw_cell_below hb s3, below_then s4 s4.size hb⟩))
    (first | (go_at_call 27; refine (end_calls _ _ _ (by first | exact HYS.out)).mono ?_; rintro e w8 ⟨rfl, hb⟩))
  obtain ⟨z0, z1, z2, z3, hB11⟩ := ‹(World.cell? _ _ = some _) ∧ _ ∧ _ ∧ _ ∧ Below _ _ _›
  have hX11 := blk_below HXa.out hB11
  have HX11 := Aside0.mk hX11
  have z4 := (blk_cell hX11 1).trans (rfl : (#[Value.int .i64 e1, .int .i64 e2])[1]? = some (.int .i64 e2))
  have z5 := blk_frozen hX11 0
  have z6 := blk_frozen hX11 1
  have hs1 : wrap64 (y2 + e2) = y2 + e2 := Go.Proofs.Ytdchljjhajbehaa.Ex.wrap_id (by have := HYS.out; have := HMY.out.sm HN.out; unfold Sm at *; omega)
  have hs2 : IntKind.i64.wrap (y2 + e2) = y2 + e2 := Go.Proofs.Ytdchljjhajbehaa.Ex.wrap_id' (by have := HYS.out; have := HMY.out.sm HN.out; unfold Sm at *; omega)
  clear hX11
  go_wp2
  go_region
  go_wp2_with (fail)
  refine wp_letter (fun W => W.heap[w.heap.size]? = some (.cells #[.int .i64 y1, .int .i64 (y2 + e2)] 31 (0, 0)) ∧ Below w.heap.size w W) ⟨blk_put (blk_put HX11.out 0 _ rfl) 1 _ rfl, below_drew1 (below_set (below_set (below_then HBa.out HBa.out.size hB11) (Nat.le_refl _)) (Nat.le_refl _))⟩ ?_
  clear z0 z1 z2 z3 z4 z5 z6
  rintro w12 ⟨hx12, hb12⟩
  have HX12 := Aside0.mk hx12
  have HB12 := Aside0.mk hb12
  have hS0 : Aside0 (w12.cell? ⟨b, 1, none⟩ = some (.slice (some ⟨g, 0, none⟩) hs.length c)) := ⟨(blk_cell (blk_below HM.out.hd hb12) 1).trans rfl⟩
  have hS1 : Aside0 (w12.cell? ⟨w.heap.size, 0, none⟩ = some (.int .i64 y1)) := ⟨(blk_cell hx12 0).trans rfl⟩
  have hS2 : Aside0 (w12.cell? ⟨w.heap.size, 1, none⟩ = some (.int .i64 (y2 + e2))) := ⟨(blk_cell hx12 1).trans rfl⟩
  clear hx12 hb12
  have t0 := hS0.out
  have t2 := hS1.out
  have t3 := hS2.out
  go_quiet (fail)
  refine at_letter (fun W => W.heap[w.heap.size]? = some (.cells #[.int .i64 y1, .int .i64 (y2 + e2)] 31 (0, 0)) ∧ Below w.heap.size w W) ⟨blk_below HX12.out (pw_below_drewN (Below.refl _ _) _), pw_below_drewN HB12.out _⟩ ?_
  clear t0 t2 t3
  rintro w13 ⟨hx13, hb13⟩
  have HX13 := Aside0.mk hx13
  have HB13 := Aside0.mk hb13
  have t0 := (blk_cell (blk_below HM.out.hd hb13) 1).trans (rfl : (#[Value.int .i64 n, .slice (some ⟨g, 0, none⟩) hs.length c])[1]? = some (.slice (some ⟨g, 0, none⟩) hs.length c))
  have t2 : w13.cell? ⟨w.heap.size, 0, none⟩ = some (.int .i64 y1) := (blk_cell hx13 0).trans rfl
  have t3 : w13.cell? ⟨w.heap.size, 1, none⟩ = some (.int .i64 (y2 + e2)) := (blk_cell hx13 1).trans rfl
  clear hx13 hb13
  have HA1 : Aside0 (hs.length ≤ hs.length) := ⟨Nat.le_refl _⟩
  have HA3 : Aside0 (w13.heap.size ≠ g) := ⟨fun e => Nat.lt_irrefl _ (Nat.lt_of_lt_of_le (e ▸ HM.out.lt.2) HB13.out.size)⟩
  have hl1 : b < w13.heap.size := Nat.lt_of_lt_of_le HM.out.lt.1 HB13.out.size
  have hl2 : w.heap.size < w13.heap.size := blk_lt HX13.out
  go_wp2
  have HARG := Aside0.mk (one_arg w13 g y1 (y2 + e2) HA3.out)
  have HROW := Aside0.mk (HM.out.row.below (show Below w.heap.size w ((w13.alloc (.cells #[.int .i64 y1, .int .i64 (y2 + e2)] 31)).drew) from by first | exact below_drew1 (below_alloc HB13.out _) | exact below_alloc (below_drew1 HB13.out) _))
  have HBW := Aside0.mk (show Below w.heap.size w ((w13.alloc (.cells #[.int .i64 y1, .int .i64 (y2 + e2)] 31)).drew) from by first | exact below_drew1 (below_alloc HB13.out _) | exact below_alloc (below_drew1 HB13.out) _)
  have HBD := Aside0.mk (blk_below HM.out.hd (show Below w.heap.size w ((w13.alloc (.cells #[.int .i64 y1, .int .i64 (y2 + e2)] 31)).drew) from by first | exact below_drew1 (below_alloc HB13.out _) | exact below_alloc (below_drew1 HB13.out) _))
  go_region_law (first | (go_simp; go_at_call 30; rw [HK5.out]; refine (replace_row g hs.length c (hs.length - 1) hs.length 1 _ _ (cellsE hs) [.int .i64 y1, .int .i64 (y2 + e2)] _ HROW.out HARG.out (Nat.sub_le _ 1) HA1.out (fun _ => Nat.one_pos) HA2.out).mono ?_; rintro e V2 ⟨g', c', rfl, hr, hg, hgr⟩; have HR2 := Aside0.mk hr; have HG2 := Aside0.mk hg; have HGR := Aside0.mk hgr; have hb2 := blk_grown HBD.out hgr (fun e => HM.out.ne (Option.some.inj e)); have HB2 := Aside0.mk hb2; have u2 : V2.cell? ⟨b, 1, none⟩ = some (.slice (some ⟨g, 0, none⟩) hs.length c) := (blk_cell hb2 1).trans rfl; have u3 := blk_frozen hb2 1; clear hr hg hgr hb2))
  all_goals go_wp2
  all_goals go_ret
  all_goals (
    have hl1 : (hs.take (hs.length - 1) ++ (y1, y2 + e2) :: hs.drop hs.length).length = hs.length - 1 + 1 + (hs.length - hs.length) := by
      have hkk := HA1.out
      rw [List.length_append, List.length_cons, List.length_take, List.length_drop, Nat.min_eq_left (by omega)]
      omega
    have hl2 : cellsE (hs.take (hs.length - 1) ++ (y1, y2 + e2) :: hs.drop hs.length) = (cellsE hs).take ((hs.length - 1) * 2) ++ ([.int .i64 y1, .int .i64 (y2 + e2)] ++ (cellsE hs).drop (hs.length * 2)) := by
      rw [cellsE_app, show (y1, y2 + e2) :: hs.drop hs.length = [(y1, y2 + e2)] ++ hs.drop hs.length from rfl, cellsE_app, cellsE_take, cellsE_drop]
      rfl
    refine ⟨rfl, g', c', ⟨?_, ?_, HM.out.pos⟩, ?_, ((Moved.of_below HBW.out).trans (Moved.of_grown HGR.out) (.inl rfl)).trans (Moved.set 1 _) (.inl rfl)⟩
    · rw [hl1]
      first | exact blk_put HB2.out 1 _ rfl | (rw [Nat.sub_self, Nat.add_zero]; exact blk_put HB2.out 1 _ rfl)
    · rw [hl1, hl2]
      refine HR2.out.far (g' := b) ⟨rfl, rfl, rfl, by simp [World.setCell], fun q _ hq => Below.heap_setCell _ _ _ _ (fun e => hq (by rw [e]))⟩ ?_
      rintro rfl
      obtain ⟨cur, h1, _⟩ := HR2.out.ex
      have h2 := HB2.out
      rw [h1] at h2
      injection h2 with h2
      injection h2 with _ h2
      cases h2
    · rcases HG2.out with e | e
      · exact .inl e
      · exact .inr (Nat.le_trans HBW.out.size e))
end Go.Proofs.Ytdchljjhajbehaa.Ex
