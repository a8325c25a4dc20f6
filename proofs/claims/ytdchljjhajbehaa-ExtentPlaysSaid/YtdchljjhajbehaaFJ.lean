/- ExtentPlays: whatever is taken and let free, a map is the document's. -/
import Derived.Test.YtdchljjhajbehaaFI
namespace Go.Proofs.Ytdchljjhajbehaa.Ex
open Go.RowKit Go.Proofs.Ytdchljjhajbehaa.Print Go.Proofs.YtdchljjhajbehaaW.PrintWords Go.Proofs.YtdchljjhajbehaaW.PrintLast Go.Proofs.YtdchljjhajbehaaW.PrintMore Go.Proofs.Ytdchljjhajbehaa.Holes
set_option linter.unusedVariables false
set_option linter.unusedSimpArgs false
attribute [local go_sem high] eqA31
theorem V_any {α : Type} {d : Kd α} {e base base' : Nat} {W : World} {ok : Nat → Prop} {v : Value} {xs : List α} (h : Kd.V d e W base ok v xs) : Kd.V d e W base' ok v xs := Kd.V_map h (fun _ hf => hf)
theorem V_back {α : Type} {d : Kd α} {e base base' : Nat} {W W' : World} {v : Value} {xs : List α} {b g : Nat} (h : Kd.V d e W' base (fun k => (k ≠ b ∧ k ≠ g) ∨ W.heap.size ≤ k) v xs) (hb : b < W.heap.size) (hg : g < W.heap.size) : Kd.V d e W' base' (fun k => k ≠ b ∧ k ≠ g) v xs :=
  V_any (Kd.V_mono h (fun k hk => by rcases hk with hk | hk; exact hk; exact ⟨by omega, by omega⟩))
theorem rows46 {w : World} {A : Option Addr} {l : List S46} (hr : Kd.C k46 w A l.length l) (i : Int) (h0 : 0 ≤ i) (h1 : i < (l.length : Int)) : ∃ ad, A = some ad ∧ ∀ W, Below w.heap.size w W → W.cell? (ad.add (i.toNat * 3)) = some (.int .i64 (rd_T46 l i).f0) ∧ W.cell? ⟨(ad.add (i.toNat * 3)).block, (ad.add (i.toNat * 3)).off + 1, none⟩ = some (.int .i64 (rd_T46 l i).f1.f0) ∧ W.cell? ⟨(ad.add (i.toNat * 3)).block, (ad.add (i.toNat * 3)).off + 2, none⟩ = some (.int .i64 (rd_T46 l i).f1.f1) := by
  obtain ⟨ad, he, _⟩ := at_T46 hr i h0 h1
  refine ⟨ad, he, fun W hW => ?_⟩
  obtain ⟨ad', he', a0, a1, a2⟩ := at_T46 (Kd.C_below hr hW) i h0 h1
  rw [he] at he'
  cases he'
  exact ⟨a0, a1, a2⟩
/-- the law's state at a round's begin -/
structure PS (w wr : World) (b g c : Nat) (n : Int) (hs : List Ext) (t : List Bool) (v : Value) : Prop where
  st : St w wr b g c n hs
  sa : Same_ n hs t
  v : Kd.V Kd.bool 4 wr 0 (fun k => k ≠ b ∧ k ≠ g) v t
set_option maxHeartbeats 8000000 in
set_option maxRecDepth 100000 in
theorem plays_no (n : Int) (A1 : Option Addr) (c1 : Nat) (l1 : List S46) (w : World) (hn : n < 1 ∨ 4096 < n) :
    Calls Try.prog 5 #[.int .i64 n, .slice A1 l1.length c1] w fun e w' => e = .returned (.bool true) ∧ Below w.heap.size w w' := by
  have HN := Aside0.mk hn
  have hR : peristyleref05_New.f n = some ([], 1) := by
    unfold peristyleref05_New.f
    by_cases h : n < 1
    · rw [if_pos h]
    · rw [if_neg h, if_pos (by omega)]
  have HR := Aside0.mk hR
  clear hn hR
  go_enter Try.func5, Try.ntmps5
  go_wp2_with (first
    | (go_at_call 8; refine (new_no n _ HN.out).mono ?_; rintro e w1 ⟨rfl, hw1⟩; rw [hw1]; clear hw1)
    | (go_at_call 15; refine (peristyleref05_New.calls n [] 1 _ HR.out).mono ?_; rintro e w2 ⟨v2, rfl, hv, hb⟩; have B2 := Aside0.mk hb; clear hv hb))
  go_loopw [7, 9] (fun _ v9 wr => v9 = .int .i64 0 ∧ wr = w2) (fun _ _ _ => 0)
  case atStart => exact ⟨rfl, rfl⟩
  case round =>
    obtain ⟨rfl, rfl⟩ := hrel
    by_cases hz : 0 < l1.length
    · have hz1 : decide ((0 : Int) < (l1.length : Int)) = true := decide_eq_true (by omega)
      have hz2 : decide (0 < l1.length) = true := decide_eq_true hz
      go_wp2_with (go_at_call 13; refine (awake_calls _).mono ?_; rintro e w3 ⟨rfl, hb⟩; have B3 := Aside0.mk (below_then B2.out B2.out.size hb); clear hb)
      go_ret
      exact ⟨rfl, B3.out⟩
    · have hz1 : decide ((0 : Int) < (l1.length : Int)) = false := decide_eq_false (by omega)
      have hz2 : decide (0 < l1.length) = false := decide_eq_false hz
      have hz3 : l1.length = 0 := by omega
      go_wp2_with (go_at_call 13; refine (awake_calls _).mono ?_; rintro e w3 ⟨rfl, hb⟩; have B3 := Aside0.mk (below_then B2.out B2.out.size hb); clear hb)
      go_ret
      exact ⟨rfl, B3.out⟩
set_option maxHeartbeats 8000000 in
set_option maxRecDepth 100000 in
theorem plays_ok (n : Int) (A1 : Option Addr) (c1 : Nat) (l1 : List S46) (w : World) (hr1 : Kd.C k46 w A1 l1.length l1) (hn1 : 1 ≤ n) (hn2 : n ≤ 4096) :
    Calls Try.prog 5 #[.int .i64 n, .slice A1 l1.length c1] w fun e w' => e = .returned (.bool true) ∧ Below w.heap.size w w' := by
  have HR1 := Aside0.mk hr1
  have HN1 := Aside0.mk hn1
  have HN2 := Aside0.mk hn2
  have hR : peristyleref05_New.f n = some (List.replicate n.toNat false, 0) := by
    unfold peristyleref05_New.f
    rw [if_neg (by omega), if_neg (by omega), if_pos (by omega), if_pos (by omega)]
  have HR := Aside0.mk hR
  have HS0 := Aside0.mk (Same_.new n hn1 hn2)
  clear hr1 hn1 hn2 hR
  go_enter Try.func5, Try.ntmps5
  go_wp2_with (first
    | (go_at_call 8; refine (new_ok n _ HN1.out HN2.out).mono ?_; rintro e w1 ⟨b, g, c, rfl, hm, hb1, hg1, hbl⟩; have HS := Aside0.mk (St.mk hm hbl hb1 hg1); clear hm hb1 hg1 hbl)
    | (go_at_call 15; refine (peristyleref05_New.calls n _ 0 _ HR.out).mono ?_; rintro e w2 ⟨v2, rfl, hv, hb⟩; have hP : PS w w2 b g c n [(0, n)] (List.replicate n.toNat false) v2 := ⟨HS.out.then hb, HS0.out, V_new hv HS.out.at_.lt.1 HS.out.at_.lt.2⟩; have HP := Aside0.mk hP; clear hv hb hP))
  go_loopw [7, 9] (fun v7 v9 wr => ∃ (kk g c : Nat) (hs : List Ext) (t : List Bool), Aside0 (kk ≤ 60) ∧ v9 = .int .i64 (kk : Int) ∧ Aside0 (PS w wr b g c n hs t v7)) (fun _ v9 _ => 60 - (intOf v9).toNat)
  case atStart => exact ⟨0, g, c, [(0, n)], _, ⟨by decide⟩, rfl, ⟨HP.out⟩⟩
  case round =>
    clear HP HS g c
    obtain ⟨kk, g, c, hs, t, hkk, rfl, HP⟩ := hrel
    have hz0 : (0 : Int) ≤ (kk : Int) := Int.natCast_nonneg kk
    have hk1 := wrap_succ (k := kk) (by have := hkk.out; omega)
    have hk2 := wrap_succ' (k := kk) (by have := hkk.out; omega)
    obtain ⟨A, cc, hv7⟩ := Kd.V_slice HP.out.v
    subst hv7
    by_cases hlt : kk < l1.length ∧ kk < 60
    · have hz1 : (kk : Int) < (l1.length : Int) := by omega
      have hz2 : (kk : Int) < 60 := by omega
      have hz3 : decide ((kk : Int) < (l1.length : Int)) = true := decide_eq_true hz1
      have hz4 : decide ((kk : Int) < 60) = true := decide_eq_true hz2
      have HLT := Aside0.mk hlt
      obtain ⟨ad, he, hcw⟩ := rows46 HR1.out (kk : Int) hz0 hz1
      obtain ⟨y0, hy0⟩ : ∃ y, y = (rd_T46 l1 (kk : Int)).f0 := ⟨_, rfl⟩
      obtain ⟨y1, hy1⟩ : ∃ y, y = (rd_T46 l1 (kk : Int)).f1.f0 := ⟨_, rfl⟩
      obtain ⟨y2, hy2⟩ : ∃ y, y = (rd_T46 l1 (kk : Int)).f1.f1 := ⟨_, rfl⟩
      simp only [← hy0, ← hy1, ← hy2, Int.toNat_natCast] at hcw
      obtain ⟨hx0, hx1, hx2⟩ := hcw wr HP.out.st.below
      have HCW := Aside0.mk hcw
      have HG := Aside0.mk HP.out.sa.good
      have HVA := Aside0.mk HP.out.v
      clear hcw
      clear hy0 hy1 hy2 hlt
      subst he
      by_cases c1_ : y0 = 1
      · have e1 : (y0 == 1) = true := by rw [c1_]; rfl
        have e2 : decide (y0 = 1) = true := decide_eq_true c1_
        clear c1_
        obtain ⟨d, hd⟩ : ∃ d, d = (allocS hs y2).1 := ⟨_, rfl⟩
        obtain ⟨x1, hx1_⟩ : ∃ d, d = (allocS hs y2).2.1.1 := ⟨_, rfl⟩
        obtain ⟨x2, hx2_⟩ : ∃ d, d = (allocS hs y2).2.1.2 := ⟨_, rfl⟩
        obtain ⟨hs2, hh2⟩ : ∃ d, d = (allocS hs y2).2.2 := ⟨_, rfl⟩
        have HA := Aside0.mk fun (W : World) (h : MapAt W b g c n hs) => alloc_calls b g c n hs y2 W h HG.out
        obtain ⟨t2, hev, hs2_⟩ := HP.out.sa.alloc y2
        rw [← hd, ← hx1_, ← hx2_] at hev
        rw [← hh2] at hs2_
        simp only [← hd, ← hx1_, ← hx2_, ← hh2] at HA
        clear hx1_ hx2_
        obtain ⟨K, hK⟩ := Ev.get hev
        have HK := Aside0.mk hK
        have HS2 := Aside0.mk hs2_
        clear hev hK hs2_ hd hh2
        go_wp2_with (first
          | (go_at_call 11; refine (HA.out _ HP.out.st.at_).mono ?_; rintro e w8 ⟨rfl, g2, c2, hm, hg, hmv⟩; have HS8 := Aside0.mk (HP.out.st.moved hm hg hmv); have HV8 := Aside0.mk (V_moved HVA.out hmv hg); obtain ⟨i0, i1, i2⟩ := HCW.out _ HS8.out.below; clear hm hg hmv; have i3 := World.block_lt_of_cell? _ _ i0; have hX8 : St w (w8.alloc (.cells #[.int .i64 x1, .int .i64 x2] 31)) b g2 c2 n hs2 := HS8.out.then (below_alloc (Below.refl _ _) _); have HX8 := Aside0.mk hX8; obtain ⟨i5, i6, i7⟩ := HCW.out _ hX8.below; clear hX8)
          | (go_at_call 16; refine (peristyleref05_Alloc.calls K (fun k => k ≠ b ∧ k ≠ g2) A cc t y2 t2 x1 x2 d _ (V_any (Kd.V_alloc HV8.out _)) HK.out).mono ?_; rintro e w9 ⟨v9, rfl, hv, hb⟩; have HS9 := Aside0.mk (HX8.out.then hb); have HV9 := Aside0.mk (V_back (base' := 0) hv HX8.out.at_.lt.1 HX8.out.at_.lt.2); obtain ⟨A9, cc9, hv9⟩ := Kd.V_slice HV9.out; subst hv9; have hq := blk_below (new_blk w8 (.cells #[.int .i64 x1, .int .i64 x2] 31) w8.heap.size rfl) hb; have q0 : w9.cell? ⟨w8.heap.size, 0, none⟩ = some (.int .i64 x1) := (blk_cell hq 0).trans rfl; have q1 : w9.cell? ⟨w8.heap.size, 1, none⟩ = some (.int .i64 x2) := (blk_cell hq 1).trans rfl; have q2 := blk_lt hq; clear hv hb hq)
          | (go_at_call 20; refine (same_calls b g2 c2 n hs2 t2 A9 cc9 _ (HS9.out.then (below_alloc (Below.refl _ _) _)).at_ HS2.out (Kd.C_below (Kd.V_reads' HV9.out).2.2 (by first | exact Below.refl _ _ | exact below_alloc (Below.refl _ _) _)) (Kd.V_reads' HV9.out).2.1).mono ?_; rintro e w10 ⟨rfl, hb⟩; have hPX : PS w w10 b g2 c2 n hs2 t2 (.slice A9 t2.length cc9) := ⟨(HS9.out.then (below_alloc (Below.refl _ _) _)).then hb, HS2.out, Kd.V_below HV9.out (below_then (below_alloc (Below.refl _ _) _) (below_alloc (Below.refl _ _) _).size hb)⟩; have HPX := Aside0.mk hPX; clear hb hPX))
        go_roundw
        case rel => exact ⟨kk + 1, g2, c2, hs2, t2, ⟨HLT.out.2⟩, rfl, ⟨HPX.out⟩⟩
        case measure => exact meas HLT.out.2
      · have e1 : (y0 == 1) = false := by simpa using c1_
        have e2 : decide (y0 = 1) = false := decide_eq_false c1_
        by_cases c2_ : y0 = 2
        · have e3 : (y0 == 2) = true := by rw [c2_]; rfl
          have e4 : decide (y0 = 2) = true := decide_eq_true c2_
          clear c1_ c2_
          obtain ⟨d, hd⟩ : ∃ d, d = (freeS n hs (y1, y2)).1 := ⟨_, rfl⟩
          obtain ⟨hs2, hh2⟩ : ∃ d, d = (freeS n hs (y1, y2)).2 := ⟨_, rfl⟩
          have HA := Aside0.mk fun (W : World) (h : MapAt W b g c n hs) => free_calls b g c n hs y1 y2 W h HG.out
          obtain ⟨t2, hev, hs2_⟩ := HP.out.sa.free y1 y2
          rw [← hd] at hev
          rw [← hh2] at hs2_
          simp only [← hd, ← hh2] at HA
          obtain ⟨K, hK⟩ := Ev.get hev
          have HK := Aside0.mk hK
          have HS2 := Aside0.mk hs2_
          clear hev hK hs2_ hd hh2
          go_wp2_with (first
            | (go_at_call 9; refine (HA.out _ HP.out.st.at_).mono ?_; rintro e w8 ⟨rfl, g2, c2, hm, hg, hmv⟩; have HS8 := Aside0.mk (HP.out.st.moved hm hg hmv); have HV8 := Aside0.mk (V_moved HVA.out hmv hg); obtain ⟨i0, i1, i2⟩ := HCW.out _ HS8.out.below; clear hm hg hmv)
            | (go_at_call 17; refine (peristyleref05_Free.calls K (fun k => k ≠ b ∧ k ≠ g2) A cc t y1 y2 t2 d _ (V_any HV8.out) HK.out).mono ?_; rintro e w9 ⟨v9, rfl, hv, hb⟩; have HS9 := Aside0.mk (HS8.out.then hb); have HV9 := Aside0.mk (V_back (base' := 0) hv HS8.out.at_.lt.1 HS8.out.at_.lt.2); obtain ⟨A9, cc9, hv9⟩ := Kd.V_slice HV9.out; subst hv9; clear hv hb)
            | (go_at_call 20; refine (same_calls b g2 c2 n hs2 t2 A9 cc9 _ (HS9.out).at_ HS2.out (Kd.C_below (Kd.V_reads' HV9.out).2.2 (by first | exact Below.refl _ _ | exact below_alloc (Below.refl _ _) _)) (Kd.V_reads' HV9.out).2.1).mono ?_; rintro e w10 ⟨rfl, hb⟩; have hPX : PS w w10 b g2 c2 n hs2 t2 (.slice A9 t2.length cc9) := ⟨(HS9.out).then hb, HS2.out, Kd.V_below HV9.out (hb)⟩; have HPX := Aside0.mk hPX; clear hb hPX))
          go_roundw
          case rel => exact ⟨kk + 1, g2, c2, hs2, t2, ⟨HLT.out.2⟩, rfl, ⟨HPX.out⟩⟩
          case measure => exact meas HLT.out.2
        · have e3 : (y0 == 2) = false := by simpa using c2_
          have e4 : decide (y0 = 2) = false := decide_eq_false c2_
          clear c1_ c2_
          obtain ⟨d, hd⟩ : ∃ d, d = (takeS n hs (y1, y2)).1 := ⟨_, rfl⟩
          obtain ⟨hs2, hh2⟩ : ∃ d, d = (takeS n hs (y1, y2)).2 := ⟨_, rfl⟩
          have HA := Aside0.mk fun (W : World) (h : MapAt W b g c n hs) => take_calls b g c n hs y1 y2 W h HG.out
          obtain ⟨t2, hev, hs2_⟩ := HP.out.sa.take y1 y2
          rw [← hd] at hev
          rw [← hh2] at hs2_
          simp only [← hd, ← hh2] at HA
          obtain ⟨K, hK⟩ := Ev.get hev
          have HK := Aside0.mk hK
          have HS2 := Aside0.mk hs2_
          clear hev hK hs2_ hd hh2
          go_wp2_with (first
            | (go_at_call 18; refine (HA.out _ HP.out.st.at_).mono ?_; rintro e w8 ⟨rfl, g2, c2, hm, hg, hmv⟩; have HS8 := Aside0.mk (HP.out.st.moved hm hg hmv); have HV8 := Aside0.mk (V_moved HVA.out hmv hg); obtain ⟨i0, i1, i2⟩ := HCW.out _ HS8.out.below; clear hm hg hmv)
            | (go_at_call 19; refine (peristyleref05_Take.calls K (fun k => k ≠ b ∧ k ≠ g2) A cc t y1 y2 t2 d _ (V_any HV8.out) HK.out).mono ?_; rintro e w9 ⟨v9, rfl, hv, hb⟩; have HS9 := Aside0.mk (HS8.out.then hb); have HV9 := Aside0.mk (V_back (base' := 0) hv HS8.out.at_.lt.1 HS8.out.at_.lt.2); obtain ⟨A9, cc9, hv9⟩ := Kd.V_slice HV9.out; subst hv9; clear hv hb)
            | (go_at_call 20; refine (same_calls b g2 c2 n hs2 t2 A9 cc9 _ (HS9.out).at_ HS2.out (Kd.C_below (Kd.V_reads' HV9.out).2.2 (by first | exact Below.refl _ _ | exact below_alloc (Below.refl _ _) _)) (Kd.V_reads' HV9.out).2.1).mono ?_; rintro e w10 ⟨rfl, hb⟩; have hPX : PS w w10 b g2 c2 n hs2 t2 (.slice A9 t2.length cc9) := ⟨(HS9.out).then hb, HS2.out, Kd.V_below HV9.out (hb)⟩; have HPX := Aside0.mk hPX; clear hb hPX))
          go_roundw
          case rel => exact ⟨kk + 1, g2, c2, hs2, t2, ⟨HLT.out.2⟩, rfl, ⟨HPX.out⟩⟩
          case measure => exact meas HLT.out.2
    · by_cases h1 : kk < l1.length
      · have hz1 : (kk : Int) < (l1.length : Int) := by omega
        have hz2 : ¬ (kk : Int) < 60 := by omega
        have hz3 : decide ((kk : Int) < (l1.length : Int)) = true := decide_eq_true hz1
        have hz4 : decide ((kk : Int) < 60) = false := decide_eq_false hz2
        clear hlt h1
        go_wp2_with (go_at_call 13; refine (awake_calls _).mono ?_; rintro e w3 ⟨rfl, hb⟩; have B3 := Aside0.mk (below_then HP.out.st.below HP.out.st.below.size hb); clear hb)
        go_ret
        exact ⟨rfl, B3.out⟩
      · have hz1 : ¬ (kk : Int) < (l1.length : Int) := by omega
        have hz3 : decide ((kk : Int) < (l1.length : Int)) = false := decide_eq_false hz1
        clear hlt h1
        go_wp2_with (go_at_call 13; refine (awake_calls _).mono ?_; rintro e w3 ⟨rfl, hb⟩; have B3 := Aside0.mk (below_then HP.out.st.below HP.out.st.below.size hb); clear hb)
        go_ret
        exact ⟨rfl, B3.out⟩
theorem ExtentPlays_walk (n : Int) (A1 : Option Addr) (c1 : Nat) (l1 : List S46) (w : World) {p0 p1 : Prop} (w0 : p0) (hr1 : Kd.C k46 w A1 l1.length l1) (hc1 : l1.length ≤ c1) (w1 : p1) :
    Calls Try.prog 5 #[.int .i64 n, .slice A1 l1.length c1] w fun e w' => e = .returned (.bool true) ∧ Below w.heap.size w w' := by
  by_cases h : 1 ≤ n ∧ n ≤ 4096
  · exact plays_ok n A1 c1 l1 w hr1 h.1 h.2
  · exact plays_no n A1 c1 l1 w (by omega)
end Go.Proofs.Ytdchljjhajbehaa.Ex
