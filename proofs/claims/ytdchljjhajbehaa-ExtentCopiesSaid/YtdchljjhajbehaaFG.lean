/- ExtentCopies: a copy goes its own way. (Written by genfg.py.) -/
import Derived.Test.YtdchljjhajbehaaFH
import Derived.Test.YtdchljjhajbehaaFC
namespace Go.Proofs.Ytdchljjhajbehaa.Ex
open Go.RowKit Go.Proofs.Ytdchljjhajbehaa.Print Go.Proofs.YtdchljjhajbehaaW.PrintWords Go.Proofs.YtdchljjhajbehaaW.PrintLast Go.Proofs.YtdchljjhajbehaaW.PrintMore Go.Proofs.Ytdchljjhajbehaa.Holes
set_option linter.unusedVariables false
set_option linter.unusedSimpArgs false
theorem MapAt.moved {W W' : World} {b g c b3 g3 : Nat} {n : Int} {hs : List Ext} (h : MapAt W b3 g3 c n hs) (hm : Moved W W' b g) (h1 : b3 ≠ b) (h2 : b3 ≠ g) (h3 : g3 ≠ b) (h4 : g3 ≠ g) : MapAt W' b3 g3 c n hs :=
  h.far (hm.block b3 h.lt.1 h1 h2) (hm.block g3 h.lt.2 h3 h4)
/-- the map b, the copy b3 of the holes hc, and the row of them that was told -/
structure CW (w0 W : World) (b g c : Nat) (hs : List Ext) (b3 : Nat) (hc : List Ext) (A2 : Option Addr) (c2 : Nat) : Prop where
  st : St w0 W b g c 100 hs
  nb : b3 ≠ b
  ng : b3 ≠ g
  lo : w0.heap.size ≤ b3
  rd : Read W b3 100 hc
  mp : hc ≠ [] → ∃ g3 c3, MapAt W b3 g3 c3 100 hc ∧ g3 ≠ b ∧ g3 ≠ g ∧ w0.heap.size ≤ g3
  was : Kd.V k31 31 W 0 (fun k => k ≠ b ∧ k ≠ g) (.slice A2 (hc.map toS).length c2) (hc.map toS)
theorem CW.then {w0 W W' : World} {b g c : Nat} {hs : List Ext} {b3 : Nat} {hc : List Ext} {A2 : Option Addr} {c2 : Nat} (h : CW w0 W b g c hs b3 hc A2 c2) (hb : Below W.heap.size W W') : CW w0 W' b g c hs b3 hc A2 c2 :=
  ⟨h.st.then hb, h.nb, h.ng, h.lo, h.rd.below hb, fun h0 => by obtain ⟨g3, c3, m, x⟩ := h.mp h0; exact ⟨g3, c3, m.below hb, x⟩, Kd.V_below h.was hb⟩
theorem C_none {W W' : World} {A : Option Addr} {n : Nat} (h : Kd.C k31 W A n []) : Kd.C k31 W' A n [] := by
  obtain ⟨h1, h2, h3⟩ := h
  subst h1
  exact ⟨rfl, h2, fun h0 => absurd h0 (Nat.lt_irrefl 0)⟩
theorem CW.moved {w0 W W' : World} {b g c g' c' : Nat} {hs hs' : List Ext} {b3 : Nat} {hc : List Ext} {A2 : Option Addr} {c2 : Nat} (h : CW w0 W b g c hs b3 hc A2 c2) (hm : MapAt W' b g' c' 100 hs') (hg : g' = g ∨ W.heap.size ≤ g') (hv : Moved W W' b g) : CW w0 W' b g' c' hs' b3 hc A2 c2 := by
  have hlt : b3 < W.heap.size := by obtain ⟨A, cc, h1, _⟩ := h.rd; exact blk_lt h1
  refine ⟨h.st.moved hm hg hv, h.nb, ?_, h.lo, ?_, fun h0 => ?_, V_moved h.was hv hg⟩
  · rcases hg with e | e
    · rw [e]; exact h.ng
    · omega
  · by_cases h0 : hc = []
    · subst h0
      obtain ⟨A, cc, h1, h2, h3, h4⟩ := h.rd
      exact ⟨A, cc, (hv.block b3 hlt h.nb h.ng).trans h1, C_none h2, h3, h4⟩
    · obtain ⟨g3, c3, m, x1, x2, x3⟩ := h.mp h0
      exact (m.moved hv h.nb h.ng x1 x2).read
  · obtain ⟨g3, c3, m, x1, x2, x3⟩ := h.mp h0
    refine ⟨g3, c3, m.moved hv h.nb h.ng x1 x2, x1, ?_, x3⟩
    have := m.lt.2
    rcases hg with e | e
    · rw [e]; exact x2
    · omega
theorem CW.start {w0 w1 w2 w3 : World} {b g c : Nat} {hs : List Ext} {b3 : Nat} {A2 : Option Addr} {c2 : Nat} (h : St w0 w1 b g c 100 hs) (hv : k31.R 31 w2 w1.heap.size (fun _ => True) (.slice A2 (hs.map toS).length c2) (hs.map toS)) (hb : Below w1.heap.size w1 w2) (hc : Copied w2 100 hs b3 w3) : CW w0 w3 b g c hs b3 hs A2 c2 := by
  have h2 := h.then hb
  have hl := h2.at_.lt
  exact ⟨h2.then hc.2.1, by have := hc.1; omega, by have := hc.1; omega, Nat.le_trans h2.below.size hc.1, hc.2.2.1, fun h0 => by
    obtain ⟨g3, c3, m, x⟩ := hc.2.2.2 h0
    exact ⟨g3, c3, m, by omega, by omega, Nat.le_trans h2.below.size x⟩, Kd.V_below (V_new hv h.at_.lt.1 h.at_.lt.2) hc.2.1⟩
theorem CW.good {w0 W : World} {b g c : Nat} {hs : List Ext} {b3 : Nat} {hc : List Ext} {A2 : Option Addr} {c2 : Nat} (h : CW w0 W b g c hs b3 hc A2 c2) : Kd.C k31 W A2 (hc.map toS).length (hc.map toS) ∧ (hc.map toS).length ≤ c2 := ⟨(Kd.V_reads' h.was).2.2, (Kd.V_reads' h.was).2.1⟩
/-- what Alloc did, undone -/
theorem free_back {hs hs' : List Ext} {F : Int → Prop} {e : Ext} (q : Is hs F 100) (hm : May 100 e) (hF : ∀ x, Cov e x → F x) (q' : Is hs' (fun i => F i ∧ ¬ Cov e i) 100) : freeS 100 hs' e = (0, hs) := by
  obtain ⟨hs2, e2, q2⟩ := freeS_ok q' hm (fun x hx h => h.2 hx)
  have q3 : Is hs2 F 100 := q2.congr fun i => ⟨fun h => h.elim (fun h => h.1) (hF i), fun h => by by_cases c : Cov e i; exact .inr c; exact .inl ⟨h, c⟩⟩
  rw [e2, q.uniq q3]
theorem free_again {hs : List Ext} {F : Int → Prop} {e : Ext} (q : Is hs F 100) (hm : May 100 e) (hF : ∀ x, Cov e x → F x) : freeS 100 hs e = (3, hs) :=
  freeS_none q hm ⟨e.1, by unfold May at hm; unfold Cov; omega, hF _ (by unfold May at hm; unfold Cov; omega)⟩
theorem nx {q g g' n : Nat} (h : q ≠ g) (hq : q < n) (hg : g' = g ∨ n ≤ g') : q ≠ g' := by omega
theorem cov_ne {hs : List Ext} {F : Int → Prop} {e : Ext} (q : Is hs F 100) (hm : May 100 e) (hF : ∀ x, Cov e x → F x) : hs ≠ [] := by
  rintro rfl
  obtain ⟨x, hx, _⟩ := (q.cov e.1).1 (hF _ (by unfold May at hm; unfold Cov; omega))
  cases hx

set_option maxHeartbeats 8000000 in
set_option maxRecDepth 100000 in
theorem ExtentCopies_walk (A0 : Option Addr) (c0 : Nat) (l0 : List S31) (n : Int) (w : World) (hr0 : Kd.C k31 w A0 l0.length l0) (hc0 : l0.length ≤ c0) {p0 p1 : Prop} (w0 : p0) (w1 : p1) :
    Calls Try.prog 6 #[.slice A0 l0.length c0, .int .i64 n] w fun e w' => e = .returned (.bool true) ∧ Below w.heap.size w w' := by
  have HR0 := Aside0.mk hr0
  clear w0 w1 hr0 hc0
  obtain ⟨cnt, hcnt⟩ : ∃ cnt, cnt = wrap64 (1 + (bits BinOp.and IntKind.i64 n 255).tmod 30) := ⟨_, rfl⟩
  have HCNT := Aside0.mk hcnt
  clear hcnt
  go_enter Try.func6, Try.ntmps6
  go_wp2_with (go_at_call 8; refine (new_ok 100 _ (by decide) (by decide)).mono ?_; rintro e w1 ⟨b, g, c, rfl, hm, hb1, hg1, hbl⟩; have HS := Aside0.mk (St.mk hm hbl hb1 hg1); clear hm hb1 hg1 hbl)
  go_loopw [7] (fun v7 wr => ∃ (kk g c : Nat) (hs : List Ext), Aside0 (kk ≤ 20) ∧ v7 = .int .i64 (kk : Int) ∧ Aside0 (St w wr b g c 100 hs) ∧ Aside0 (∃ F, Is hs F 100)) (fun v7 _ => 20 - (intOf v7).toNat)
  case atStart => exact ⟨0, g, c, [(0, 100)], ⟨by decide⟩, rfl, ⟨HS.out⟩, ⟨_, is_new 100 (by decide)⟩⟩
  case round =>
    clear HS g c
    obtain ⟨kk, g, c, hs, hkk, rfl, HS, HF⟩ := hrel
    have hz0 : (0 : Int) ≤ (kk : Int) := Int.natCast_nonneg kk
    have hk1 := wrap_succ (k := kk) (by have := hkk.out; omega)
    have hk2 := wrap_succ' (k := kk) (by have := hkk.out; omega)
    have HG : Aside0 (Good 100 hs) := ⟨by obtain ⟨F, q⟩ := HF.out; exact Good.of q (by decide) (by decide)⟩
    by_cases hlt : kk < l0.length ∧ kk < 20
    · have hz1 : (kk : Int) < (l0.length : Int) := by omega
      have hz2 : (kk : Int) < 20 := by omega
      have hz3 : decide ((kk : Int) < (l0.length : Int)) = true := decide_eq_true hz1
      have hz4 : decide ((kk : Int) < 20) = true := decide_eq_true hz2
      have HLT := Aside0.mk hlt
      obtain ⟨ad, he, hx0, hx1⟩ := at_T31 (Kd.C_below HR0.out HS.out.below) (kk : Int) hz0 hz1
      obtain ⟨y, hy⟩ : ∃ y, y = rd_T31 l0 (kk : Int) := ⟨_, rfl⟩
      rw [← hy] at hx0 hx1
      simp only [Int.toNat_natCast] at hx0 hx1
      clear hy hlt
      subst he
      go_wp2_with (go_at_call 18; refine (take_calls b g c 100 hs y.f0 y.f1 _ HS.out.at_ HG.out).mono ?_; rintro e w8 ⟨rfl, g', c', hm, hg, hmv⟩; have HS8 := Aside0.mk (HS.out.moved hm hg hmv); clear hm hg hmv)
      go_roundw
      case rel => exact ⟨kk + 1, g', c', _, ⟨HLT.out.2⟩, rfl, ⟨HS8.out⟩, ⟨by obtain ⟨F, q⟩ := HF.out; exact takeS_is q⟩⟩
      case measure => exact meas HLT.out.2
    · have HL : Aside0 (hs.length ≤ 10000) := ⟨Nat.le_trans HG.out.len (by decide)⟩
      have HLB : Aside0 (hs.length ≤ 100000) := ⟨Nat.le_trans HG.out.len (by decide)⟩
      by_cases h1 : kk < l0.length
      · have hz1 : (kk : Int) < (l0.length : Int) := by omega
        have hz2 : ¬ (kk : Int) < 20 := by omega
        have hz3 : decide ((kk : Int) < (l0.length : Int)) = true := decide_eq_true hz1
        have hz4 : decide ((kk : Int) < 20) = false := decide_eq_false hz2
        clear h1
        obtain ⟨F, q⟩ := HF.out
        have hal0 : (∃ d : Int, allocS hs cnt = (d, (0, 0), hs) ∧ d ≠ 0) ∨ ∃ a hs2, allocS hs cnt = (0, (a, cnt), hs2) ∧ May 100 (a, cnt) ∧ (∀ x, Cov (a, cnt) x → F x) ∧ Is hs2 (fun i => F i ∧ ¬ Cov (a, cnt) i) 100 := by
          by_cases hc : cnt < 1
          · exact .inl ⟨1, allocS_arg hc, by decide⟩
          · rcases allocS_or q hc with ⟨e, _⟩ | ⟨a, hs2, e1, e2, e3, _, e5⟩
            · exact .inl ⟨2, e, by decide⟩
            · exact .inr ⟨a, hs2, e1, e2, e3, e5⟩
        rcases hal0 with ⟨d, hal, hd0⟩ | ⟨a, hs2, hal, hmay, hcov, q2⟩
        · have e1 : (d == 0) = false := by simpa using hd0
          have e2 : decide (d = 0) = false := decide_eq_false hd0
          clear q
          have HA := Aside0.mk fun (W : World) (g c : Nat) (h : MapAt W b g c 100 hs) => alloc_calls b g c 100 hs cnt W h HG.out
          simp only [hal] at HA
          clear hal hlt HF HG
          go_wp2_with (first
            | (go_at_call 11; rw [← HCNT.out]; refine (HA.out _ g c HW3.out.st.at_).mono ?_; rintro e w4 ⟨rfl, g4, c4, hm, hg, hmv⟩; have HW4 := Aside0.mk (HW3.out.moved hm hg hmv); have hX4 : CW w (w4.alloc (.cells #[.int .i64 0, .int .i64 0] 31)) b g4 c4 hs b3 hs A2 c2 := (HW3.out.moved hm hg hmv).then (below_alloc (Below.refl _ _) _); have HX4 := Aside0.mk hX4; clear hm hg hmv hX4)
            | (go_at_call 21; refine (holes_calls b g4 c4 100 hs _ HW6.out.st.at_ HL.out).mono ?_; rintro e w8 ⟨v8, rfl, hv, hb⟩; obtain ⟨A8, c8, hv_, hl_, hC_⟩ := Kd.R_reads hv; subst hv_; have HA8 := Aside0.mk hC_; have HL8 := Aside0.mk hl_; have HW8 := Aside0.mk (HW6.out.then hb); clear hv hb hl_ hC_)
            | (go_at_call 23; refine (same_hs hs HLB.out A8 A2 c8 c2 _ HA8.out HL8.out HW8.out.good.1 HW8.out.good.2).mono ?_; rintro e w9 ⟨rfl, hb⟩; have HW9 := Aside0.mk (HW8.out.then hb); clear hb)
            | (go_at_call 21; refine (holes_read b3 100 hs _ HX4.out.rd HL.out).mono ?_; rintro e w5 ⟨v5, rfl, hv, hb⟩; obtain ⟨A5, c5, hv_, hl_, hC_⟩ := Kd.R_reads hv; subst hv_; have HA5 := Aside0.mk hC_; have HL5 := Aside0.mk hl_; have HW5 := Aside0.mk (HX4.out.then hb); clear hv hb hl_ hC_)
            | (go_at_call 23; refine (same_hs hs HLB.out A5 A2 c5 c2 _ HA5.out HL5.out HW5.out.good.1 HW5.out.good.2).mono ?_; rintro e w6 ⟨rfl, hb⟩; have HW6 := Aside0.mk (HW5.out.then hb); clear hb)
            | (go_at_call 13; refine (awake_calls _).mono ?_; rintro e w10 ⟨rfl, hb⟩; have HB10 := Aside0.mk (below_then HW9.out.st.below HW9.out.st.below.size hb); clear hb)
            | (go_at_call 21; refine (holes_calls b g c 100 hs _ HS.out.at_ HL.out).mono ?_; rintro e w2 ⟨v2, rfl, hv, hb⟩; obtain ⟨A2, c2, hv2, _, _⟩ := Kd.R_reads hv; subst hv2; have HV2 := Aside0.mk hv; have HB2 := Aside0.mk hb; clear hv hb) | (go_at_call 22; refine (copy_calls b g c 100 hs _ (HS.out.then HB2.out).at_ HL.out).mono ?_; rintro e w3 ⟨b3, rfl, hcp⟩; have hW3 : CW w w3 b g c hs b3 hs A2 c2 := CW.start HS.out HV2.out HB2.out hcp; have HW3 := Aside0.mk hW3; clear hcp hW3))
          go_ret
          exact ⟨rfl, HB10.out⟩
        · skip
          obtain ⟨g3_, hg3_⟩ : ∃ x : Nat, x = 0 := ⟨0, rfl⟩
          have HA := Aside0.mk fun (W : World) (g c : Nat) (h : MapAt W b g c 100 hs) => alloc_calls b g c 100 hs cnt W h HG.out
          simp only [hal] at HA
          have HG2 : Aside0 (Good 100 hs2) := ⟨Good.of q2 (by decide) (by decide)⟩
          have HFR := Aside0.mk fun (W : World) (g c : Nat) (h : MapAt W b g c 100 hs2) => free_calls b g c 100 hs2 a cnt W h HG2.out
          simp only [free_back q hmay hcov q2] at HFR
          have HFA := Aside0.mk fun (W : World) (g c : Nat) (h : MapAt W b g c 100 hs) => free_calls b g c 100 hs a cnt W h HG.out
          simp only [free_again q hmay hcov] at HFA
          obtain ⟨hs3, htk, _⟩ := takeS_ok q hmay hcov
          have HTK := Aside0.mk fun (W : World) (b3 g3 c3 : Nat) (h : MapAt W b3 g3 c3 100 hs) => take_calls b3 g3 c3 100 hs a cnt W h HG.out
          simp only [htk] at HTK
          have HNE := Aside0.mk (cov_ne q hmay hcov)
          clear hal hlt HF HG g3_ hg3_ q2 hmay hcov q htk HG2
          go_wp2_with (first
            | (go_at_call 11; rw [← HCNT.out]; refine (HA.out _ g c HW3.out.st.at_).mono ?_; rintro e w4 ⟨rfl, g4, c4, hm, hg, hmv⟩; have hX4 : CW w (w4.alloc (.cells #[.int .i64 a, .int .i64 cnt] 31)) b g4 c4 hs2 b3 hs A2 c2 := (HW3.out.moved hm hg hmv).then (below_alloc (Below.refl _ _) _); have HX4 := Aside0.mk hX4; have HQ4 := Aside0.mk (new_blk w4 (.cells #[.int .i64 a, .int .i64 cnt] 31) w4.heap.size rfl); have HN4 : Aside0 (w4.heap.size ≠ b ∧ w4.heap.size ≠ g4) := ⟨Nat.ne_of_gt hm.lt.1, Nat.ne_of_gt hm.lt.2⟩; have k40 : (w4.alloc (.cells #[.int .i64 a, .int .i64 cnt] 31)).cell? ⟨w4.heap.size, 0, none⟩ = some (.int .i64 a) := (blk_cell HQ4.out 0).trans rfl; clear hm hg hmv hX4)
            | (go_at_call 9; refine (HFA.out _ g7 c7 HW9.out.st.at_).mono ?_; rintro e w10 ⟨rfl, g10, c10, hm, hg, hmv⟩; have HW10 := Aside0.mk (HW9.out.moved hm hg hmv); have hq := hmv.blk HQ9.out NX.out.1 NX.out.2; have k100 : w10.cell? ⟨w4.heap.size, 0, none⟩ = some (.int .i64 a) := (blk_cell hq 0).trans rfl; have k101 : w10.cell? ⟨w4.heap.size, 1, none⟩ = some (.int .i64 cnt) := (blk_cell hq 1).trans rfl; clear hm hg hmv hq)
            | (go_at_call 21; refine (holes_calls b g7 c7 100 hs _ HW7.out.st.at_ HL.out).mono ?_; rintro e w8 ⟨v8, rfl, hv, hb⟩; obtain ⟨A8, c8, hv_, hl_, hC_⟩ := Kd.R_reads hv; subst hv_; have HA8 := Aside0.mk hC_; have HL8 := Aside0.mk hl_; have HW8 := Aside0.mk (HW7.out.then hb); have HQ8 := Aside0.mk (blk_below HQ7.out hb); have k80 : w8.cell? ⟨w4.heap.size, 0, none⟩ = some (.int .i64 a) := (blk_cell (blk_below HQ7.out hb) 0).trans rfl; have k81 : w8.cell? ⟨w4.heap.size, 1, none⟩ = some (.int .i64 cnt) := (blk_cell (blk_below HQ7.out hb) 1).trans rfl; clear hv hb hl_ hC_)
            | (go_at_call 23; refine (same_hs hs HLB.out A8 A2 c8 c2 _ HA8.out HL8.out HW8.out.good.1 HW8.out.good.2).mono ?_; rintro e w9 ⟨rfl, hb⟩; have HW9 := Aside0.mk (HW8.out.then hb); have HQ9 := Aside0.mk (blk_below HQ8.out hb); have k90 : w9.cell? ⟨w4.heap.size, 0, none⟩ = some (.int .i64 a) := (blk_cell (blk_below HQ8.out hb) 0).trans rfl; have k91 : w9.cell? ⟨w4.heap.size, 1, none⟩ = some (.int .i64 cnt) := (blk_cell (blk_below HQ8.out hb) 1).trans rfl; clear hb)
            | (go_at_call 9; refine (HFR.out _ g4 c4 HW6.out.st.at_).mono ?_; rintro e w7 ⟨rfl, g7, c7, hm, hg, hmv⟩; have HW7 := Aside0.mk (HW6.out.moved hm hg hmv); have hnx : w4.heap.size ≠ b ∧ w4.heap.size ≠ g4 := ⟨N4.out.1, N4.out.2⟩; have hq := hmv.blk HQ6.out hnx.1 hnx.2; have HQ7 := Aside0.mk hq; have k70 : w7.cell? ⟨w4.heap.size, 0, none⟩ = some (.int .i64 a) := (blk_cell hq 0).trans rfl; have k71 : w7.cell? ⟨w4.heap.size, 1, none⟩ = some (.int .i64 cnt) := (blk_cell hq 1).trans rfl; have NX : Aside0 (w4.heap.size ≠ b ∧ w4.heap.size ≠ g7) := ⟨hnx.1, nx hnx.2 (blk_lt HQ6.out) hg⟩; clear hm hg hmv hq hnx)
            | (go_at_call 21; refine (holes_read b3 100 hs _ HX4.out.rd HL.out).mono ?_; rintro e w5 ⟨v5, rfl, hv, hb⟩; obtain ⟨A5, c5, hv_, hl_, hC_⟩ := Kd.R_reads hv; subst hv_; have HA5 := Aside0.mk hC_; have HL5 := Aside0.mk hl_; have HW5 := Aside0.mk (HX4.out.then hb); have HQ5 := Aside0.mk (blk_below HQ4.out hb); have k50 : w5.cell? ⟨w4.heap.size, 0, none⟩ = some (.int .i64 a) := (blk_cell (blk_below HQ4.out hb) 0).trans rfl; have k51 : w5.cell? ⟨w4.heap.size, 1, none⟩ = some (.int .i64 cnt) := (blk_cell (blk_below HQ4.out hb) 1).trans rfl; clear hv hb hl_ hC_)
            | (go_at_call 23; refine (same_hs hs HLB.out A5 A2 c5 c2 _ HA5.out HL5.out HW5.out.good.1 HW5.out.good.2).mono ?_; rintro e w6 ⟨rfl, hb⟩; have HW6 := Aside0.mk (HW5.out.then hb); have HQ6 := Aside0.mk (blk_below HQ5.out hb); have k60 : w6.cell? ⟨w4.heap.size, 0, none⟩ = some (.int .i64 a) := (blk_cell (blk_below HQ5.out hb) 0).trans rfl; have k61 : w6.cell? ⟨w4.heap.size, 1, none⟩ = some (.int .i64 cnt) := (blk_cell (blk_below HQ5.out hb) 1).trans rfl; have N4 : Aside0 (w4.heap.size ≠ b ∧ w4.heap.size ≠ g4) := ⟨HN4.out⟩; clear hb)
            | (go_at_call 18; obtain ⟨g3, c3, m3, n1, n2, n3⟩ := HW10.out.mp HNE.out; refine (HTK.out _ b3 g3 c3 m3).mono ?_; rintro e w11 ⟨rfl, g11, c11, hm, hg, hmv⟩; have HB11 := Aside0.mk (hmv.below HW10.out.st.below HW10.out.lo n3); clear hm hg hmv)
            | (go_at_call 13; refine (awake_calls _).mono ?_; rintro e w12 ⟨rfl, hb⟩; have HB12 := Aside0.mk (below_then HB11.out HB11.out.size hb); clear hb)
            | (go_at_call 21; refine (holes_calls b g c 100 hs _ HS.out.at_ HL.out).mono ?_; rintro e w2 ⟨v2, rfl, hv, hb⟩; obtain ⟨A2, c2, hv2, _, _⟩ := Kd.R_reads hv; subst hv2; have HV2 := Aside0.mk hv; have HB2 := Aside0.mk hb; clear hv hb) | (go_at_call 22; refine (copy_calls b g c 100 hs _ (HS.out.then HB2.out).at_ HL.out).mono ?_; rintro e w3 ⟨b3, rfl, hcp⟩; have hW3 : CW w w3 b g c hs b3 hs A2 c2 := CW.start HS.out HV2.out HB2.out hcp; have HW3 := Aside0.mk hW3; clear hcp hW3))
          go_ret
          exact ⟨rfl, HB12.out⟩
      · have hz1 : ¬ (kk : Int) < (l0.length : Int) := by omega
        have hz3 : decide ((kk : Int) < (l0.length : Int)) = false := decide_eq_false hz1
        clear h1
        obtain ⟨F, q⟩ := HF.out
        have hal0 : (∃ d : Int, allocS hs cnt = (d, (0, 0), hs) ∧ d ≠ 0) ∨ ∃ a hs2, allocS hs cnt = (0, (a, cnt), hs2) ∧ May 100 (a, cnt) ∧ (∀ x, Cov (a, cnt) x → F x) ∧ Is hs2 (fun i => F i ∧ ¬ Cov (a, cnt) i) 100 := by
          by_cases hc : cnt < 1
          · exact .inl ⟨1, allocS_arg hc, by decide⟩
          · rcases allocS_or q hc with ⟨e, _⟩ | ⟨a, hs2, e1, e2, e3, _, e5⟩
            · exact .inl ⟨2, e, by decide⟩
            · exact .inr ⟨a, hs2, e1, e2, e3, e5⟩
        rcases hal0 with ⟨d, hal, hd0⟩ | ⟨a, hs2, hal, hmay, hcov, q2⟩
        · have e1 : (d == 0) = false := by simpa using hd0
          have e2 : decide (d = 0) = false := decide_eq_false hd0
          clear q
          have HA := Aside0.mk fun (W : World) (g c : Nat) (h : MapAt W b g c 100 hs) => alloc_calls b g c 100 hs cnt W h HG.out
          simp only [hal] at HA
          clear hal hlt HF HG
          go_wp2_with (first
            | (go_at_call 11; rw [← HCNT.out]; refine (HA.out _ g c HW3.out.st.at_).mono ?_; rintro e w4 ⟨rfl, g4, c4, hm, hg, hmv⟩; have HW4 := Aside0.mk (HW3.out.moved hm hg hmv); have hX4 : CW w (w4.alloc (.cells #[.int .i64 0, .int .i64 0] 31)) b g4 c4 hs b3 hs A2 c2 := (HW3.out.moved hm hg hmv).then (below_alloc (Below.refl _ _) _); have HX4 := Aside0.mk hX4; clear hm hg hmv hX4)
            | (go_at_call 21; refine (holes_calls b g4 c4 100 hs _ HW6.out.st.at_ HL.out).mono ?_; rintro e w8 ⟨v8, rfl, hv, hb⟩; obtain ⟨A8, c8, hv_, hl_, hC_⟩ := Kd.R_reads hv; subst hv_; have HA8 := Aside0.mk hC_; have HL8 := Aside0.mk hl_; have HW8 := Aside0.mk (HW6.out.then hb); clear hv hb hl_ hC_)
            | (go_at_call 23; refine (same_hs hs HLB.out A8 A2 c8 c2 _ HA8.out HL8.out HW8.out.good.1 HW8.out.good.2).mono ?_; rintro e w9 ⟨rfl, hb⟩; have HW9 := Aside0.mk (HW8.out.then hb); clear hb)
            | (go_at_call 21; refine (holes_read b3 100 hs _ HX4.out.rd HL.out).mono ?_; rintro e w5 ⟨v5, rfl, hv, hb⟩; obtain ⟨A5, c5, hv_, hl_, hC_⟩ := Kd.R_reads hv; subst hv_; have HA5 := Aside0.mk hC_; have HL5 := Aside0.mk hl_; have HW5 := Aside0.mk (HX4.out.then hb); clear hv hb hl_ hC_)
            | (go_at_call 23; refine (same_hs hs HLB.out A5 A2 c5 c2 _ HA5.out HL5.out HW5.out.good.1 HW5.out.good.2).mono ?_; rintro e w6 ⟨rfl, hb⟩; have HW6 := Aside0.mk (HW5.out.then hb); clear hb)
            | (go_at_call 13; refine (awake_calls _).mono ?_; rintro e w10 ⟨rfl, hb⟩; have HB10 := Aside0.mk (below_then HW9.out.st.below HW9.out.st.below.size hb); clear hb)
            | (go_at_call 21; refine (holes_calls b g c 100 hs _ HS.out.at_ HL.out).mono ?_; rintro e w2 ⟨v2, rfl, hv, hb⟩; obtain ⟨A2, c2, hv2, _, _⟩ := Kd.R_reads hv; subst hv2; have HV2 := Aside0.mk hv; have HB2 := Aside0.mk hb; clear hv hb) | (go_at_call 22; refine (copy_calls b g c 100 hs _ (HS.out.then HB2.out).at_ HL.out).mono ?_; rintro e w3 ⟨b3, rfl, hcp⟩; have hW3 : CW w w3 b g c hs b3 hs A2 c2 := CW.start HS.out HV2.out HB2.out hcp; have HW3 := Aside0.mk hW3; clear hcp hW3))
          go_ret
          exact ⟨rfl, HB10.out⟩
        · skip
          obtain ⟨g3_, hg3_⟩ : ∃ x : Nat, x = 0 := ⟨0, rfl⟩
          have HA := Aside0.mk fun (W : World) (g c : Nat) (h : MapAt W b g c 100 hs) => alloc_calls b g c 100 hs cnt W h HG.out
          simp only [hal] at HA
          have HG2 : Aside0 (Good 100 hs2) := ⟨Good.of q2 (by decide) (by decide)⟩
          have HFR := Aside0.mk fun (W : World) (g c : Nat) (h : MapAt W b g c 100 hs2) => free_calls b g c 100 hs2 a cnt W h HG2.out
          simp only [free_back q hmay hcov q2] at HFR
          have HFA := Aside0.mk fun (W : World) (g c : Nat) (h : MapAt W b g c 100 hs) => free_calls b g c 100 hs a cnt W h HG.out
          simp only [free_again q hmay hcov] at HFA
          obtain ⟨hs3, htk, _⟩ := takeS_ok q hmay hcov
          have HTK := Aside0.mk fun (W : World) (b3 g3 c3 : Nat) (h : MapAt W b3 g3 c3 100 hs) => take_calls b3 g3 c3 100 hs a cnt W h HG.out
          simp only [htk] at HTK
          have HNE := Aside0.mk (cov_ne q hmay hcov)
          clear hal hlt HF HG g3_ hg3_ q2 hmay hcov q htk HG2
          go_wp2_with (first
            | (go_at_call 11; rw [← HCNT.out]; refine (HA.out _ g c HW3.out.st.at_).mono ?_; rintro e w4 ⟨rfl, g4, c4, hm, hg, hmv⟩; have hX4 : CW w (w4.alloc (.cells #[.int .i64 a, .int .i64 cnt] 31)) b g4 c4 hs2 b3 hs A2 c2 := (HW3.out.moved hm hg hmv).then (below_alloc (Below.refl _ _) _); have HX4 := Aside0.mk hX4; have HQ4 := Aside0.mk (new_blk w4 (.cells #[.int .i64 a, .int .i64 cnt] 31) w4.heap.size rfl); have HN4 : Aside0 (w4.heap.size ≠ b ∧ w4.heap.size ≠ g4) := ⟨Nat.ne_of_gt hm.lt.1, Nat.ne_of_gt hm.lt.2⟩; have k40 : (w4.alloc (.cells #[.int .i64 a, .int .i64 cnt] 31)).cell? ⟨w4.heap.size, 0, none⟩ = some (.int .i64 a) := (blk_cell HQ4.out 0).trans rfl; clear hm hg hmv hX4)
            | (go_at_call 9; refine (HFA.out _ g7 c7 HW9.out.st.at_).mono ?_; rintro e w10 ⟨rfl, g10, c10, hm, hg, hmv⟩; have HW10 := Aside0.mk (HW9.out.moved hm hg hmv); have hq := hmv.blk HQ9.out NX.out.1 NX.out.2; have k100 : w10.cell? ⟨w4.heap.size, 0, none⟩ = some (.int .i64 a) := (blk_cell hq 0).trans rfl; have k101 : w10.cell? ⟨w4.heap.size, 1, none⟩ = some (.int .i64 cnt) := (blk_cell hq 1).trans rfl; clear hm hg hmv hq)
            | (go_at_call 21; refine (holes_calls b g7 c7 100 hs _ HW7.out.st.at_ HL.out).mono ?_; rintro e w8 ⟨v8, rfl, hv, hb⟩; obtain ⟨A8, c8, hv_, hl_, hC_⟩ := Kd.R_reads hv; subst hv_; have HA8 := Aside0.mk hC_; have HL8 := Aside0.mk hl_; have HW8 := Aside0.mk (HW7.out.then hb); have HQ8 := Aside0.mk (blk_below HQ7.out hb); have k80 : w8.cell? ⟨w4.heap.size, 0, none⟩ = some (.int .i64 a) := (blk_cell (blk_below HQ7.out hb) 0).trans rfl; have k81 : w8.cell? ⟨w4.heap.size, 1, none⟩ = some (.int .i64 cnt) := (blk_cell (blk_below HQ7.out hb) 1).trans rfl; clear hv hb hl_ hC_)
            | (go_at_call 23; refine (same_hs hs HLB.out A8 A2 c8 c2 _ HA8.out HL8.out HW8.out.good.1 HW8.out.good.2).mono ?_; rintro e w9 ⟨rfl, hb⟩; have HW9 := Aside0.mk (HW8.out.then hb); have HQ9 := Aside0.mk (blk_below HQ8.out hb); have k90 : w9.cell? ⟨w4.heap.size, 0, none⟩ = some (.int .i64 a) := (blk_cell (blk_below HQ8.out hb) 0).trans rfl; have k91 : w9.cell? ⟨w4.heap.size, 1, none⟩ = some (.int .i64 cnt) := (blk_cell (blk_below HQ8.out hb) 1).trans rfl; clear hb)
            | (go_at_call 9; refine (HFR.out _ g4 c4 HW6.out.st.at_).mono ?_; rintro e w7 ⟨rfl, g7, c7, hm, hg, hmv⟩; have HW7 := Aside0.mk (HW6.out.moved hm hg hmv); have hnx : w4.heap.size ≠ b ∧ w4.heap.size ≠ g4 := ⟨N4.out.1, N4.out.2⟩; have hq := hmv.blk HQ6.out hnx.1 hnx.2; have HQ7 := Aside0.mk hq; have k70 : w7.cell? ⟨w4.heap.size, 0, none⟩ = some (.int .i64 a) := (blk_cell hq 0).trans rfl; have k71 : w7.cell? ⟨w4.heap.size, 1, none⟩ = some (.int .i64 cnt) := (blk_cell hq 1).trans rfl; have NX : Aside0 (w4.heap.size ≠ b ∧ w4.heap.size ≠ g7) := ⟨hnx.1, nx hnx.2 (blk_lt HQ6.out) hg⟩; clear hm hg hmv hq hnx)
            | (go_at_call 21; refine (holes_read b3 100 hs _ HX4.out.rd HL.out).mono ?_; rintro e w5 ⟨v5, rfl, hv, hb⟩; obtain ⟨A5, c5, hv_, hl_, hC_⟩ := Kd.R_reads hv; subst hv_; have HA5 := Aside0.mk hC_; have HL5 := Aside0.mk hl_; have HW5 := Aside0.mk (HX4.out.then hb); have HQ5 := Aside0.mk (blk_below HQ4.out hb); have k50 : w5.cell? ⟨w4.heap.size, 0, none⟩ = some (.int .i64 a) := (blk_cell (blk_below HQ4.out hb) 0).trans rfl; have k51 : w5.cell? ⟨w4.heap.size, 1, none⟩ = some (.int .i64 cnt) := (blk_cell (blk_below HQ4.out hb) 1).trans rfl; clear hv hb hl_ hC_)
            | (go_at_call 23; refine (same_hs hs HLB.out A5 A2 c5 c2 _ HA5.out HL5.out HW5.out.good.1 HW5.out.good.2).mono ?_; rintro e w6 ⟨rfl, hb⟩; have HW6 := Aside0.mk (HW5.out.then hb); have HQ6 := Aside0.mk (blk_below HQ5.out hb); have k60 : w6.cell? ⟨w4.heap.size, 0, none⟩ = some (.int .i64 a) := (blk_cell (blk_below HQ5.out hb) 0).trans rfl; have k61 : w6.cell? ⟨w4.heap.size, 1, none⟩ = some (.int .i64 cnt) := (blk_cell (blk_below HQ5.out hb) 1).trans rfl; have N4 : Aside0 (w4.heap.size ≠ b ∧ w4.heap.size ≠ g4) := ⟨HN4.out⟩; clear hb)
            | (go_at_call 18; obtain ⟨g3, c3, m3, n1, n2, n3⟩ := HW10.out.mp HNE.out; refine (HTK.out _ b3 g3 c3 m3).mono ?_; rintro e w11 ⟨rfl, g11, c11, hm, hg, hmv⟩; have HB11 := Aside0.mk (hmv.below HW10.out.st.below HW10.out.lo n3); clear hm hg hmv)
            | (go_at_call 13; refine (awake_calls _).mono ?_; rintro e w12 ⟨rfl, hb⟩; have HB12 := Aside0.mk (below_then HB11.out HB11.out.size hb); clear hb)
            | (go_at_call 21; refine (holes_calls b g c 100 hs _ HS.out.at_ HL.out).mono ?_; rintro e w2 ⟨v2, rfl, hv, hb⟩; obtain ⟨A2, c2, hv2, _, _⟩ := Kd.R_reads hv; subst hv2; have HV2 := Aside0.mk hv; have HB2 := Aside0.mk hb; clear hv hb) | (go_at_call 22; refine (copy_calls b g c 100 hs _ (HS.out.then HB2.out).at_ HL.out).mono ?_; rintro e w3 ⟨b3, rfl, hcp⟩; have hW3 : CW w w3 b g c hs b3 hs A2 c2 := CW.start HS.out HV2.out HB2.out hcp; have HW3 := Aside0.mk hW3; clear hcp hW3))
          go_ret
          exact ⟨rfl, HB12.out⟩
end Go.Proofs.Ytdchljjhajbehaa.Ex
