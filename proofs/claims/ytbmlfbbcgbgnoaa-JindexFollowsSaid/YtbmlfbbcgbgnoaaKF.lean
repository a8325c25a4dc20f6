-- Functions and laws: texts of the session's own and of the kit's print program, joined; what nothing names is left out.
import Derived.Test.YtbmlfbbcgbgnoaaKA
import Derived.Test.YtbmlfbbcgbgnoaaKE
import Derived.Test.YtbmlfbbcgbgnoaaKB
import Derived.Test.YtbmlfbbcgbgnoaaKC
import Derived.Test.YtbmlfbbcgbgnoaaKD
section
namespace Go.Proofs.Ytbmlfbbcgbgnoaa.Print
open Go.RowKit Go.Proofs.YtbmlfbbcgbgnoaaW.PrintWords Go.Proofs.YtbmlfbbcgbgnoaaW.PrintLast Go.Proofs.YtbmlfbbcgbgnoaaW.PrintMore
attribute [local go_sem] max2_int min2_int max_two min_two max_three min_three max_four min_four   -- for this text's walks alone
set_option linter.unusedVariables false
set_option linter.unusedSimpArgs false
attribute [local go_sem high] eqA79
/-! ### words_Spans: function 62 -/
mutual
def words_Spans.l0 : Nat → List Int → Int → Int → List (S79) → Option ((List (S79)) × Int)
 | 0, _, _, _, _ => none
 | k + 1, x19, x20, x21, x384000 => if x21 < x20 then (if 0 ≤ x21 then (if x21 < (x19.length : Int) then ((bits_Next.f k (rd x19 x21) 0).bind fun t385 => (words_Spans.l1 k x21 (rd x19 x21) t385 x19 x20 x21 x384000)) else (none)) else (none)) else (some (x384000, 0))
def words_Spans.l1 : Nat → Int → Int → Int → List Int → Int → Int → List (S79) → Option ((List (S79)) × Int)
 | 0, _, _, _, _, _, _, _ => none
 | k + 1, x16, x17, x18, x19, x20, x21, x384000 => if x18 ≥ 0 then (if (wrap64 ((x384000.length : Int) - 1)) ≥ 0 then (if 0 ≤ (wrap64 ((x384000.length : Int) - 1)) then (if (wrap64 ((x384000.length : Int) - 1)) < (x384000.length : Int) then (words_Spans.j2 k x16 x17 x18 x19 x20 x21 (wrap64 ((wrap64 (64 * x16)) + x18)) (wrap64 ((x384000.length : Int) - 1)) (((rd_T79 x384000 (wrap64 ((x384000.length : Int) - 1))).f1) == (wrap64 ((wrap64 (64 * x16)) + x18))) x384000) else (none)) else (none)) else (words_Spans.j2 k x16 x17 x18 x19 x20 x21 (wrap64 ((wrap64 (64 * x16)) + x18)) (wrap64 ((x384000.length : Int) - 1)) false x384000)) else (words_Spans.l0 k x19 x20 (wrap64 (x21 + 1)) x384000)
def words_Spans.j2 : Nat → Int → Int → Int → List Int → Int → Int → Int → Int → Bool → List (S79) → Option ((List (S79)) × Int)
 | 0, _, _, _, _, _, _, _, _, _, _ => none
 | k + 1, x16, x17, x18, x19, x20, x21, x42, x46, x60, x384000 => if x60 = true then (if 0 ≤ x46 then (if x46 < (x384000.length : Int) then ((bits_Next.f k x17 (wrap64 (x18 + 1))).bind fun t389 => (words_Spans.l1 k x16 x17 t389 x19 x20 x21 (x384000.set (x46 : Int).toNat (⟨(rd_T79 x384000 x46).f0, wrap64 (((rd_T79 x384000 x46).f1) + 1)⟩ : S79)))) else (none)) else (none)) else (if x384000.length < 8796093022208 then ((bits_Next.f k x17 (wrap64 (x18 + 1))).bind fun t393 => (words_Spans.l1 k x16 x17 t393 x19 x20 x21 (x384000 ++ [(⟨x42, wrap64 (x42 + 1)⟩ : S79)]))) else (none))
end
def words_Spans.f (k : Nat) (l0 : List Int) : Option ((List (S79)) × Int) := (words_May.f l0).bind fun t382 => (if t382 = true then (words_Spans.l0 k l0 (l0.length : Int) 0 ([] : List (S79))) else (some (([] : List (S79)), 1)))
theorem words_Spans.l0_succ (k : Nat) (x19 : List Int) (x20 : Int) (x21 : Int) (x384000 : List (S79)) : words_Spans.l0 (k + 1) x19 x20 x21 x384000 = (if x21 < x20 then (if 0 ≤ x21 then (if x21 < (x19.length : Int) then ((bits_Next.f k (rd x19 x21) 0).bind fun t385 => (words_Spans.l1 k x21 (rd x19 x21) t385 x19 x20 x21 x384000)) else (none)) else (none)) else (some (x384000, 0))) := by
 simp only [words_Spans.l0]
theorem words_Spans.l1_succ (k : Nat) (x16 : Int) (x17 : Int) (x18 : Int) (x19 : List Int) (x20 : Int) (x21 : Int) (x384000 : List (S79)) : words_Spans.l1 (k + 1) x16 x17 x18 x19 x20 x21 x384000 = (if x18 ≥ 0 then (if (wrap64 ((x384000.length : Int) - 1)) ≥ 0 then (if 0 ≤ (wrap64 ((x384000.length : Int) - 1)) then (if (wrap64 ((x384000.length : Int) - 1)) < (x384000.length : Int) then (words_Spans.j2 k x16 x17 x18 x19 x20 x21 (wrap64 ((wrap64 (64 * x16)) + x18)) (wrap64 ((x384000.length : Int) - 1)) (((rd_T79 x384000 (wrap64 ((x384000.length : Int) - 1))).f1) == (wrap64 ((wrap64 (64 * x16)) + x18))) x384000) else (none)) else (none)) else (words_Spans.j2 k x16 x17 x18 x19 x20 x21 (wrap64 ((wrap64 (64 * x16)) + x18)) (wrap64 ((x384000.length : Int) - 1)) false x384000)) else (words_Spans.l0 k x19 x20 (wrap64 (x21 + 1)) x384000)) := by
 simp only [words_Spans.l1]
theorem words_Spans.j2_succ (k : Nat) (x16 : Int) (x17 : Int) (x18 : Int) (x19 : List Int) (x20 : Int) (x21 : Int) (x42 : Int) (x46 : Int) (x60 : Bool) (x384000 : List (S79)) : words_Spans.j2 (k + 1) x16 x17 x18 x19 x20 x21 x42 x46 x60 x384000 = (if x60 = true then (if 0 ≤ x46 then (if x46 < (x384000.length : Int) then ((bits_Next.f k x17 (wrap64 (x18 + 1))).bind fun t389 => (words_Spans.l1 k x16 x17 t389 x19 x20 x21 (x384000.set (x46 : Int).toNat (⟨(rd_T79 x384000 x46).f0, wrap64 (((rd_T79 x384000 x46).f1) + 1)⟩ : S79)))) else (none)) else (none)) else (if x384000.length < 8796093022208 then ((bits_Next.f k x17 (wrap64 (x18 + 1))).bind fun t393 => (words_Spans.l1 k x16 x17 t393 x19 x20 x21 (x384000 ++ [(⟨x42, wrap64 (x42 + 1)⟩ : S79)]))) else (none))) := by
 simp only [words_Spans.j2]
set_option maxHeartbeats 8000000 in
set_option maxRecDepth 100000 in
theorem words_Spans.calls (k : Nat) (A0 : Option Addr) (c0 : Nat) (l0 : List Int) (r1 : List (S79)) (r2 : Int) (w : World) (hr0 : Kd.C (Kd.int .i64) w A0 l0.length l0) (hc0 : l0.length ≤ c0) (h : words_Spans.f k l0 = some (r1, r2)) :
  Calls Try.prog 62 #[.slice A0 l0.length c0] w fun e w' => ∃ v0_ : Value, e = .returned (.tuple #[v0_, .int .i64 r2]) ∧ Kd.R k79 79 w' w.heap.size (fun _ => True) v0_ r1 ∧ Below w.heap.size w w' := by
 have hmf : ∀ (fn : Fn) (first cap : Array Value) (w : World), (Instr.makeFunc fn first cap).run Try.prog w = .ok (.func fn first cap) w := fun _ _ _ _ => rfl
 have hu79 := Try.underlying79
 have HR0 := Aside0.mk hr0
 have HC0 := Aside0.mk hc0
 clear hr0 hc0
 have HB := Aside0.mk (Below.refl w.heap.size w)
 have H : ((words_May.f l0).bind fun t382 => (if t382 = true then (words_Spans.l0 k l0 (l0.length : Int) 0 ([] : List (S79))) else (some (([] : List (S79)), 1)))) = some (r1, r2) := h
 clear h
 replace H := Option.bind_eq_some_iff.mp H
 obtain ⟨t382, A20, H⟩ := H
 replace H : (if t382 = true then (words_Spans.l0 k l0 (l0.length : Int) 0 ([] : List (S79))) else (some (([] : List (S79)), 1))) = some (r1, r2) := H
 have A2 := Aside0.mk A20
 clear A20
 by_cases c3 : t382 = true
 ·subst c3
  have H1 : (words_Spans.l0 k l0 (l0.length : Int) 0 ([] : List (S79))) = some (r1, r2) := by rw [if_pos rfl] at H; exact H
  clear H
  have H := H1
  clear H1
  have H' := Aside0.mk H
  clear H
  go_enter Try.func62, Try.ntmps62
  go_wp2_with (first | ((with_reducible refine gate_callee (f := 91) rfl ?_); refine goesL_ (some 6) rfl rfl Try.func91 (by kernel_rfl) rfl #[.slice A0 l0.length c0] rfl (by (try simp only [List.map_toArray, List.map_cons, List.map_nil]); first | done | rfl) ?_; (with_reducible refine (words_May.calls _ _ l0 true _ ?side1 ?side2 A2.out).mono ?_); (case side1 => exact cx HR0.out); (case side2 => exact HC0.out); rintro e w' ⟨rfl, ⟨nd, rfl⟩⟩; refine ⟨_, rfl, ?_⟩) | ((with_reducible refine gate_dst (N := 4) rfl ?_); refine box_event ?hg (N := 4) ?hd (cs := #[.slice none 0 0]) (t := 49) ?hr ?_; (case hd => rfl); (case hg => rfl); (case hr => first | (go_simp; done) | (go_simp; rfl)); intro gb383 hg w4 hbox hb; have BK383 := Aside0.mk (hbox); have GW383 := bza HB hg; have GE383 := bza HB hg; replace HB := bsa HB hb; clear hb hbox hg) | go_in)
  repeat ((first | go_end0 | ((try simp only [Exit.inBlock, Exit.then]); refine bodyPost_ret (results_none rfl _ _ _) rfl ?_)); try go_wp2_with (first | ((with_reducible refine gate_callee (f := 91) rfl ?_); refine goesL_ (some 6) rfl rfl Try.func91 (by kernel_rfl) rfl #[.slice A0 l0.length c0] rfl (by (try simp only [List.map_toArray, List.map_cons, List.map_nil]); first | done | rfl) ?_; (with_reducible refine (words_May.calls _ _ l0 true _ ?side1 ?side2 A2.out).mono ?_); (case side1 => exact cx HR0.out); (case side2 => exact HC0.out); rintro e w' ⟨rfl, ⟨nd, rfl⟩⟩; refine ⟨_, rfl, ?_⟩) | ((with_reducible refine gate_dst (N := 4) rfl ?_); refine box_event ?hg (N := 4) ?hd (cs := #[.slice none 0 0]) (t := 49) ?hr ?_; (case hd => rfl); (case hg => rfl); (case hr => first | (go_simp; done) | (go_simp; rfl)); intro gb383 hg w4 hbox hb; have BK383 := Aside0.mk (hbox); have GW383 := bza HB hg; have GE383 := bza HB hg; replace HB := bsa HB hb; clear hb hbox hg) | go_in))
  go_loopg [9] k (fun kq v21 w' => ∃ (x21_1 : Int) (x384000_1 : List (S79)) (u384000 : Value), v21 = .int .i64 x21_1 ∧ Aside0 (words_Spans.l0 kq l0 (l0.length : Int) x21_1 x384000_1 = some (r1, r2)) ∧ Aside0 (kq ≤ k) ∧ Aside0 (Kd.R k79 79 w' w.heap.size (fun _ => True) u384000 x384000_1) ∧ Aside0 (w'.heap[gb383]? = some (.cells #[u384000] 49 (0, 0))) ∧ Aside0 (Below w.heap.size w w'))
  case atStart => exact ⟨(0), (([] : List (S79))), (.slice none 0 0), (by first | rfl | (simp; done) | (simp [*]; done)), H', ⟨Nat.le_refl _⟩, ⟨nl⟩, ⟨bx BK383.out⟩, ⟨bh HB.out⟩⟩
  case round =>
   clear H'
   try clear c3
   obtain ⟨x21_1, x384000_1, u384000, rfl, HA, HK1, HO_384000, BK383, HB⟩ := hrel
   cases gk with
   | zero => exact absurd HA.out (by simp [words_Spans.l0])
   | succ k1 =>
    have H := HA.out
    clear HA
    simp only [words_Spans.l0] at H
    by_cases c5 : x21_1 < (l0.length : Int)
    ·rw [if_pos c5] at H
     have c5b0 : decide (x21_1 < (l0.length : Int)) = true := decide_eq_true c5
     clear c5
     by_cases c6 : 0 ≤ x21_1
     ·rw [if_pos c6] at H
      have c6b0 : decide (0 ≤ x21_1) = true := decide_eq_true c6
      clear c6
      by_cases c7 : x21_1 < (l0.length : Int)
      ·rw [if_pos c7] at H
       have c7b0 : decide (x21_1 < (l0.length : Int)) = true := decide_eq_true c7
       clear c7
       replace H := Option.bind_eq_some_iff.mp H
       obtain ⟨t385, A80, H⟩ := H
       replace H : (words_Spans.l1 k1 x21_1 (rd l0 x21_1) t385 l0 (l0.length : Int) x21_1 x384000_1) = some (r1, r2) := H
       have A8 := Aside0.mk A80
       clear A80
       have H' := Aside0.mk H
       clear H
       have p384 : 0 ≤ (x21_1 : Int) := of_decide_eq_true (by assumption)
       have q384 : x21_1 < (l0.length : Int) := of_decide_eq_true (by assumption)
       obtain ⟨ad384, e384, hx384_0⟩ := Kd.at_int HR0.out x21_1 p384 q384
       cases e384
       replace hx384_0 := (HB.out.cell (World.block_lt_of_cell? w _ hx384_0)).trans hx384_0
       replace p384 := eq_true p384
       replace q384 := eq_true q384
       go_wp2_with (first | ((with_reducible refine gate_callee (f := 88) rfl ?_); refine goesL_ (some 15) rfl rfl Try.func88 (by kernel_rfl) rfl #[.int .i64 (rd l0 x21_1), .int .i64 0] rfl (by (try simp only [List.map_toArray, List.map_cons, List.map_nil]); first | done | rfl) ?_; (with_reducible refine (bits_Next.calls k1 (rd l0 x21_1) 0 t385 _ A8.out).mono ?_); rintro e w9 ⟨rfl, hb⟩; refine ⟨_, rfl, ?_⟩; replace HO_384000 := rba HO_384000 hb; replace BK383 := bba BK383 hb; replace HB := bsa HB hb; (try clear hb)) | go_in)
       repeat ((first | go_end0 | ((try simp only [Exit.inBlock, Exit.then]); refine bodyPost_ret (results_none rfl _ _ _) rfl ?_)); try go_wp2_with (first | ((with_reducible refine gate_callee (f := 88) rfl ?_); refine goesL_ (some 15) rfl rfl Try.func88 (by kernel_rfl) rfl #[.int .i64 (rd l0 x21_1), .int .i64 0] rfl (by (try simp only [List.map_toArray, List.map_cons, List.map_nil]); first | done | rfl) ?_; (with_reducible refine (bits_Next.calls k1 (rd l0 x21_1) 0 t385 _ A8.out).mono ?_); rintro e w9 ⟨rfl, hb⟩; refine ⟨_, rfl, ?_⟩; replace HO_384000 := rba HO_384000 hb; replace BK383 := bba BK383 hb; replace HB := bsa HB hb; (try clear hb)) | go_in))
       go_loopg [6] k1 (fun kq v18 w' => ∃ (x18_2 : Int) (x384000_2 : List (S79)) (u384000 : Value), v18 = .int .i64 x18_2 ∧ Aside0 (words_Spans.l1 kq x21_1 (rd l0 x21_1) x18_2 l0 (l0.length : Int) x21_1 x384000_2 = some (r1, r2)) ∧ Aside0 (kq ≤ k1) ∧ Aside0 (Kd.R k79 79 w' w.heap.size (fun _ => True) u384000 x384000_2) ∧ Aside0 (w'.heap[gb383]? = some (.cells #[u384000] 49 (0, 0))) ∧ Aside0 (Below w.heap.size w w'))
       case atStart => exact ⟨(t385), (x384000_1), (u384000), (by first | rfl | (simp; done) | (simp [*]; done)), H', ⟨Nat.le_refl _⟩, ⟨by (with_reducible repeat (first | apply Kd.R_alloc | apply Kd.R_drewN | apply Kd.R_drew)); exact HO_384000.out⟩, ⟨bx BK383.out⟩, ⟨bh HB.out⟩⟩
       case round =>
        clear H'
        try clear c3
        try clear c5
        try clear c5b0
        try clear c6
        try clear c6b0
        try clear c7
        try clear c7b0
        try clear hx384_0
        try clear p384
        try clear q384
        obtain ⟨x18_2, x384000_2, u384000, rfl, HA, HK2, HO_384000, BK383, HB⟩ := hrel
        cases gk with
        | zero => exact absurd HA.out (by simp [words_Spans.l1])
        | succ k2 =>
         have H := HA.out
         clear HA
         simp only [words_Spans.l1] at H
         by_cases c10 : x18_2 ≥ 0
         ·rw [if_pos c10] at H
          have c10b0 : decide (0 ≤ x18_2) = true := decide_eq_true c10
          clear c10
          have HC11 := Aside0.mk H
          clear H
          have hcz12_0 : wr.cell? ⟨gb383, 0, none⟩ = some (u384000) := (blk_cell BK383.out 0).trans rfl
          have hfz12_0 := blk_frozen BK383.out 0
          obtain ⟨Ao13, co13, eo13⟩ := Kd.R_slice HO_384000.out
          subst eo13
          go_upto_region 2 with (go_in)
          go_cut [18] (fun v60 wc => ∃ (kq : Nat) (x60_10 : Bool), v60 = .bool x60_10 ∧ Aside0 (words_Spans.j2 kq x21_1 (rd l0 x21_1) x18_2 l0 (l0.length : Int) x21_1 (wrap64 ((wrap64 (64 * x21_1)) + x18_2)) (wrap64 ((x384000_2.length : Int) - 1)) x60_10 x384000_2 = some (r1, r2)) ∧ Aside0 (kq ≤ k2) ∧ Aside0 (Kd.R k79 79 wc w.heap.size (fun _ => True) (.slice Ao13 x384000_2.length co13) x384000_2) ∧ Aside0 (wc.heap[gb383]? = some (.cells #[(.slice Ao13 x384000_2.length co13)] 49 (0, 0))) ∧ Aside0 (Below w.heap.size w wc))
          case first =>
           have H := HC11.out
           clear HC11
           by_cases c14 : (wrap64 ((x384000_2.length : Int) - 1)) ≥ 0
           ·rw [if_pos c14] at H
            have c14b0 : decide (0 ≤ (wrap64 ((x384000_2.length : Int) - 1))) = true := decide_eq_true c14
            clear c14
            (first | rw [c14b0] | (simp only [i64_w, i32_w]; rw [c14b0]) | skip)
            obtain ⟨ji15, hji15⟩ : ∃ j_ : Int, (wrap64 ((x384000_2.length : Int) - 1)) = j_ := ⟨_, rfl⟩
            replace H : (if 0 ≤ (ji15) then (if (ji15) < (x384000_2.length : Int) then (words_Spans.j2 k2 x21_1 (rd l0 x21_1) x18_2 l0 (l0.length : Int) x21_1 (wrap64 ((wrap64 (64 * x21_1)) + x18_2)) ji15 (((rd_T79 x384000_2 (ji15)).f1) == (wrap64 ((wrap64 (64 * x21_1)) + x18_2))) x384000_2) else (none)) else (none)) = some (r1, r2) := by first | (rw [hji15] at H; exact H) | (simp only [hji15] at H ⊢; exact H)
            (try rw [hji15] at c14b0)
            have hji15w : (IntKind.i64.wrap ((x384000_2.length : Int) - 1)) = ji15 := (i64_w _).trans hji15
            by_cases c16 : 0 ≤ (ji15)
            ·rw [if_pos c16] at H
             have c16b0 : decide (0 ≤ (ji15)) = true := decide_eq_true c16
             clear c16
             by_cases c17 : (ji15) < (x384000_2.length : Int)
             ·rw [if_pos c17] at H
              have c17b0 : decide ((ji15) < (x384000_2.length : Int)) = true := decide_eq_true c17
              clear c17
              have H' := Aside0.mk H
              clear H
              have hcz18_0 : wr.cell? ⟨gb383, 0, none⟩ = some (.slice Ao13 x384000_2.length co13) := (blk_cell BK383.out 0).trans rfl
              have hfz18_0 := blk_frozen BK383.out 0
              have p386 : 0 ≤ ((ji15) : Int) := of_decide_eq_true (by assumption)
              have q386 : (ji15) < (x384000_2.length : Int) := of_decide_eq_true (by assumption)
              obtain ⟨ad386, e386, hx386_0, hx386_1⟩ := at_T79 (Kd.R_reads' HO_384000.out).2.2 (ji15) p386 q386
              cases e386
              replace p386 := eq_true p386
              replace q386 := eq_true q386
              go_wp2
              repeat ((first | go_end0 | ((try simp only [Exit.inBlock, Exit.then]); refine bodyPost_ret (results_none rfl _ _ _) rfl ?_)); go_wp2)
              go_meet
              case rel => exact ⟨_, ((((rd_T79 x384000_2 (ji15)).f1) == (wrap64 ((wrap64 (64 * x21_1)) + x18_2)))), (by first | rfl | (simp; done) | (simp only [← hji15] <;> (first | rfl | simp)) | (simp [*]; done)), (by first | exact H' | (simp only [hji15]; exact H')), ⟨by have := HK1.out; have := HK2.out; first | omega | exact Nat.le_refl _⟩, ⟨by (with_reducible repeat (first | apply Kd.R_alloc | apply Kd.R_drewN | apply Kd.R_drew)); exact HO_384000.out⟩, ⟨bx BK383.out⟩, ⟨bh HB.out⟩⟩
             ·rw [if_neg c17] at H
              exact absurd H (by simp)
            ·rw [if_neg c16] at H
             exact absurd H (by simp)
           ·rw [if_neg c14] at H
            have c14b0 : decide (0 ≤ (wrap64 ((x384000_2.length : Int) - 1))) = false := decide_eq_false c14
            clear c14
            (first | rw [c14b0] | (simp only [i64_w, i32_w]; rw [c14b0]) | skip)
            have H' := Aside0.mk H
            clear H
            go_wp2
            repeat ((first | go_end0 | ((try simp only [Exit.inBlock, Exit.then]); refine bodyPost_ret (results_none rfl _ _ _) rfl ?_)); go_wp2)
            go_meet
            case rel => exact ⟨_, (false), (by first | rfl | (simp; done) | (simp [*]; done)), H', ⟨by have := HK1.out; have := HK2.out; first | omega | exact Nat.le_refl _⟩, ⟨by (with_reducible repeat (first | apply Kd.R_alloc | apply Kd.R_drewN | apply Kd.R_drew)); exact HO_384000.out⟩, ⟨bx BK383.out⟩, ⟨bh HB.out⟩⟩
          case rest =>
           clear HC11
           try clear c3
           try clear c5
           try clear c5b0
           try clear c6
           try clear c6b0
           try clear c7
           try clear c7b0
           try clear c10
           try clear c10b0
           try clear c14
           try clear c14b0
           try clear c16
           try clear c16b0
           try clear c17
           try clear c17b0
           try clear hcz12_0
           try clear hcz18_0
           try clear hfz12_0
           try clear hfz18_0
           try clear hx384_0
           try clear hx386_0
           try clear hx386_1
           try clear p384
           try clear p386
           try clear q384
           try clear q386
           obtain ⟨kq, x60_10, rfl, HA, HJ10, HO_384000, BK383, HB⟩ := hcut
           cases kq with
           | zero => exact absurd HA.out (by simp [words_Spans.j2])
           | succ kj10 =>
            have H := HA.out
            clear HA
            simp only [words_Spans.j2] at H
            by_cases c19 : x60_10 = true
            ·subst c19
             have H1 : (if 0 ≤ (wrap64 ((x384000_2.length : Int) - 1)) then (if (wrap64 ((x384000_2.length : Int) - 1)) < (x384000_2.length : Int) then ((bits_Next.f kj10 (rd l0 x21_1) (wrap64 (x18_2 + 1))).bind fun t389 => (words_Spans.l1 kj10 x21_1 (rd l0 x21_1) t389 l0 (l0.length : Int) x21_1 (x384000_2.set ((wrap64 ((x384000_2.length : Int) - 1)) : Int).toNat (⟨(rd_T79 x384000_2 (wrap64 ((x384000_2.length : Int) - 1))).f0, wrap64 (((rd_T79 x384000_2 (wrap64 ((x384000_2.length : Int) - 1))).f1) + 1)⟩ : S79)))) else (none)) else (none)) = some (r1, r2) := by rw [if_pos rfl] at H; exact H
             clear H
             have H := H1
             clear H1
             obtain ⟨ji20, hji20⟩ : ∃ j_ : Int, (wrap64 ((x384000_2.length : Int) - 1)) = j_ := ⟨_, rfl⟩
             replace H : (if 0 ≤ (ji20) then (if (ji20) < (x384000_2.length : Int) then ((bits_Next.f kj10 (rd l0 x21_1) (wrap64 (x18_2 + 1))).bind fun t389 => (words_Spans.l1 kj10 x21_1 (rd l0 x21_1) t389 l0 (l0.length : Int) x21_1 (x384000_2.set ((ji20) : Int).toNat (⟨(rd_T79 x384000_2 (ji20)).f0, wrap64 (((rd_T79 x384000_2 (ji20)).f1) + 1)⟩ : S79)))) else (none)) else (none)) = some (r1, r2) := by first | (rw [hji20] at H; exact H) | (simp only [hji20] at H ⊢; exact H)
             have hji20w : (IntKind.i64.wrap ((x384000_2.length : Int) - 1)) = ji20 := (i64_w _).trans hji20
             by_cases c21 : 0 ≤ (ji20)
             ·rw [if_pos c21] at H
              have c21b0 : decide (0 ≤ (ji20)) = true := decide_eq_true c21
              clear c21
              by_cases c22 : (ji20) < (x384000_2.length : Int)
              ·rw [if_pos c22] at H
               have c22b0 : decide ((ji20) < (x384000_2.length : Int)) = true := decide_eq_true c22
               clear c22
               obtain ⟨y388, hy388⟩ : ∃ y_ : List (S79), y_ = (x384000_2.set ((ji20) : Int).toNat (⟨(rd_T79 x384000_2 (ji20)).f0, wrap64 (((rd_T79 x384000_2 (ji20)).f1) + 1)⟩ : S79)) := ⟨_, rfl⟩
               replace H : ((bits_Next.f kj10 (rd l0 x21_1) (wrap64 (x18_2 + 1))).bind fun t389 => (words_Spans.l1 kj10 x21_1 (rd l0 x21_1) t389 l0 (l0.length : Int) x21_1 y388)) = some (r1, r2) := by first | (rw [hy388]; with_reducible exact H) | (have H2_ := (Option.bind_some _ _).symm.trans H; rw [hy388]; with_reducible exact H2_) | (have H2_ := (Option.bind_some _ _).symm.trans H; with_reducible exact H2_) | with_reducible exact H | (rw [hy388]; exact H) | exact H
               have Ny388 := Aside0.mk hy388
               clear hy388
               replace H := Option.bind_eq_some_iff.mp H
               obtain ⟨t389, A240, H⟩ := H
               replace H : (words_Spans.l1 kj10 x21_1 (rd l0 x21_1) t389 l0 (l0.length : Int) x21_1 y388) = some (r1, r2) := H
               have A24 := Aside0.mk A240
               clear A240
               have H' := Aside0.mk H
               clear H
               have hcz25_0 : wc.cell? ⟨gb383, 0, none⟩ = some (.slice Ao13 x384000_2.length co13) := (blk_cell BK383.out 0).trans rfl
               have hfz25_0 := blk_frozen BK383.out 0
               have p387 : 0 ≤ ((ji20) : Int) := of_decide_eq_true (by assumption)
               have q387 : (ji20) < (x384000_2.length : Int) := of_decide_eq_true (by assumption)
               obtain ⟨ad387, e387, hx387_0, hx387_1⟩ := at_T79 (Kd.R_reads' HO_384000.out).2.2 (ji20) p387 q387
               cases e387
               replace p387 := eq_true p387
               replace q387 := eq_true q387
               have p23 : 0 ≤ ((ji20) : Int) := of_decide_eq_true (by assumption)
               have q23 : ((ji20) : Int) < ((x384000_2.length : Int) : Int) := of_decide_eq_true (by assumption)
               obtain ⟨go23, co23, eo23, gb23, gl23, cl23, HG23⟩ := Kd.R_form HO_384000.out (by omega)
               (first | cases eo23 | (injection eo23 with ea_ en_ ec_; (first | subst ea_ | (injection ea_ with ea_; subst ea_)); subst ec_; clear en_))
               have GB23 := Aside0.mk gb23
               have GG23 := Aside0.mk HG23
               clear gb23 gl23 HG23
               (first | simp only [add_plain] at hx387_0 | skip)
               (first | simp only [add_plain] at hx387_1 | skip)
               obtain ⟨ce23, hcl23, hM23, hcc23, hfr23⟩ := Kd.R_elem HO_384000.out z79 ((ji20) : Int) p23 q23
               obtain rfl := k79_openM hM23
               have hx23_0 : wc.cell? ⟨go23, ((ji20) : Int).toNat * 2, none⟩ = some (.int .i64 ((rd_T79 x384000_2 (ji20)).f0)) := hcc23 0 _ rfl
               have hx23_1 : wc.cell? ⟨go23, ((ji20) : Int).toNat * 2 + 1, none⟩ = some (.int .i64 ((rd_T79 x384000_2 (ji20)).f1)) := hcc23 1 _ rfl
               have hf23_0 : wc.frozen? ⟨go23, ((ji20) : Int).toNat * 2, none⟩ = false := hfr23 0
               have hf23_1 : wc.frozen? ⟨go23, ((ji20) : Int).toNat * 2 + 1, none⟩ = false := hfr23 1
               clear hcl23 hcc23 hfr23 hM23
               replace p23 := eq_true p23
               replace q23 := eq_true q23
               have HX26 := Aside0.mk (show Kd.R k79 79 wc w.heap.size (fun _ => True) (.slice (some ⟨go23, 0, none⟩) x384000_2.length co13) x384000_2 from (rx HO_384000.out))
               obtain ⟨ce26, hcl26, hM26, hcc26, hfr26⟩ := Kd.R_elem HX26.out z79 ((ji20) : Int) (of_decide_eq_true (by assumption)) (by have h_ : ((ji20) : Int) < ((x384000_2.length : Int) : Int) := of_decide_eq_true (by assumption); first | exact h_ | (have e_ := (Kd.R_reads' HO_384000.out).1; omega) | simpa using h_)
               obtain rfl := k79_openM hM26
               have HP26 := Kd.R_seg HX26.out ((ji20) : Int) (of_decide_eq_true (by assumption)) (by have h_ : ((ji20) : Int) < ((x384000_2.length : Int) : Int) := of_decide_eq_true (by assumption); first | exact h_ | (have e_ := (Kd.R_reads' HO_384000.out).1; omega) | simpa using h_) (seg := [.int .i64 (wrap64 (((rd_T79 x384000_2 (ji20)).f1) + 1))]) (j := 1) hcl26 hcc26 (show 2 ≤ 2 from by decide) (x' := (⟨(rd_T79 x384000_2 (ji20)).f0, wrap64 (((rd_T79 x384000_2 (ji20)).f1) + 1)⟩ : S79)) (k79_mkM _ _ _ (⟨(rd_T79 x384000_2 (ji20)).f0, wrap64 (((rd_T79 x384000_2 (ji20)).f1) + 1)⟩ : S79) ) (fun _ hk => hk)
               have hx26_1 := hcc26 1 _ rfl
               (try simp only [show (k79).sz = 2 from rfl, Nat.mul_one, Nat.add_zero] at hx26_1)
               have hf26_1 := hfr26 1
               (try simp only [show (k79).sz = 2 from rfl, Nat.mul_one, Nat.add_zero] at hf26_1)
               clear hcl26 hcc26 hfr26 hM26
               go_wp2_with (first | ((with_reducible refine gate_store (t := 3) (p := 26) rfl ?_); refine store_event (t := 3) (p := 26) (v := ?vo_w27) (w1 := (wc.setCell ⟨go23, ((ji20) : Int).toNat * 2 + 1, none⟩ (.int .i64 (wrap64 (((rd_T79 x384000_2 (ji20)).f1) + 1))))) ?hg ?ho ?hn ?hr ?_; (case ho => rfl); (case hg => rfl); (case hn => rfl); (case hr => first | (go_simp; done) | (go_simp; rfl)); intro w27 hw; have hg : wc.grownBy w27 (some go23) := (by rw [hw]; exact HP26.2); have hp_ : Kd.R k79 79 w27 w.heap.size (fun _ => True) (.slice (some ⟨go23, 0, none⟩) x384000_2.length co13) y388 := (by rw [hw, Ny388.out]; exact HP26.1); clear HP26; replace BK383 := Aside0.mk (blk_grown (g := gb383) (o := .cells #[.slice (some ⟨go23, 0, none⟩) x384000_2.length co13] 49 (0, 0)) (bx BK383.out) hg (Kd.R_ne HO_384000.out BK383.out (by decide))); replace HO_384000 := Aside0.mk (hp_); replace HB := Aside0.mk ((by rw [hw]; exact below_set (HB.out) GB23.out : Below w.heap.size w w27)); clear hg hw hp_) | ((with_reducible refine gate_callee (f := 88) rfl ?_); refine goesL_ (some 21) rfl rfl Try.func88 (by kernel_rfl) rfl #[.int .i64 (rd l0 x21_1), .int .i64 (wrap64 (x18_2 + 1))] rfl (by (try simp only [List.map_toArray, List.map_cons, List.map_nil]); first | done | rfl) ?_; (with_reducible refine (bits_Next.calls kj10 (rd l0 x21_1) (wrap64 (x18_2 + 1)) t389 _ A24.out).mono ?_); rintro e w28 ⟨rfl, hb⟩; refine ⟨_, rfl, ?_⟩; replace HO_384000 := rba HO_384000 hb; replace BK383 := bba BK383 hb; replace HB := bsa HB hb; (try clear hb)) | go_in)
               repeat ((first | go_end0 | ((try simp only [Exit.inBlock, Exit.then]); refine bodyPost_ret (results_none rfl _ _ _) rfl ?_)); try go_wp2_with (first | ((with_reducible refine gate_store (t := 3) (p := 26) rfl ?_); refine store_event (t := 3) (p := 26) (v := ?vo_w27) (w1 := (wc.setCell ⟨go23, ((ji20) : Int).toNat * 2 + 1, none⟩ (.int .i64 (wrap64 (((rd_T79 x384000_2 (ji20)).f1) + 1))))) ?hg ?ho ?hn ?hr ?_; (case ho => rfl); (case hg => rfl); (case hn => rfl); (case hr => first | (go_simp; done) | (go_simp; rfl)); intro w27 hw; have hg : wc.grownBy w27 (some go23) := (by rw [hw]; exact HP26.2); have hp_ : Kd.R k79 79 w27 w.heap.size (fun _ => True) (.slice (some ⟨go23, 0, none⟩) x384000_2.length co13) y388 := (by rw [hw, Ny388.out]; exact HP26.1); clear HP26; replace BK383 := Aside0.mk (blk_grown (g := gb383) (o := .cells #[.slice (some ⟨go23, 0, none⟩) x384000_2.length co13] 49 (0, 0)) (bx BK383.out) hg (Kd.R_ne HO_384000.out BK383.out (by decide))); replace HO_384000 := Aside0.mk (hp_); replace HB := Aside0.mk ((by rw [hw]; exact below_set (HB.out) GB23.out : Below w.heap.size w w27)); clear hg hw hp_) | ((with_reducible refine gate_callee (f := 88) rfl ?_); refine goesL_ (some 21) rfl rfl Try.func88 (by kernel_rfl) rfl #[.int .i64 (rd l0 x21_1), .int .i64 (wrap64 (x18_2 + 1))] rfl (by (try simp only [List.map_toArray, List.map_cons, List.map_nil]); first | done | rfl) ?_; (with_reducible refine (bits_Next.calls kj10 (rd l0 x21_1) (wrap64 (x18_2 + 1)) t389 _ A24.out).mono ?_); rintro e w28 ⟨rfl, hb⟩; refine ⟨_, rfl, ?_⟩; replace HO_384000 := rba HO_384000 hb; replace BK383 := bba BK383 hb; replace HB := bsa HB hb; (try clear hb)) | go_in))
               go_roundg kj10
               case measure => have := HK1.out; have := HK2.out; have := HJ10.out; omega
               case rel => exact ⟨(t389), (y388), (.slice (some ⟨go23, 0, none⟩) x384000_2.length co13), (by first | rfl | (simp; done) | (simp [*]; done)), (by first | exact H' | (simp only [hji20]; exact H')), ⟨by have := HK1.out; have := HK2.out; have := HJ10.out; omega⟩, ⟨by (with_reducible repeat (first | apply Kd.R_alloc | apply Kd.R_drewN | apply Kd.R_drew)); exact HO_384000.out⟩, ⟨bx BK383.out⟩, ⟨bh HB.out⟩⟩
              ·rw [if_neg c22] at H
               exact absurd H (by simp)
             ·rw [if_neg c21] at H
              exact absurd H (by simp)
            ·replace c19 := Bool.eq_false_iff.mpr c19
             subst c19
             have H1 : (if x384000_2.length < 8796093022208 then ((bits_Next.f kj10 (rd l0 x21_1) (wrap64 (x18_2 + 1))).bind fun t393 => (words_Spans.l1 kj10 x21_1 (rd l0 x21_1) t393 l0 (l0.length : Int) x21_1 (x384000_2 ++ [(⟨(wrap64 ((wrap64 (64 * x21_1)) + x18_2)), wrap64 ((wrap64 ((wrap64 (64 * x21_1)) + x18_2)) + 1)⟩ : S79)]))) else (none)) = some (r1, r2) := by rw [if_neg (show ¬ (false = true) by decide)] at H; exact H
             clear H
             have H := H1
             clear H1
             by_cases c29 : x384000_2.length < 8796093022208
             ·rw [if_pos c29] at H
              have LMc29 := Aside0.mk c29
              clear c29
              obtain ⟨y390, hy390⟩ : ∃ y_ : List (S79), y_ = (x384000_2 ++ [(⟨(wrap64 ((wrap64 (64 * x21_1)) + x18_2)), wrap64 ((wrap64 ((wrap64 (64 * x21_1)) + x18_2)) + 1)⟩ : S79)]) := ⟨_, rfl⟩
              replace H : ((bits_Next.f kj10 (rd l0 x21_1) (wrap64 (x18_2 + 1))).bind fun t393 => (words_Spans.l1 kj10 x21_1 (rd l0 x21_1) t393 l0 (l0.length : Int) x21_1 y390)) = some (r1, r2) := by first | (rw [hy390]; with_reducible exact H) | (have H2_ := (Option.bind_some _ _).symm.trans H; rw [hy390]; with_reducible exact H2_) | (have H2_ := (Option.bind_some _ _).symm.trans H; with_reducible exact H2_) | with_reducible exact H | (rw [hy390]; exact H) | exact H
              have Ny390 := Aside0.mk hy390
              clear hy390
              replace H := Option.bind_eq_some_iff.mp H
              obtain ⟨t393, A300, H⟩ := H
              replace H : (words_Spans.l1 kj10 x21_1 (rd l0 x21_1) t393 l0 (l0.length : Int) x21_1 y390) = some (r1, r2) := H
              have A30 := Aside0.mk A300
              clear A300
              have H' := Aside0.mk H
              clear H
              have hcz31_0 : wc.cell? ⟨gb383, 0, none⟩ = some (.slice Ao13 x384000_2.length co13) := (blk_cell BK383.out 0).trans rfl
              have hfz31_0 := blk_frozen BK383.out 0
              go_wp2_with (first | ((with_reducible refine gate_builtin (b := .append) (xs := #[.tmp 27, .tmp 32]) rfl ?_); at_builtin; refine Kd.R_append k79 (w0 := w) w.heap.size rfl (.tmp 27) (.tmp 32) 49 79 (.agg #[(.int .i64 0), (.int .i64 0)]) 16 rfl Try.underlying49 info79 rfl (by decide) (by omega) (.slice Ao13 x384000_2.length co13) x384000_2 (⟨(wrap64 ((wrap64 (64 * x21_1)) + x18_2)), wrap64 ((wrap64 ((wrap64 (64 * x21_1)) + x18_2)) + 1)⟩ : S79) [.int .i64 (wrap64 ((wrap64 (64 * x21_1)) + x18_2)), .int .i64 (wrap64 ((wrap64 ((wrap64 (64 * x21_1)) + x18_2)) + 1))] (fun _ => True) (fun _ => False) rfl rfl ?aP (fun _ hk => hk.elim) ?aF ?aO ?aB ?aS ?aL ?_; (case aP => exact k79_mkM _ _ _ (⟨(wrap64 ((wrap64 (64 * x21_1)) + x18_2)), wrap64 ((wrap64 ((wrap64 (64 * x21_1)) + x18_2)) + 1)⟩ : S79)); (case aB => exact (bh HB.out)); (case aF => exact (fun _ _ => trivial)); (case aO => exact (rx HO_384000.out)); (case aS => exact (below_size (bh HB.out))); (case aL => have := LMc29.out; omega); intro v391 w32 ho hb hg hat; rw [← Ny390.out] at ho; have n0_ := Aside0.mk (blk_grown (g := gb383) (o := .cells #[.slice Ao13 x384000_2.length co13] 49 (0, 0)) (bx BK383.out) hg (Kd.R_ne HO_384000.out BK383.out (by decide))); have n1_ := Aside0.mk (hb); have n2_ := Aside0.mk (ho); clear BK383 HB HO_384000; have BK383 := n0_; have HB := n1_; have HO392 := n2_; clear n0_ n1_ n2_; clear ho hb hg hat; obtain ⟨Ao33, co33, eo33⟩ := Kd.R_slice HO392.out; subst eo33; have hcz34_0 : w32.cell? ⟨gb383, 0, none⟩ = some (.slice Ao13 x384000_2.length co13) := (blk_cell BK383.out 0).trans rfl; have hfz34_0 := blk_frozen BK383.out 0) | ((with_reducible refine gate_callee (f := 88) rfl ?_); refine goesL_ (some 21) rfl rfl Try.func88 (by kernel_rfl) rfl #[.int .i64 (rd l0 x21_1), .int .i64 (wrap64 (x18_2 + 1))] rfl (by (try simp only [List.map_toArray, List.map_cons, List.map_nil]); first | done | rfl) ?_; (with_reducible refine (bits_Next.calls kj10 (rd l0 x21_1) (wrap64 (x18_2 + 1)) t393 _ A30.out).mono ?_); rintro e w35 ⟨rfl, hb⟩; refine ⟨_, rfl, ?_⟩; replace HO392 := Aside0.mk (Kd.R_below (by (with_reducible repeat (first | apply Kd.R_alloc | apply Kd.R_drewN | apply Kd.R_drew)); exact (Kd.R_mono (Kd.R_far (p := ⟨gb383, 0, none⟩) (Kd.R_types HO392.out BK383.out (by decide)) (fun _ hk => hk.2) (.slice Ao33 y390.length co33)) (fun _ h_ => h_.1))) hb); replace BK383 := Aside0.mk (blk_below (g := gb383) (o := .cells #[.slice Ao33 y390.length co33] 49 (0, 0)) (by (with_reducible repeat (first | refine blk_drewN ?_ _ | refine blk_drew ?_ | refine blk_alloc ?_ _)); refine blk_put (cs := #[.slice Ao13 x384000_2.length co13]) ?_ 0 _ rfl; (with_reducible repeat (first | refine blk_drewN ?_ _ | refine blk_drew ?_ | refine blk_alloc ?_ _)); exact BK383.out) hb); replace HB := bsa HB hb; (try clear hb); (try clear hk)) | go_in)
              repeat ((first | go_end0 | ((try simp only [Exit.inBlock, Exit.then]); refine bodyPost_ret (results_none rfl _ _ _) rfl ?_)); try go_wp2_with (first | ((with_reducible refine gate_builtin (b := .append) (xs := #[.tmp 27, .tmp 32]) rfl ?_); at_builtin; refine Kd.R_append k79 (w0 := w) w.heap.size rfl (.tmp 27) (.tmp 32) 49 79 (.agg #[(.int .i64 0), (.int .i64 0)]) 16 rfl Try.underlying49 info79 rfl (by decide) (by omega) (.slice Ao13 x384000_2.length co13) x384000_2 (⟨(wrap64 ((wrap64 (64 * x21_1)) + x18_2)), wrap64 ((wrap64 ((wrap64 (64 * x21_1)) + x18_2)) + 1)⟩ : S79) [.int .i64 (wrap64 ((wrap64 (64 * x21_1)) + x18_2)), .int .i64 (wrap64 ((wrap64 ((wrap64 (64 * x21_1)) + x18_2)) + 1))] (fun _ => True) (fun _ => False) rfl rfl ?aP (fun _ hk => hk.elim) ?aF ?aO ?aB ?aS ?aL ?_; (case aP => exact k79_mkM _ _ _ (⟨(wrap64 ((wrap64 (64 * x21_1)) + x18_2)), wrap64 ((wrap64 ((wrap64 (64 * x21_1)) + x18_2)) + 1)⟩ : S79)); (case aB => exact (bh HB.out)); (case aF => exact (fun _ _ => trivial)); (case aO => exact (rx HO_384000.out)); (case aS => exact (below_size (bh HB.out))); (case aL => have := LMc29.out; omega); intro v391 w32 ho hb hg hat; rw [← Ny390.out] at ho; have n0_ := Aside0.mk (blk_grown (g := gb383) (o := .cells #[.slice Ao13 x384000_2.length co13] 49 (0, 0)) (bx BK383.out) hg (Kd.R_ne HO_384000.out BK383.out (by decide))); have n1_ := Aside0.mk (hb); have n2_ := Aside0.mk (ho); clear BK383 HB HO_384000; have BK383 := n0_; have HB := n1_; have HO392 := n2_; clear n0_ n1_ n2_; clear ho hb hg hat; obtain ⟨Ao33, co33, eo33⟩ := Kd.R_slice HO392.out; subst eo33; have hcz34_0 : w32.cell? ⟨gb383, 0, none⟩ = some (.slice Ao13 x384000_2.length co13) := (blk_cell BK383.out 0).trans rfl; have hfz34_0 := blk_frozen BK383.out 0) | ((with_reducible refine gate_callee (f := 88) rfl ?_); refine goesL_ (some 21) rfl rfl Try.func88 (by kernel_rfl) rfl #[.int .i64 (rd l0 x21_1), .int .i64 (wrap64 (x18_2 + 1))] rfl (by (try simp only [List.map_toArray, List.map_cons, List.map_nil]); first | done | rfl) ?_; (with_reducible refine (bits_Next.calls kj10 (rd l0 x21_1) (wrap64 (x18_2 + 1)) t393 _ A30.out).mono ?_); rintro e w35 ⟨rfl, hb⟩; refine ⟨_, rfl, ?_⟩; replace HO392 := Aside0.mk (Kd.R_below (by (with_reducible repeat (first | apply Kd.R_alloc | apply Kd.R_drewN | apply Kd.R_drew)); exact (Kd.R_mono (Kd.R_far (p := ⟨gb383, 0, none⟩) (Kd.R_types HO392.out BK383.out (by decide)) (fun _ hk => hk.2) (.slice Ao33 y390.length co33)) (fun _ h_ => h_.1))) hb); replace BK383 := Aside0.mk (blk_below (g := gb383) (o := .cells #[.slice Ao33 y390.length co33] 49 (0, 0)) (by (with_reducible repeat (first | refine blk_drewN ?_ _ | refine blk_drew ?_ | refine blk_alloc ?_ _)); refine blk_put (cs := #[.slice Ao13 x384000_2.length co13]) ?_ 0 _ rfl; (with_reducible repeat (first | refine blk_drewN ?_ _ | refine blk_drew ?_ | refine blk_alloc ?_ _)); exact BK383.out) hb); replace HB := bsa HB hb; (try clear hb); (try clear hk)) | go_in))
              go_roundg kj10
              case measure => have := HK1.out; have := HK2.out; have := HJ10.out; omega
              case rel => exact ⟨(t393), (y390), (.slice Ao33 y390.length co33), (by first | rfl | (simp; done) | (simp [*]; done)), H', ⟨by have := HK1.out; have := HK2.out; have := HJ10.out; omega⟩, ⟨by (with_reducible repeat (first | apply Kd.R_alloc | apply Kd.R_drewN | apply Kd.R_drew)); exact HO392.out⟩, ⟨bx BK383.out⟩, ⟨bh HB.out⟩⟩
             ·rw [if_neg c29] at H
              exact absurd H (by simp)
         ·rw [if_neg c10] at H
          have c10b0 : decide (0 ≤ x18_2) = false := decide_eq_false c10
          clear c10
          have H' := Aside0.mk H
          clear H
          go_wp2
          repeat ((first | go_end0 | ((try simp only [Exit.inBlock, Exit.then]); refine bodyPost_ret (results_none rfl _ _ _) rfl ?_)); go_wp2)
          go_roundg k2
          case measure => have := HK1.out; have := HK2.out; omega
          case rel => exact ⟨(wrap64 (x21_1 + 1)), (x384000_2), (u384000), (by first | rfl | (simp; done) | (simp [*]; done)), H', ⟨by have := HK1.out; have := HK2.out; omega⟩, ⟨by (with_reducible repeat (first | apply Kd.R_alloc | apply Kd.R_drewN | apply Kd.R_drew)); exact HO_384000.out⟩, ⟨bx BK383.out⟩, ⟨bh HB.out⟩⟩
      ·rw [if_neg c7] at H
       exact absurd H (by simp)
     ·rw [if_neg c6] at H
      exact absurd H (by simp)
    ·rw [if_neg c5] at H
     have c5b0 : decide (x21_1 < (l0.length : Int)) = false := decide_eq_false c5
     clear c5
     simp only [Option.some.injEq, Prod.mk.injEq] at H
     obtain ⟨rfl, rfl⟩ := H
     have hcz36_0 : wr.cell? ⟨gb383, 0, none⟩ = some (u384000) := (blk_cell BK383.out 0).trans rfl
     have hfz36_0 := blk_frozen BK383.out 0
     go_wp2
     repeat ((first | go_end0 | ((try simp only [Exit.inBlock, Exit.then]); refine bodyPost_ret (results_none rfl _ _ _) rfl ?_)); go_wp2)
     go_ret2
     exact ⟨_, er, by (with_reducible repeat (first | apply Kd.R_alloc | apply Kd.R_drewN | apply Kd.R_drew)); exact HO_384000.out, bh HB.out⟩
 ·replace c3 := Bool.eq_false_iff.mpr c3
  subst c3
  have H1 : (some (([] : List (S79)), 1)) = some (r1, r2) := by rw [if_neg (show ¬ (false = true) by decide)] at H; exact H
  clear H
  have H := H1
  clear H1
  simp only [Option.some.injEq, Prod.mk.injEq] at H
  obtain ⟨rfl, rfl⟩ := H
  go_enter Try.func62, Try.ntmps62
  go_wp2_with (first | ((with_reducible refine gate_callee (f := 91) rfl ?_); refine goesL_ (some 6) rfl rfl Try.func91 (by kernel_rfl) rfl #[.slice A0 l0.length c0] rfl (by (try simp only [List.map_toArray, List.map_cons, List.map_nil]); first | done | rfl) ?_; (with_reducible refine (words_May.calls _ _ l0 false _ ?side1 ?side2 A2.out).mono ?_); (case side1 => exact cx HR0.out); (case side2 => exact HC0.out); rintro e w' ⟨rfl, ⟨nd, rfl⟩⟩; refine ⟨_, rfl, ?_⟩) | go_in)
  repeat ((first | go_end0 | ((try simp only [Exit.inBlock, Exit.then]); refine bodyPost_ret (results_none rfl _ _ _) rfl ?_)); try go_wp2_with (first | ((with_reducible refine gate_callee (f := 91) rfl ?_); refine goesL_ (some 6) rfl rfl Try.func91 (by kernel_rfl) rfl #[.slice A0 l0.length c0] rfl (by (try simp only [List.map_toArray, List.map_cons, List.map_nil]); first | done | rfl) ?_; (with_reducible refine (words_May.calls _ _ l0 false _ ?side1 ?side2 A2.out).mono ?_); (case side1 => exact cx HR0.out); (case side2 => exact HC0.out); rintro e w' ⟨rfl, ⟨nd, rfl⟩⟩; refine ⟨_, rfl, ?_⟩) | go_in))
  go_ret2
  exact ⟨_, er, nl, bh HB.out⟩
/-! ### poslist_List_Spans: function 34 -/
def poslist_List_Spans.f (k : Nat) (a0_0 : Int) (l0_1 : List (S79)) (l0_2 : List Int) (l0_3 : List Int) : Option ((List (S79))) := if a0_0 = 2 then ((words_Spans.f k l0_2).bind fun bt395 => (some bt395.1)) else (if a0_0 = 3 then ((span_Of.f k l0_3).bind fun bt399 => (some bt399.1)) else ((api_Span.f l0_1).bind fun t403 => (some t403)))
set_option maxHeartbeats 8000000 in
set_option maxRecDepth 100000 in
theorem poslist_List_Spans.calls (k : Nat) (a0_0 : Int) (A0_1 : Option Addr) (c0_1 : Nat) (l0_1 : List (S79)) (A0_2 : Option Addr) (c0_2 : Nat) (l0_2 : List Int) (A0_3 : Option Addr) (c0_3 : Nat) (l0_3 : List Int) (r : List (S79)) (w : World) (hr0_1 : Kd.C k79 w A0_1 l0_1.length l0_1) (hc0_1 : l0_1.length ≤ c0_1) (hr0_2 : Kd.C (Kd.int .i64) w A0_2 l0_2.length l0_2) (hc0_2 : l0_2.length ≤ c0_2) (hr0_3 : Kd.C (Kd.int .i64) w A0_3 l0_3.length l0_3) (hc0_3 : l0_3.length ≤ c0_3) (h : poslist_List_Spans.f k a0_0 l0_1 l0_2 l0_3 = some r) :
  Calls Try.prog 34 #[.agg #[.int .i64 a0_0, .slice A0_1 l0_1.length c0_1, .slice A0_2 l0_2.length c0_2, .slice A0_3 l0_3.length c0_3]] w fun e w' => ∃ v0_ : Value, e = .returned (v0_) ∧ Kd.R k79 79 w' w.heap.size (fun _ => True) v0_ r ∧ Below w.heap.size w w' := by
 have hu52 := Try.underlying52
 have HR0_1 := Aside0.mk hr0_1
 have HC0_1 := Aside0.mk hc0_1
 clear hr0_1 hc0_1
 have HR0_2 := Aside0.mk hr0_2
 have HC0_2 := Aside0.mk hc0_2
 clear hr0_2 hc0_2
 have HR0_3 := Aside0.mk hr0_3
 have HC0_3 := Aside0.mk hc0_3
 clear hr0_3 hc0_3
 have HB := Aside0.mk (Below.refl w.heap.size w)
 have H : (if a0_0 = 2 then ((words_Spans.f k l0_2).bind fun bt395 => (some bt395.1)) else (if a0_0 = 3 then ((span_Of.f k l0_3).bind fun bt399 => (some bt399.1)) else ((api_Span.f l0_1).bind fun t403 => (some t403)))) = some r := h
 clear h
 by_cases c2 : a0_0 = 2
 ·rw [if_pos c2] at H
  have c2b0 : (a0_0 == 2) = true := beq_iff_eq.mpr c2
  have c2b1 : (a0_0 != 2) = false := bne_eq_false_iff_eq.mpr c2
  clear c2
  replace H := Option.bind_eq_some_iff.mp H
  obtain ⟨⟨t395, t396⟩, A30, H⟩ := H
  replace H : (some t395) = some r := H
  have A3 := Aside0.mk A30
  clear A30
  obtain rfl := Option.some.inj H
  go_enter Try.func34, Try.ntmps34
  go_wp2_with (first | ((with_reducible refine gate_dst (N := 1) rfl ?_); refine box_event ?hg (N := 1) ?hd (cs := #[.int .i64 a0_0, .slice A0_1 l0_1.length c0_1, .slice A0_2 l0_2.length c0_2, .slice A0_3 l0_3.length c0_3]) (t := 52) ?hr ?_; (case hd => rfl); (case hg => rfl); (case hr => first | (go_simp; done) | (go_simp; rfl)); intro gb394 hg w4 hbox hb; have BK394 := Aside0.mk (hbox); have GW394 := bza HB hg; have GE394 := bza HB hg; replace HB := bsa HB hb; clear hb hbox hg; have hcz5_0 : w4.cell? ⟨gb394, 0, none⟩ = some (.int .i64 a0_0) := (blk_cell BK394.out 0).trans rfl; have hcz5_1 : w4.cell? ⟨gb394, 1, none⟩ = some (.slice A0_1 l0_1.length c0_1) := (blk_cell BK394.out 1).trans rfl; have hcz5_2 : w4.cell? ⟨gb394, 2, none⟩ = some (.slice A0_2 l0_2.length c0_2) := (blk_cell BK394.out 2).trans rfl; have hcz5_3 : w4.cell? ⟨gb394, 3, none⟩ = some (.slice A0_3 l0_3.length c0_3) := (blk_cell BK394.out 3).trans rfl; have hfz5_0 := blk_frozen BK394.out 0; have hfz5_1 := blk_frozen BK394.out 1; have hfz5_2 := blk_frozen BK394.out 2; have hfz5_3 := blk_frozen BK394.out 3) | ((with_reducible refine gate_callee (f := 62) rfl ?_); refine goesL_ (some 14) rfl rfl Try.func62 (by kernel_rfl) rfl #[.slice A0_2 l0_2.length c0_2] rfl (by (try simp only [List.map_toArray, List.map_cons, List.map_nil]); first | done | rfl) ?_; (with_reducible refine (words_Spans.calls k _ _ l0_2 t395 t396 _ ?side1 ?side2 A3.out).mono ?_); (case side1 => exact cx (Kd.C_below HR0_2.out HB.out)); (case side2 => exact HC0_2.out); rintro e w6 ⟨v397, rfl, ho0, hb⟩; refine ⟨_, rfl, ?_⟩; have HO398 := Aside0.mk (Kd.R_lower ho0 (below_size (bh HB.out))); replace BK394 := bba BK394 hb; replace HB := bsa HB hb; (try clear hb); (try clear ho0)))
  go_ret
  exact ⟨_, er, by (with_reducible repeat (first | apply Kd.R_alloc | apply Kd.R_drewN | apply Kd.R_drew)); exact HO398.out, bh HB.out⟩
 ·rw [if_neg c2] at H
  have c2b0 : (a0_0 == 2) = false := beq_eq_false_iff_ne.mpr c2
  have c2b1 : (a0_0 != 2) = true := bne_iff_ne.mpr c2
  by_cases c7 : a0_0 = 3
  ·rw [if_pos c7] at H
   have c7b0 : (a0_0 == 3) = true := beq_iff_eq.mpr c7
   have c7b1 : (a0_0 != 3) = false := bne_eq_false_iff_eq.mpr c7
   clear c7
   replace H := Option.bind_eq_some_iff.mp H
   obtain ⟨⟨t399, t400⟩, A80, H⟩ := H
   replace H : (some t399) = some r := H
   have A8 := Aside0.mk A80
   clear A80
   obtain rfl := Option.some.inj H
   go_enter Try.func34, Try.ntmps34
   go_wp2_with (first | ((with_reducible refine gate_dst (N := 1) rfl ?_); refine box_event ?hg (N := 1) ?hd (cs := #[.int .i64 a0_0, .slice A0_1 l0_1.length c0_1, .slice A0_2 l0_2.length c0_2, .slice A0_3 l0_3.length c0_3]) (t := 52) ?hr ?_; (case hd => rfl); (case hg => rfl); (case hr => first | (go_simp; done) | (go_simp; rfl)); intro gb394 hg w9 hbox hb; have BK394 := Aside0.mk (hbox); have GW394 := bza HB hg; have GE394 := bza HB hg; replace HB := bsa HB hb; clear hb hbox hg; have hcz10_0 : w9.cell? ⟨gb394, 0, none⟩ = some (.int .i64 a0_0) := (blk_cell BK394.out 0).trans rfl; have hcz10_1 : w9.cell? ⟨gb394, 1, none⟩ = some (.slice A0_1 l0_1.length c0_1) := (blk_cell BK394.out 1).trans rfl; have hcz10_2 : w9.cell? ⟨gb394, 2, none⟩ = some (.slice A0_2 l0_2.length c0_2) := (blk_cell BK394.out 2).trans rfl; have hcz10_3 : w9.cell? ⟨gb394, 3, none⟩ = some (.slice A0_3 l0_3.length c0_3) := (blk_cell BK394.out 3).trans rfl; have hfz10_0 := blk_frozen BK394.out 0; have hfz10_1 := blk_frozen BK394.out 1; have hfz10_2 := blk_frozen BK394.out 2; have hfz10_3 := blk_frozen BK394.out 3) | ((with_reducible refine gate_callee (f := 63) rfl ?_); refine goesL_ (some 23) rfl rfl Try.func63 (by kernel_rfl) rfl #[.slice A0_3 l0_3.length c0_3] rfl (by (try simp only [List.map_toArray, List.map_cons, List.map_nil]); first | done | rfl) ?_; (with_reducible refine (span_Of.calls k _ _ l0_3 t399 t400 _ ?side1 ?side2 A8.out).mono ?_); (case side1 => exact cx (Kd.C_below HR0_3.out HB.out)); (case side2 => exact HC0_3.out); rintro e w11 ⟨v401, rfl, ho0, hb⟩; refine ⟨_, rfl, ?_⟩; have HO402 := Aside0.mk (Kd.R_lower ho0 (below_size (bh HB.out))); replace BK394 := bba BK394 hb; replace HB := bsa HB hb; (try clear hb); (try clear ho0)))
   go_ret
   exact ⟨_, er, by (with_reducible repeat (first | apply Kd.R_alloc | apply Kd.R_drewN | apply Kd.R_drew)); exact HO402.out, bh HB.out⟩
  ·rw [if_neg c7] at H
   have c7b0 : (a0_0 == 3) = false := beq_eq_false_iff_ne.mpr c7
   have c7b1 : (a0_0 != 3) = true := bne_iff_ne.mpr c7
   replace H := Option.bind_eq_some_iff.mp H
   obtain ⟨t403, A120, H⟩ := H
   replace H : (some t403) = some r := H
   have A12 := Aside0.mk A120
   clear A120
   obtain rfl := Option.some.inj H
   go_enter Try.func34, Try.ntmps34
   go_wp2_with (first | ((with_reducible refine gate_dst (N := 1) rfl ?_); refine box_event ?hg (N := 1) ?hd (cs := #[.int .i64 a0_0, .slice A0_1 l0_1.length c0_1, .slice A0_2 l0_2.length c0_2, .slice A0_3 l0_3.length c0_3]) (t := 52) ?hr ?_; (case hd => rfl); (case hg => rfl); (case hr => first | (go_simp; done) | (go_simp; rfl)); intro gb394 hg w13 hbox hb; have BK394 := Aside0.mk (hbox); have GW394 := bza HB hg; have GE394 := bza HB hg; replace HB := bsa HB hb; clear hb hbox hg; have hcz14_0 : w13.cell? ⟨gb394, 0, none⟩ = some (.int .i64 a0_0) := (blk_cell BK394.out 0).trans rfl; have hcz14_1 : w13.cell? ⟨gb394, 1, none⟩ = some (.slice A0_1 l0_1.length c0_1) := (blk_cell BK394.out 1).trans rfl; have hcz14_2 : w13.cell? ⟨gb394, 2, none⟩ = some (.slice A0_2 l0_2.length c0_2) := (blk_cell BK394.out 2).trans rfl; have hcz14_3 : w13.cell? ⟨gb394, 3, none⟩ = some (.slice A0_3 l0_3.length c0_3) := (blk_cell BK394.out 3).trans rfl; have hfz14_0 := blk_frozen BK394.out 0; have hfz14_1 := blk_frozen BK394.out 1; have hfz14_2 := blk_frozen BK394.out 2; have hfz14_3 := blk_frozen BK394.out 3) | ((with_reducible refine gate_callee (f := 64) rfl ?_); refine goesL_ (some 29) rfl rfl Try.func64 (by kernel_rfl) rfl #[.slice A0_1 l0_1.length c0_1] rfl (by (try simp only [List.map_toArray, List.map_cons, List.map_nil]); first | done | rfl) ?_; (with_reducible refine (api_Span.calls _ _ l0_1 t403 _ ?side1 ?side2 A12.out).mono ?_); (case side1 => exact cx (Kd.C_below HR0_1.out HB.out)); (case side2 => exact HC0_1.out); rintro e w15 ⟨v404, rfl, ho0, hb⟩; refine ⟨_, rfl, ?_⟩; have HO405 := Aside0.mk (Kd.R_lower ho0 (below_size (bh HB.out))); replace BK394 := bba BK394 hb; replace HB := bsa HB hb; (try clear hb); (try clear ho0)))
   go_ret
   exact ⟨_, er, by (with_reducible repeat (first | apply Kd.R_alloc | apply Kd.R_drewN | apply Kd.R_drew)); exact HO405.out, bh HB.out⟩
/-! ### peristyleref14_Same: function 33 -/
def peristyleref14_Same.l0 : Nat → List (S79) → List (S79) → Int → Option (Bool)
 | 0, _, _, _ => none
 | k + 1, x0, x1, x5 => if x5 < (x0.length : Int) then (if 0 ≤ x5 then (if x5 < (x1.length : Int) then (if (!(((rd_T79 x0 x5).f0) == ((rd_T79 x1 x5).f0)) || (!(((rd_T79 x0 x5).f1) == ((rd_T79 x1 x5).f1)))) = true then (some false) else (peristyleref14_Same.l0 k x0 x1 (wrap64 (x5 + 1)))) else (none)) else (none)) else (some true)
def peristyleref14_Same.f (k : Nat) (l0 : List (S79)) (l1 : List (S79)) : Option (Bool) := if (l0.length : Int) = (l1.length : Int) then (peristyleref14_Same.l0 k l0 l1 0) else (some false)
theorem peristyleref14_Same.l0_succ (k : Nat) (x0 : List (S79)) (x1 : List (S79)) (x5 : Int) : peristyleref14_Same.l0 (k + 1) x0 x1 x5 = (if x5 < (x0.length : Int) then (if 0 ≤ x5 then (if x5 < (x1.length : Int) then (if (!(((rd_T79 x0 x5).f0) == ((rd_T79 x1 x5).f0)) || (!(((rd_T79 x0 x5).f1) == ((rd_T79 x1 x5).f1)))) = true then (some false) else (peristyleref14_Same.l0 k x0 x1 (wrap64 (x5 + 1)))) else (none)) else (none)) else (some true)) := by
 simp only [peristyleref14_Same.l0]
set_option maxHeartbeats 8000000 in
set_option maxRecDepth 100000 in
theorem peristyleref14_Same.calls (k : Nat) (A0 : Option Addr) (c0 : Nat) (l0 : List (S79)) (A1 : Option Addr) (c1 : Nat) (l1 : List (S79)) (r : Bool) (w : World) (hr0 : Kd.C k79 w A0 l0.length l0) (hc0 : l0.length ≤ c0) (hr1 : Kd.C k79 w A1 l1.length l1) (hc1 : l1.length ≤ c1) (h : peristyleref14_Same.f k l0 l1 = some r) :
  Calls Try.prog 33 #[.slice A0 l0.length c0, .slice A1 l1.length c1] w fun e w' => e = .returned (.bool r) ∧ Drawn0 w w' := by
 have hu79 := Try.underlying79
 have HR0 := Aside0.mk hr0
 have HC0 := Aside0.mk hc0
 clear hr0 hc0
 have HR1 := Aside0.mk hr1
 have HC1 := Aside0.mk hc1
 clear hr1 hc1
 have H : (if (l0.length : Int) = (l1.length : Int) then (peristyleref14_Same.l0 k l0 l1 0) else (some false)) = some r := h
 clear h
 by_cases c3 : (l0.length : Int) = (l1.length : Int)
 ·rw [if_pos c3] at H
  have c3b0 : ((l0.length : Int) == (l1.length : Int)) = true := beq_iff_eq.mpr c3
  have c3b1 : ((l0.length : Int) != (l1.length : Int)) = false := bne_eq_false_iff_eq.mpr c3
  have c3b2 : (l0.length == l1.length) = true := by first | simpa using c3 | (simp at c3 ⊢; omega)
  clear c3
  have H' := Aside0.mk H
  clear H
  go_enter Try.func33, Try.ntmps33
  go_wp2
  repeat (go_quiet (fail); try go_wp2)
  go_loopg [5] k (fun kq v5 w' => ∃ (x5_1 : Int), v5 = .int .i64 x5_1 ∧ Aside0 (peristyleref14_Same.l0 kq l0 l1 x5_1 = some r) ∧ Aside0 (kq ≤ k) ∧ Drawn0 w w')
  case atStart => exact ⟨(0), (by first | rfl | (simp; done) | (simp [*]; done)), H', ⟨Nat.le_refl _⟩, by repeat (first | exact Drawn0.refl _ | apply Drawn0.step)⟩
  case round =>
   clear H'
   try clear c1
   try clear c3
   try clear c3b0
   try clear c3b1
   try clear c3b2
   obtain ⟨x5_1, rfl, HA, HK1, ⟨m1, rfl⟩⟩ := hrel
   cases gk with
   | zero => exact absurd HA.out (by simp [peristyleref14_Same.l0])
   | succ k1 =>
    have H := HA.out
    clear HA
    simp only [peristyleref14_Same.l0] at H
    by_cases c4 : x5_1 < (l0.length : Int)
    ·rw [if_pos c4] at H
     have c4b0 : decide (x5_1 < (l0.length : Int)) = true := decide_eq_true c4
     clear c4
     by_cases c5 : 0 ≤ x5_1
     ·rw [if_pos c5] at H
      have c5b0 : decide (0 ≤ x5_1) = true := decide_eq_true c5
      clear c5
      by_cases c6 : x5_1 < (l1.length : Int)
      ·rw [if_pos c6] at H
       have c6b0 : decide (x5_1 < (l1.length : Int)) = true := decide_eq_true c6
       clear c6
       by_cases c7 : (!(((rd_T79 l0 x5_1).f0) == ((rd_T79 l1 x5_1).f0)) || (!(((rd_T79 l0 x5_1).f1) == ((rd_T79 l1 x5_1).f1)))) = true
       ·rw [if_pos c7] at H
        have c7b0 : (!(((rd_T79 l0 x5_1).f0) == ((rd_T79 l1 x5_1).f0)) || (!(((rd_T79 l0 x5_1).f1) == ((rd_T79 l1 x5_1).f1)))) = true := c7
        clear c7
        obtain rfl := Option.some.inj H
        have p406 : 0 ≤ (x5_1 : Int) := of_decide_eq_true (by assumption)
        have q406 : x5_1 < (l0.length : Int) := of_decide_eq_true (by assumption)
        obtain ⟨ad406, e406, hx406_0, hx406_1⟩ := at_T79 HR0.out x5_1 p406 q406
        cases e406
        replace p406 := eq_true p406
        replace q406 := eq_true q406
        have p407 : 0 ≤ (x5_1 : Int) := of_decide_eq_true (by assumption)
        have q407 : x5_1 < (l1.length : Int) := of_decide_eq_true (by assumption)
        obtain ⟨ad407, e407, hx407_0, hx407_1⟩ := at_T79 HR1.out x5_1 p407 q407
        cases e407
        replace p407 := eq_true p407
        replace q407 := eq_true q407
        go_wp2
        repeat (go_quiet (fail); try go_wp2)
        go_ret
        exact ⟨by first | rfl | (unfold wrap64; rfl) | (simp; done) | (simp [*]; done), by repeat (first | exact Drawn0.refl _ | apply Drawn0.step)⟩
       ·rw [if_neg c7] at H
        have c7b0 : (!(((rd_T79 l0 x5_1).f0) == ((rd_T79 l1 x5_1).f0)) || (!(((rd_T79 l0 x5_1).f1) == ((rd_T79 l1 x5_1).f1)))) = false := by simpa using c7
        clear c7
        have H' := Aside0.mk H
        clear H
        have p406 : 0 ≤ (x5_1 : Int) := of_decide_eq_true (by assumption)
        have q406 : x5_1 < (l0.length : Int) := of_decide_eq_true (by assumption)
        obtain ⟨ad406, e406, hx406_0, hx406_1⟩ := at_T79 HR0.out x5_1 p406 q406
        cases e406
        replace p406 := eq_true p406
        replace q406 := eq_true q406
        have p407 : 0 ≤ (x5_1 : Int) := of_decide_eq_true (by assumption)
        have q407 : x5_1 < (l1.length : Int) := of_decide_eq_true (by assumption)
        obtain ⟨ad407, e407, hx407_0, hx407_1⟩ := at_T79 HR1.out x5_1 p407 q407
        cases e407
        replace p407 := eq_true p407
        replace q407 := eq_true q407
        go_wp2
        repeat (go_quiet (fail); try go_wp2)
        go_roundg k1
        case measure => have := HK1.out; omega
        case rel => exact ⟨(wrap64 (x5_1 + 1)), (by first | rfl | (simp; done) | (simp [*]; done)), H', ⟨by have := HK1.out; omega⟩, by repeat (first | exact Drawn0.refl _ | apply Drawn0.step)⟩
      ·rw [if_neg c6] at H
       exact absurd H (by simp)
     ·rw [if_neg c5] at H
      exact absurd H (by simp)
    ·rw [if_neg c4] at H
     have c4b0 : decide (x5_1 < (l0.length : Int)) = false := decide_eq_false c4
     clear c4
     obtain rfl := Option.some.inj H
     go_wp2
     repeat (go_quiet (fail); try go_wp2)
     go_ret
     exact ⟨by first | rfl | (unfold wrap64; rfl) | (simp; done) | (simp [*]; done), by repeat (first | exact Drawn0.refl _ | apply Drawn0.step)⟩
 ·rw [if_neg c3] at H
  have c3b0 : ((l0.length : Int) == (l1.length : Int)) = false := beq_eq_false_iff_ne.mpr c3
  have c3b1 : ((l0.length : Int) != (l1.length : Int)) = true := bne_iff_ne.mpr c3
  have c3b2 : (l0.length == l1.length) = false := by first | simpa using c3 | (simp at c3 ⊢; omega)
  obtain rfl := Option.some.inj H
  go_enter Try.func33, Try.ntmps33
  go_wp2
  repeat (go_quiet (fail); try go_wp2)
  go_ret
  exact ⟨by first | rfl | (unfold wrap64; rfl) | (simp; done) | (simp [*]; done), by repeat (first | exact Drawn0.refl _ | apply Drawn0.step)⟩
end Go.Proofs.Ytbmlfbbcgbgnoaa.Print
end
section
namespace Go.Proofs.Ytbmlfbbcgbgnoaa.Print
open Go.RowKit Go.Proofs.YtbmlfbbcgbgnoaaW.PrintWords Go.Proofs.YtbmlfbbcgbgnoaaW.PrintLast Go.Proofs.YtbmlfbbcgbgnoaaW.PrintMore
attribute [local go_sem] max2_int min2_int max_two min_two max_three min_three max_four min_four   -- for this text's walks alone
set_option linter.unusedVariables false
set_option linter.unusedSimpArgs false
/-! ### peristylelaw26_JindexFollows: function 6 -/
def peristylelaw26_JindexFollows.j0 : Nat → List Int → List (S79) → Bool → Option (Bool)
 | 0, _, _, _ => none
 | k + 1, x0, x1, x25 => if x25 = true then ((peristylelaw26_awake.f k).bind fun t410 => (some t410)) else ((poslist_Best.f k x1).bind fun bt411 => ((jindex_Follow.f k x0 bt411.1 bt411.2.1 bt411.2.2.1 bt411.2.2.2.1).bind fun bt423 => ((peristyleref26_May.f k x0).bind fun t435 => (if t435 = true then ((peristyleref14_Top.f x1).bind fun t437 => (if t437 > (x0.length : Int) then (if bt423.2.2.2.2 = 3 then ((peristylelaw26_awake.f k).bind fun t438 => (some t438)) else (none)) else ((peristyleref14_Places.f k x1).bind fun bt439 => ((peristyleref26_Follow.f k x0 bt439.1).bind fun t443 => ((peristyleref14_Of.f k t443).bind fun bt446 => (if bt423.2.2.2.2 = 0 then ((poslist_List_Spans.f k bt423.1 bt423.2.1 bt423.2.2.1 bt423.2.2.2.1).bind fun t450 => ((peristyleref14_Same.f k t450 bt446.1).bind fun t453 => (if t453 = true then ((poslist_List_Count.f k bt423.1 bt423.2.1 bt423.2.2.1 bt423.2.2.2.1).bind fun t454 => (if t454 = (bt439.1.length : Int) then ((peristylelaw26_awake.f k).bind fun t455 => (some t455)) else (none))) else (none)))) else (none))))))) else (if bt423.2.2.2.2 = 1 then ((peristylelaw26_awake.f k).bind fun t436 => (some t436)) else (none))))))
def peristylelaw26_JindexFollows.f (k : Nat) (l0 : List Int) (l1 : List (S79)) : Option (Bool) := if (l0.length : Int) > 100 then (peristylelaw26_JindexFollows.j0 k l0 l1 true) else ((peristyleref14_Few.f k l1).bind fun t408 => (if t408 = true then ((peristyleref14_May.f k l1).bind fun t409 => (peristylelaw26_JindexFollows.j0 k l0 l1 (!t409))) else (peristylelaw26_JindexFollows.j0 k l0 l1 true)))
theorem peristylelaw26_JindexFollows.j0_succ (k : Nat) (x0 : List Int) (x1 : List (S79)) (x25 : Bool) : peristylelaw26_JindexFollows.j0 (k + 1) x0 x1 x25 = (if x25 = true then ((peristylelaw26_awake.f k).bind fun t410 => (some t410)) else ((poslist_Best.f k x1).bind fun bt411 => ((jindex_Follow.f k x0 bt411.1 bt411.2.1 bt411.2.2.1 bt411.2.2.2.1).bind fun bt423 => ((peristyleref26_May.f k x0).bind fun t435 => (if t435 = true then ((peristyleref14_Top.f x1).bind fun t437 => (if t437 > (x0.length : Int) then (if bt423.2.2.2.2 = 3 then ((peristylelaw26_awake.f k).bind fun t438 => (some t438)) else (none)) else ((peristyleref14_Places.f k x1).bind fun bt439 => ((peristyleref26_Follow.f k x0 bt439.1).bind fun t443 => ((peristyleref14_Of.f k t443).bind fun bt446 => (if bt423.2.2.2.2 = 0 then ((poslist_List_Spans.f k bt423.1 bt423.2.1 bt423.2.2.1 bt423.2.2.2.1).bind fun t450 => ((peristyleref14_Same.f k t450 bt446.1).bind fun t453 => (if t453 = true then ((poslist_List_Count.f k bt423.1 bt423.2.1 bt423.2.2.1 bt423.2.2.2.1).bind fun t454 => (if t454 = (bt439.1.length : Int) then ((peristylelaw26_awake.f k).bind fun t455 => (some t455)) else (none))) else (none)))) else (none))))))) else (if bt423.2.2.2.2 = 1 then ((peristylelaw26_awake.f k).bind fun t436 => (some t436)) else (none))))))) := by
 simp only [peristylelaw26_JindexFollows.j0]
set_option maxHeartbeats 8000000 in
set_option maxRecDepth 100000 in
theorem peristylelaw26_JindexFollows.calls (k : Nat) (A0 : Option Addr) (c0 : Nat) (l0 : List Int) (A1 : Option Addr) (c1 : Nat) (l1 : List (S79)) (r : Bool) (w : World) (hr0 : Kd.C (Kd.int .i64) w A0 l0.length l0) (hc0 : l0.length ≤ c0) (hr1 : Kd.C k79 w A1 l1.length l1) (hc1 : l1.length ≤ c1) (h : peristylelaw26_JindexFollows.f k l0 l1 = some r) :
  Calls Try.prog 6 #[.slice A0 l0.length c0, .slice A1 l1.length c1] w fun e w' => e = .returned (.bool r) ∧ Below w.heap.size w w' := by
 have hu52 := Try.underlying52
 have HR0 := Aside0.mk hr0
 have HC0 := Aside0.mk hc0
 clear hr0 hc0
 have HR1 := Aside0.mk hr1
 have HC1 := Aside0.mk hc1
 clear hr1 hc1
 have HB := Aside0.mk (Below.refl w.heap.size w)
 have H : (if (l0.length : Int) > 100 then (peristylelaw26_JindexFollows.j0 k l0 l1 true) else ((peristyleref14_Few.f k l1).bind fun t408 => (if t408 = true then ((peristyleref14_May.f k l1).bind fun t409 => (peristylelaw26_JindexFollows.j0 k l0 l1 (!t409))) else (peristylelaw26_JindexFollows.j0 k l0 l1 true)))) = some r := h
 clear h
 have HC3 := Aside0.mk H
 clear H
 go_enter Try.func6, Try.ntmps6
 go_upto_region 1 with (fail)
 go_cut [25] (fun v25 wc => ∃ (kq : Nat) (x25_2 : Bool), v25 = .bool x25_2 ∧ Aside0 (peristylelaw26_JindexFollows.j0 kq l0 l1 x25_2 = some r) ∧ Aside0 (kq ≤ k) ∧ Aside0 (Below w.heap.size w wc))
 case first =>
  have H := HC3.out
  clear HC3
  by_cases c4 : (l0.length : Int) > 100
  ·rw [if_pos c4] at H
   have c4b0 : decide (100 < (l0.length : Int)) = true := decide_eq_true c4
   have c4b1 : decide (100 < l0.length) = true := decide_eq_true (by omega)
   clear c4
   (first | rw [c4b0] | (simp only [i64_w, i32_w]; rw [c4b0]) | skip)
   have H' := Aside0.mk H
   clear H
   go_wp2
   go_meet
   case rel => exact ⟨_, (true), (by first | rfl | (simp; done) | (simp [*]; done)), H', ⟨by first | omega | exact Nat.le_refl _⟩, ⟨bh HB.out⟩⟩
  ·rw [if_neg c4] at H
   have c4b0 : decide (100 < (l0.length : Int)) = false := decide_eq_false c4
   have c4b1 : decide (100 < l0.length) = false := decide_eq_false (by omega)
   clear c4
   (first | rw [c4b0] | (simp only [i64_w, i32_w]; rw [c4b0]) | skip)
   replace H := Option.bind_eq_some_iff.mp H
   obtain ⟨t408, A50, H⟩ := H
   replace H : (if t408 = true then ((peristyleref14_May.f k l1).bind fun t409 => (peristylelaw26_JindexFollows.j0 k l0 l1 (!t409))) else (peristylelaw26_JindexFollows.j0 k l0 l1 true)) = some r := H
   have A5 := Aside0.mk A50
   clear A50
   by_cases c6 : t408 = true
   ·subst c6
    have H1 : ((peristyleref14_May.f k l1).bind fun t409 => (peristylelaw26_JindexFollows.j0 k l0 l1 (!t409))) = some r := by rw [if_pos rfl] at H; exact H
    clear H
    have H := H1
    clear H1
    replace H := Option.bind_eq_some_iff.mp H
    obtain ⟨t409, A70, H⟩ := H
    replace H : (peristylelaw26_JindexFollows.j0 k l0 l1 (!t409)) = some r := H
    have A7 := Aside0.mk A70
    clear A70
    have H' := Aside0.mk H
    clear H
    go_wp2_with (first | (go_at_call 25; (with_reducible refine (peristyleref14_Few.calls k _ _ l1 true _ ?side1 ?side2 A5.out).mono ?_); (case side1 => exact cx (Kd.C_below HR1.out HB.out)); (case side2 => exact HC1.out); rintro e w' ⟨rfl, ⟨nd, rfl⟩⟩; (try clear A5)) | (go_at_call 26; (with_reducible refine (peristyleref14_May.calls k _ _ l1 t409 _ ?side1 ?side2 A7.out).mono ?_); (case side1 => repeat (first | exact (Kd.C_below HR1.out (bh HB.out)) | (with_reducible refine Kd.C_alloc ?_ _) | (with_reducible refine Kd.C_drewN ?_ _) | (with_reducible refine Kd.C_drew ?_))); (case side2 => exact HC1.out); rintro e w' ⟨rfl, ⟨nd, rfl⟩⟩; (try clear A7)))
    go_meet
    case rel => exact ⟨_, (!t409), (by first | rfl | (simp; done) | (simp [*]; done)), H', ⟨by first | omega | exact Nat.le_refl _⟩, ⟨bh HB.out⟩⟩
   ·replace c6 := Bool.eq_false_iff.mpr c6
    subst c6
    have H1 : (peristylelaw26_JindexFollows.j0 k l0 l1 true) = some r := by rw [if_neg (show ¬ (false = true) by decide)] at H; exact H
    clear H
    have H := H1
    clear H1
    have H' := Aside0.mk H
    clear H
    go_wp2_with (first | (go_at_call 25; (with_reducible refine (peristyleref14_Few.calls k _ _ l1 false _ ?side1 ?side2 A5.out).mono ?_); (case side1 => exact cx (Kd.C_below HR1.out HB.out)); (case side2 => exact HC1.out); rintro e w' ⟨rfl, ⟨nd, rfl⟩⟩; (try clear A5)))
    go_meet
    case rel => exact ⟨_, (true), (by first | rfl | (simp; done) | (simp [*]; done)), H', ⟨by first | omega | exact Nat.le_refl _⟩, ⟨bh HB.out⟩⟩
 case rest =>
  clear HC3
  try clear c1
  try clear c4
  try clear c4b0
  try clear c4b1
  try clear c6
  obtain ⟨kq, x25_2, rfl, HA, HJ2, HB⟩ := hcut
  cases kq with
  | zero => exact absurd HA.out (by simp [peristylelaw26_JindexFollows.j0])
  | succ kj2 =>
   have H := HA.out
   clear HA
   simp only [peristylelaw26_JindexFollows.j0] at H
   by_cases c8 : x25_2 = true
   ·subst c8
    have H1 : ((peristylelaw26_awake.f kj2).bind fun t410 => (some t410)) = some r := by rw [if_pos rfl] at H; exact H
    clear H
    have H := H1
    clear H1
    replace H := Option.bind_eq_some_iff.mp H
    obtain ⟨t410, A90, H⟩ := H
    replace H : (some t410) = some r := H
    have A9 := Aside0.mk A90
    clear A90
    obtain rfl := Option.some.inj H
    go_wp2_with (first | ((with_reducible refine gate_callee (f := 7) rfl ?_); refine goesL_ (some 26) rfl rfl Try.func7 (by kernel_rfl) rfl #[] rfl (by (try simp only [List.map_toArray, List.map_cons, List.map_nil]); first | done | rfl) ?_; (with_reducible refine (peristylelaw26_awake.calls kj2  t410 _ A9.out).mono ?_); rintro e w10 ⟨rfl, hb⟩; refine ⟨_, rfl, ?_⟩; replace HB := bsa HB hb; (try clear hb)))
    go_ret
    exact ⟨er, bh HB.out⟩
   ·replace c8 := Bool.eq_false_iff.mpr c8
    subst c8
    have H1 : ((poslist_Best.f kj2 l1).bind fun bt411 => ((jindex_Follow.f kj2 l0 bt411.1 bt411.2.1 bt411.2.2.1 bt411.2.2.2.1).bind fun bt423 => ((peristyleref26_May.f kj2 l0).bind fun t435 => (if t435 = true then ((peristyleref14_Top.f l1).bind fun t437 => (if t437 > (l0.length : Int) then (if bt423.2.2.2.2 = 3 then ((peristylelaw26_awake.f kj2).bind fun t438 => (some t438)) else (none)) else ((peristyleref14_Places.f kj2 l1).bind fun bt439 => ((peristyleref26_Follow.f kj2 l0 bt439.1).bind fun t443 => ((peristyleref14_Of.f kj2 t443).bind fun bt446 => (if bt423.2.2.2.2 = 0 then ((poslist_List_Spans.f kj2 bt423.1 bt423.2.1 bt423.2.2.1 bt423.2.2.2.1).bind fun t450 => ((peristyleref14_Same.f kj2 t450 bt446.1).bind fun t453 => (if t453 = true then ((poslist_List_Count.f kj2 bt423.1 bt423.2.1 bt423.2.2.1 bt423.2.2.2.1).bind fun t454 => (if t454 = (bt439.1.length : Int) then ((peristylelaw26_awake.f kj2).bind fun t455 => (some t455)) else (none))) else (none)))) else (none))))))) else (if bt423.2.2.2.2 = 1 then ((peristylelaw26_awake.f kj2).bind fun t436 => (some t436)) else (none)))))) = some r := by rw [if_neg (show ¬ (false = true) by decide)] at H; exact H
    clear H
    have H := H1
    clear H1
    replace H := Option.bind_eq_some_iff.mp H
    obtain ⟨⟨t411, t412, t415, t418, t421⟩, A110, H⟩ := H
    replace H : ((jindex_Follow.f kj2 l0 t411 t412 t415 t418).bind fun bt423 => ((peristyleref26_May.f kj2 l0).bind fun t435 => (if t435 = true then ((peristyleref14_Top.f l1).bind fun t437 => (if t437 > (l0.length : Int) then (if bt423.2.2.2.2 = 3 then ((peristylelaw26_awake.f kj2).bind fun t438 => (some t438)) else (none)) else ((peristyleref14_Places.f kj2 l1).bind fun bt439 => ((peristyleref26_Follow.f kj2 l0 bt439.1).bind fun t443 => ((peristyleref14_Of.f kj2 t443).bind fun bt446 => (if bt423.2.2.2.2 = 0 then ((poslist_List_Spans.f kj2 bt423.1 bt423.2.1 bt423.2.2.1 bt423.2.2.2.1).bind fun t450 => ((peristyleref14_Same.f kj2 t450 bt446.1).bind fun t453 => (if t453 = true then ((poslist_List_Count.f kj2 bt423.1 bt423.2.1 bt423.2.2.1 bt423.2.2.2.1).bind fun t454 => (if t454 = (bt439.1.length : Int) then ((peristylelaw26_awake.f kj2).bind fun t455 => (some t455)) else (none))) else (none)))) else (none))))))) else (if bt423.2.2.2.2 = 1 then ((peristylelaw26_awake.f kj2).bind fun t436 => (some t436)) else (none))))) = some r := H
    have A11 := Aside0.mk A110
    clear A110
    replace H := Option.bind_eq_some_iff.mp H
    obtain ⟨⟨t423, t424, t427, t430, t433⟩, A120, H⟩ := H
    replace H : ((peristyleref26_May.f kj2 l0).bind fun t435 => (if t435 = true then ((peristyleref14_Top.f l1).bind fun t437 => (if t437 > (l0.length : Int) then (if t433 = 3 then ((peristylelaw26_awake.f kj2).bind fun t438 => (some t438)) else (none)) else ((peristyleref14_Places.f kj2 l1).bind fun bt439 => ((peristyleref26_Follow.f kj2 l0 bt439.1).bind fun t443 => ((peristyleref14_Of.f kj2 t443).bind fun bt446 => (if t433 = 0 then ((poslist_List_Spans.f kj2 t423 t424 t427 t430).bind fun t450 => ((peristyleref14_Same.f kj2 t450 bt446.1).bind fun t453 => (if t453 = true then ((poslist_List_Count.f kj2 t423 t424 t427 t430).bind fun t454 => (if t454 = (bt439.1.length : Int) then ((peristylelaw26_awake.f kj2).bind fun t455 => (some t455)) else (none))) else (none)))) else (none))))))) else (if t433 = 1 then ((peristylelaw26_awake.f kj2).bind fun t436 => (some t436)) else (none)))) = some r := H
    have A12 := Aside0.mk A120
    clear A120
    replace H := Option.bind_eq_some_iff.mp H
    obtain ⟨t435, A130, H⟩ := H
    replace H : (if t435 = true then ((peristyleref14_Top.f l1).bind fun t437 => (if t437 > (l0.length : Int) then (if t433 = 3 then ((peristylelaw26_awake.f kj2).bind fun t438 => (some t438)) else (none)) else ((peristyleref14_Places.f kj2 l1).bind fun bt439 => ((peristyleref26_Follow.f kj2 l0 bt439.1).bind fun t443 => ((peristyleref14_Of.f kj2 t443).bind fun bt446 => (if t433 = 0 then ((poslist_List_Spans.f kj2 t423 t424 t427 t430).bind fun t450 => ((peristyleref14_Same.f kj2 t450 bt446.1).bind fun t453 => (if t453 = true then ((poslist_List_Count.f kj2 t423 t424 t427 t430).bind fun t454 => (if t454 = (bt439.1.length : Int) then ((peristylelaw26_awake.f kj2).bind fun t455 => (some t455)) else (none))) else (none)))) else (none))))))) else (if t433 = 1 then ((peristylelaw26_awake.f kj2).bind fun t436 => (some t436)) else (none))) = some r := H
    have A13 := Aside0.mk A130
    clear A130
    by_cases c14 : t435 = true
    ·subst c14
     have H1 : ((peristyleref14_Top.f l1).bind fun t437 => (if t437 > (l0.length : Int) then (if t433 = 3 then ((peristylelaw26_awake.f kj2).bind fun t438 => (some t438)) else (none)) else ((peristyleref14_Places.f kj2 l1).bind fun bt439 => ((peristyleref26_Follow.f kj2 l0 bt439.1).bind fun t443 => ((peristyleref14_Of.f kj2 t443).bind fun bt446 => (if t433 = 0 then ((poslist_List_Spans.f kj2 t423 t424 t427 t430).bind fun t450 => ((peristyleref14_Same.f kj2 t450 bt446.1).bind fun t453 => (if t453 = true then ((poslist_List_Count.f kj2 t423 t424 t427 t430).bind fun t454 => (if t454 = (bt439.1.length : Int) then ((peristylelaw26_awake.f kj2).bind fun t455 => (some t455)) else (none))) else (none)))) else (none))))))) = some r := by rw [if_pos rfl] at H; exact H
     clear H
     have H := H1
     clear H1
     replace H := Option.bind_eq_some_iff.mp H
     obtain ⟨t437, A150, H⟩ := H
     replace H : (if t437 > (l0.length : Int) then (if t433 = 3 then ((peristylelaw26_awake.f kj2).bind fun t438 => (some t438)) else (none)) else ((peristyleref14_Places.f kj2 l1).bind fun bt439 => ((peristyleref26_Follow.f kj2 l0 bt439.1).bind fun t443 => ((peristyleref14_Of.f kj2 t443).bind fun bt446 => (if t433 = 0 then ((poslist_List_Spans.f kj2 t423 t424 t427 t430).bind fun t450 => ((peristyleref14_Same.f kj2 t450 bt446.1).bind fun t453 => (if t453 = true then ((poslist_List_Count.f kj2 t423 t424 t427 t430).bind fun t454 => (if t454 = (bt439.1.length : Int) then ((peristylelaw26_awake.f kj2).bind fun t455 => (some t455)) else (none))) else (none)))) else (none)))))) = some r := H
     have A15 := Aside0.mk A150
     clear A150
     by_cases c16 : t437 > (l0.length : Int)
     ·rw [if_pos c16] at H
      have c16b0 : decide ((l0.length : Int) < t437) = true := decide_eq_true c16
      clear c16
      by_cases c17 : t433 = 3
      ·rw [if_pos c17] at H
       have c17b0 : (t433 == 3) = true := beq_iff_eq.mpr c17
       have c17b1 : (t433 != 3) = false := bne_eq_false_iff_eq.mpr c17
       clear c17
       replace H := Option.bind_eq_some_iff.mp H
       obtain ⟨t438, A180, H⟩ := H
       replace H : (some t438) = some r := H
       have A18 := Aside0.mk A180
       clear A180
       obtain rfl := Option.some.inj H
       go_wp2_with (first | ((with_reducible refine gate_callee (f := 27) rfl ?_); refine goesL_ (some 29) rfl rfl Try.func27 (by kernel_rfl) rfl #[.slice A1 l1.length c1] rfl (by (try simp only [List.map_toArray, List.map_cons, List.map_nil]); first | done | rfl) ?_; (with_reducible refine (poslist_Best.calls kj2 _ _ l1 t411 t412 t415 t418 t421 _ ?side1 ?side2 A11.out).mono ?_); (case side1 => exact cx (Kd.C_below HR1.out HB.out)); (case side2 => exact HC1.out); rintro e w19 ⟨v413, v416, v419, rfl, ho0, ho1, ho2, hb⟩; refine ⟨_, rfl, ?_⟩; have HO414 := Aside0.mk (Kd.R_lower ho0 (below_size (bh HB.out))); have HO417 := Aside0.mk (Kd.R_lower ho1 (below_size (bh HB.out))); have HO420 := Aside0.mk (Kd.R_lower ho2 (below_size (bh HB.out))); replace HB := bsa HB hb; (try clear hb); (try clear hk); (try clear ho0); (try clear ho1); (try clear ho2)) | ((with_reducible refine gate_dst (N := 5) rfl ?_); (try (refine gate_guard (by rfl) ?_; dsimp only)); refine box_event ?hg (N := 5) ?hd (cs := #[.int .i64 0, .slice none 0 0, .slice none 0 0, .slice none 0 0]) (t := 52) ?hr ?_; (case hd => rfl); (case hg => rfl); (case hr => first | (go_simp; done) | (go_simp; rfl)); intro gb422 hg w20 hbox hb; replace HO414 := rba HO414 hb; replace HO417 := rba HO417 hb; replace HO420 := rba HO420 hb; have BK422 := Aside0.mk (hbox); have GW422 := bza HB hg; have GE422 := bza HB hg; replace HB := bsa HB hb; clear hb hbox hg; have hcz21_0 : w20.cell? ⟨gb422, 0, none⟩ = some (.int .i64 0) := (blk_cell BK422.out 0).trans rfl; have hcz21_1 : w20.cell? ⟨gb422, 1, none⟩ = some (.slice none 0 0) := (blk_cell BK422.out 1).trans rfl; have hcz21_2 : w20.cell? ⟨gb422, 2, none⟩ = some (.slice none 0 0) := (blk_cell BK422.out 2).trans rfl; have hcz21_3 : w20.cell? ⟨gb422, 3, none⟩ = some (.slice none 0 0) := (blk_cell BK422.out 3).trans rfl; have hfz21_0 := blk_frozen BK422.out 0; have hfz21_1 := blk_frozen BK422.out 1; have hfz21_2 := blk_frozen BK422.out 2; have hfz21_3 := blk_frozen BK422.out 3; obtain ⟨Ao22, co22, eo22⟩ := Kd.R_slice HO414.out; subst eo22; obtain ⟨Ao23, co23, eo23⟩ := Kd.R_slice HO417.out; subst eo23; obtain ⟨Ao24, co24, eo24⟩ := Kd.R_slice HO420.out; subst eo24) | ((with_reducible refine gate_store (t := 52) (p := 5) rfl ?_); refine store_event (t := 52) (p := 5) (v := ?vo_w25) (w1 := ((((w20.setCell ⟨gb422, 0, none⟩ (.int .i64 t411)).setCell ⟨gb422, 1, none⟩ (.slice Ao22 t412.length co22)).setCell ⟨gb422, 2, none⟩ (.slice Ao23 t415.length co23)).setCell ⟨gb422, 3, none⟩ (.slice Ao24 t418.length co24))) ?hg ?ho ?hn ?hr ?_; (case ho => rfl); (case hg => rfl); (case hn => rfl); (case hr => first | (go_simp; done) | (go_simp; rfl)); intro w25 hw; have n0_ : Aside0 (Kd.R k79 79 w25 w.heap.size (fun _ => True) (.slice Ao22 t412.length co22) t412) := ⟨(by rw [hw]; exact (by (with_reducible repeat (first | apply Kd.R_alloc | apply Kd.R_drewN | apply Kd.R_drew)); exact Kd.R_mono (Kd.R_far (p := ⟨gb422, 3, none⟩) (Kd.R_far (p := ⟨gb422, 2, none⟩) (Kd.R_far (p := ⟨gb422, 1, none⟩) (Kd.R_far (p := ⟨gb422, 0, none⟩) (Kd.R_types HO414.out BK422.out (by decide)) (fun _ hk => hk.2) (.int .i64 t411)) (fun _ hk => hk.2) (.slice Ao22 t412.length co22)) (fun _ hk => hk.2) (.slice Ao23 t415.length co23)) (fun _ hk => hk.2) (.slice Ao24 t418.length co24)) (fun _ hk => trivial)))⟩; have n1_ : Aside0 (Kd.R (Kd.int .i64) 3 w25 w.heap.size (fun k_ => some k_ ≠ (.slice Ao24 t418.length co24 : Value).ownBlock) (.slice Ao23 t415.length co23) t415) := ⟨(by rw [hw]; exact (by (with_reducible repeat (first | apply Kd.R_alloc | apply Kd.R_drewN | apply Kd.R_drew)); exact Kd.R_mono (Kd.R_far (p := ⟨gb422, 3, none⟩) (Kd.R_far (p := ⟨gb422, 2, none⟩) (Kd.R_far (p := ⟨gb422, 1, none⟩) (Kd.R_far (p := ⟨gb422, 0, none⟩) (Kd.R_types HO417.out BK422.out (by decide)) (fun _ hk => hk.2) (.int .i64 t411)) (fun _ hk => hk.2) (.slice Ao22 t412.length co22)) (fun _ hk => hk.2) (.slice Ao23 t415.length co23)) (fun _ hk => hk.2) (.slice Ao24 t418.length co24)) (fun _ hk => hk.1)))⟩; have n2_ : Aside0 (Kd.R (Kd.int .i64) 3 w25 w.heap.size (fun k_ => some k_ ≠ (.slice Ao23 t415.length co23 : Value).ownBlock) (.slice Ao24 t418.length co24) t418) := ⟨(by rw [hw]; exact (by (with_reducible repeat (first | apply Kd.R_alloc | apply Kd.R_drewN | apply Kd.R_drew)); exact Kd.R_mono (Kd.R_far (p := ⟨gb422, 3, none⟩) (Kd.R_far (p := ⟨gb422, 2, none⟩) (Kd.R_far (p := ⟨gb422, 1, none⟩) (Kd.R_far (p := ⟨gb422, 0, none⟩) (Kd.R_types HO420.out BK422.out (by decide)) (fun _ hk => hk.2) (.int .i64 t411)) (fun _ hk => hk.2) (.slice Ao22 t412.length co22)) (fun _ hk => hk.2) (.slice Ao23 t415.length co23)) (fun _ hk => hk.2) (.slice Ao24 t418.length co24)) (fun _ hk => hk.1)))⟩; have n3_ : Aside0 (w25.heap[gb422]? = some (.cells #[.int .i64 t411, .slice Ao22 t412.length co22, .slice Ao23 t415.length co23, .slice Ao24 t418.length co24] 52 (0, 0))) := ⟨(by rw [hw]; exact (by (with_reducible repeat (first | refine blk_drewN ?_ _ | refine blk_drew ?_ | refine blk_alloc ?_ _)); refine blk_put (cs := #[.int .i64 t411, .slice Ao22 t412.length co22, .slice Ao23 t415.length co23, .slice none 0 0]) ?_ 3 _ rfl; (with_reducible repeat (first | refine blk_drewN ?_ _ | refine blk_drew ?_ | refine blk_alloc ?_ _)); refine blk_put (cs := #[.int .i64 t411, .slice Ao22 t412.length co22, .slice none 0 0, .slice none 0 0]) ?_ 2 _ rfl; (with_reducible repeat (first | refine blk_drewN ?_ _ | refine blk_drew ?_ | refine blk_alloc ?_ _)); refine blk_put (cs := #[.int .i64 t411, .slice none 0 0, .slice none 0 0, .slice none 0 0]) ?_ 1 _ rfl; (with_reducible repeat (first | refine blk_drewN ?_ _ | refine blk_drew ?_ | refine blk_alloc ?_ _)); refine blk_put (cs := #[.int .i64 0, .slice none 0 0, .slice none 0 0, .slice none 0 0]) ?_ 0 _ rfl; (with_reducible repeat (first | refine blk_drewN ?_ _ | refine blk_drew ?_ | refine blk_alloc ?_ _)); exact BK422.out))⟩; have n4_ : Aside0 (Below w.heap.size w w25) := ⟨(by rw [hw]; exact (bh HB.out))⟩; clear hw HO414 HO417 HO420 BK422 HB; have HO414 := n0_; have HO417 := n1_; have HO420 := n2_; have BK422 := n3_; have HB := n4_; clear n0_ n1_ n2_ n3_ n4_; have hcz26_0 : w25.cell? ⟨gb422, 0, none⟩ = some (.int .i64 t411) := (blk_cell BK422.out 0).trans rfl; have hcz26_1 : w25.cell? ⟨gb422, 1, none⟩ = some (.slice Ao22 t412.length co22) := (blk_cell BK422.out 1).trans rfl; have hcz26_2 : w25.cell? ⟨gb422, 2, none⟩ = some (.slice Ao23 t415.length co23) := (blk_cell BK422.out 2).trans rfl; have hcz26_3 : w25.cell? ⟨gb422, 3, none⟩ = some (.slice Ao24 t418.length co24) := (blk_cell BK422.out 3).trans rfl; have hfz26_0 := blk_frozen BK422.out 0; have hfz26_1 := blk_frozen BK422.out 1; have hfz26_2 := blk_frozen BK422.out 2; have hfz26_3 := blk_frozen BK422.out 3) | ((with_reducible refine gate_callee (f := 28) rfl ?_); refine goesL_ (some 35) rfl rfl Try.func28 (by kernel_rfl) rfl #[.slice A0 l0.length c0, .agg #[.int .i64 t411, .slice Ao22 t412.length co22, .slice Ao23 t415.length co23, .slice Ao24 t418.length co24]] rfl (by (try simp only [List.map_toArray, List.map_cons, List.map_nil]); first | done | rfl) ?_; (with_reducible refine (jindex_Follow.calls kj2 _ _ l0 t411 _ _ t412 _ _ t415 _ _ t418 t423 t424 t427 t430 t433 _ ?side1 ?side2 ?side3 ?side4 ?side5 ?side6 ?side7 ?side8 A12.out).mono ?_); (case side1 => exact cx (Kd.C_below HR0.out HB.out)); (case side2 => exact HC0.out); (case side3 => exact cx (Kd.R_reads' HO414.out).2.2); (case side4 => exact (Kd.R_reads' HO414.out).2.1); (case side5 => exact cx (Kd.R_reads' HO417.out).2.2); (case side6 => exact (Kd.R_reads' HO417.out).2.1); (case side7 => exact cx (Kd.R_reads' HO420.out).2.2); (case side8 => exact (Kd.R_reads' HO420.out).2.1); rintro e w27 ⟨v425, v428, v431, rfl, ho0, ho1, ho2, hb⟩; refine ⟨_, rfl, ?_⟩; have HO426 := Aside0.mk (Kd.R_lower (Kd.R_new' ho0 (Kd.R_lt (rx HO414.out))) (below_size (bh HB.out))); replace HO414 := Aside0.mk (Kd.R_elder' (rx HO414.out) (Kd.R_base ho0) hb); have HO429 := Aside0.mk (Kd.R_lower (Kd.R_new' (Kd.R_new' ho1 (Kd.R_lt (rx HO417.out))) (Kd.R_lt (rx HO420.out))) (below_size (bh HB.out))); have HO432 := Aside0.mk (Kd.R_lower (Kd.R_new' (Kd.R_new' ho2 (Kd.R_lt (rx HO417.out))) (Kd.R_lt (rx HO420.out))) (below_size (bh HB.out))); replace HO417 := Aside0.mk (Kd.R_mono (Kd.R_told (Kd.R_told (Kd.R_old (rx HO417.out) hb) (Kd.R_base ho1)) (Kd.R_base ho2)) (fun _ h_ => h_.1)); replace HO420 := Aside0.mk (Kd.R_mono (Kd.R_told (Kd.R_told (Kd.R_old (rx HO420.out) hb) (Kd.R_base ho1)) (Kd.R_base ho2)) (fun _ h_ => h_.1)); replace BK422 := bba BK422 hb; replace HB := bsa HB hb; (try clear hb); (try clear hk); (try clear ho0); (try clear ho1); (try clear ho2)) | ((with_reducible refine gate_dst (N := 7) rfl ?_); (try (refine gate_guard (by rfl) ?_; dsimp only)); refine box_event ?hg (N := 7) ?hd (cs := #[.int .i64 0, .slice none 0 0, .slice none 0 0, .slice none 0 0]) (t := 52) ?hr ?_; (case hd => rfl); (case hg => rfl); (case hr => first | (go_simp; done) | (go_simp; rfl)); intro gb434 hg w28 hbox hb; replace HO414 := rba HO414 hb; replace HO417 := rba HO417 hb; replace HO420 := rba HO420 hb; replace HO426 := rba HO426 hb; replace HO429 := rba HO429 hb; replace HO432 := rba HO432 hb; have BK434 := Aside0.mk (hbox); have GW434 := bza HB hg; have GE434 := bza HB hg; replace HB := bsa HB hb; have NB422_434 := bna BK422 hg; have NB434_422 := bma BK422 hg; replace BK422 := bba BK422 hb; clear hb hbox hg; have hnb29 := NB434_422.out; have hnc29 := NB422_434.out; have hcz30_0 : w28.cell? ⟨gb434, 0, none⟩ = some (.int .i64 0) := (blk_cell BK434.out 0).trans rfl; have hcz30_1 : w28.cell? ⟨gb434, 1, none⟩ = some (.slice none 0 0) := (blk_cell BK434.out 1).trans rfl; have hcz30_2 : w28.cell? ⟨gb434, 2, none⟩ = some (.slice none 0 0) := (blk_cell BK434.out 2).trans rfl; have hcz30_3 : w28.cell? ⟨gb434, 3, none⟩ = some (.slice none 0 0) := (blk_cell BK434.out 3).trans rfl; have hfz30_0 := blk_frozen BK434.out 0; have hfz30_1 := blk_frozen BK434.out 1; have hfz30_2 := blk_frozen BK434.out 2; have hfz30_3 := blk_frozen BK434.out 3; obtain ⟨Ao31, co31, eo31⟩ := Kd.R_slice HO426.out; subst eo31; obtain ⟨Ao32, co32, eo32⟩ := Kd.R_slice HO429.out; subst eo32; obtain ⟨Ao33, co33, eo33⟩ := Kd.R_slice HO432.out; subst eo33) | ((with_reducible refine gate_store (t := 52) (p := 7) rfl ?_); refine store_event (t := 52) (p := 7) (v := ?vo_w34) (w1 := ((((w28.setCell ⟨gb434, 0, none⟩ (.int .i64 t423)).setCell ⟨gb434, 1, none⟩ (.slice Ao31 t424.length co31)).setCell ⟨gb434, 2, none⟩ (.slice Ao32 t427.length co32)).setCell ⟨gb434, 3, none⟩ (.slice Ao33 t430.length co33))) ?hg ?ho ?hn ?hr ?_; (case ho => rfl); (case hg => rfl); (case hn => rfl); (case hr => first | (go_simp; done) | (go_simp; rfl)); intro w34 hw; have n0_ : Aside0 (Kd.R k79 79 w34 w.heap.size (fun k_ => some k_ ≠ (.slice Ao31 t424.length co31 : Value).ownBlock) (.slice Ao22 t412.length co22) t412) := ⟨(by rw [hw]; exact (by (with_reducible repeat (first | apply Kd.R_alloc | apply Kd.R_drewN | apply Kd.R_drew)); exact Kd.R_mono (Kd.R_far (p := ⟨gb434, 3, none⟩) (Kd.R_far (p := ⟨gb434, 2, none⟩) (Kd.R_far (p := ⟨gb434, 1, none⟩) (Kd.R_far (p := ⟨gb434, 0, none⟩) (Kd.R_types HO414.out BK434.out (by decide)) (fun _ hk => hk.2) (.int .i64 t423)) (fun _ hk => hk.2) (.slice Ao31 t424.length co31)) (fun _ hk => hk.2) (.slice Ao32 t427.length co32)) (fun _ hk => hk.2) (.slice Ao33 t430.length co33)) (fun _ hk => hk.1.2)))⟩; have n1_ : Aside0 (Kd.R (Kd.int .i64) 3 w34 w.heap.size (fun k_ => some k_ ≠ (.slice Ao24 t418.length co24 : Value).ownBlock ∧ some k_ ≠ (.slice Ao32 t427.length co32 : Value).ownBlock ∧ some k_ ≠ (.slice Ao33 t430.length co33 : Value).ownBlock) (.slice Ao23 t415.length co23) t415) := ⟨(by rw [hw]; exact (by (with_reducible repeat (first | apply Kd.R_alloc | apply Kd.R_drewN | apply Kd.R_drew)); exact Kd.R_mono (Kd.R_far (p := ⟨gb434, 3, none⟩) (Kd.R_far (p := ⟨gb434, 2, none⟩) (Kd.R_far (p := ⟨gb434, 1, none⟩) (Kd.R_far (p := ⟨gb434, 0, none⟩) (Kd.R_types HO417.out BK434.out (by decide)) (fun _ hk => hk.2) (.int .i64 t423)) (fun _ hk => hk.2) (.slice Ao31 t424.length co31)) (fun _ hk => hk.2) (.slice Ao32 t427.length co32)) (fun _ hk => hk.2) (.slice Ao33 t430.length co33)) (fun _ hk => ⟨hk.1.1.1, ⟨hk.1.1.2, hk.1.2⟩⟩)))⟩; have n2_ : Aside0 (Kd.R (Kd.int .i64) 3 w34 w.heap.size (fun k_ => some k_ ≠ (.slice Ao23 t415.length co23 : Value).ownBlock ∧ some k_ ≠ (.slice Ao32 t427.length co32 : Value).ownBlock ∧ some k_ ≠ (.slice Ao33 t430.length co33 : Value).ownBlock) (.slice Ao24 t418.length co24) t418) := ⟨(by rw [hw]; exact (by (with_reducible repeat (first | apply Kd.R_alloc | apply Kd.R_drewN | apply Kd.R_drew)); exact Kd.R_mono (Kd.R_far (p := ⟨gb434, 3, none⟩) (Kd.R_far (p := ⟨gb434, 2, none⟩) (Kd.R_far (p := ⟨gb434, 1, none⟩) (Kd.R_far (p := ⟨gb434, 0, none⟩) (Kd.R_types HO420.out BK434.out (by decide)) (fun _ hk => hk.2) (.int .i64 t423)) (fun _ hk => hk.2) (.slice Ao31 t424.length co31)) (fun _ hk => hk.2) (.slice Ao32 t427.length co32)) (fun _ hk => hk.2) (.slice Ao33 t430.length co33)) (fun _ hk => ⟨hk.1.1.1, ⟨hk.1.1.2, hk.1.2⟩⟩)))⟩; have n3_ : Aside0 (Kd.R k79 79 w34 w.heap.size (fun k_ => some k_ ≠ (.slice Ao22 t412.length co22 : Value).ownBlock) (.slice Ao31 t424.length co31) t424) := ⟨(by rw [hw]; exact (by (with_reducible repeat (first | apply Kd.R_alloc | apply Kd.R_drewN | apply Kd.R_drew)); exact Kd.R_mono (Kd.R_far (p := ⟨gb434, 3, none⟩) (Kd.R_far (p := ⟨gb434, 2, none⟩) (Kd.R_far (p := ⟨gb434, 1, none⟩) (Kd.R_far (p := ⟨gb434, 0, none⟩) (Kd.R_types HO426.out BK434.out (by decide)) (fun _ hk => hk.2) (.int .i64 t423)) (fun _ hk => hk.2) (.slice Ao31 t424.length co31)) (fun _ hk => hk.2) (.slice Ao32 t427.length co32)) (fun _ hk => hk.2) (.slice Ao33 t430.length co33)) (fun _ hk => hk.1.2)))⟩; have n4_ : Aside0 (Kd.R (Kd.int .i64) 3 w34 w.heap.size (fun k_ => some k_ ≠ (.slice Ao23 t415.length co23 : Value).ownBlock ∧ some k_ ≠ (.slice Ao24 t418.length co24 : Value).ownBlock ∧ some k_ ≠ (.slice Ao33 t430.length co33 : Value).ownBlock) (.slice Ao32 t427.length co32) t427) := ⟨(by rw [hw]; exact (by (with_reducible repeat (first | apply Kd.R_alloc | apply Kd.R_drewN | apply Kd.R_drew)); exact Kd.R_mono (Kd.R_far (p := ⟨gb434, 3, none⟩) (Kd.R_far (p := ⟨gb434, 2, none⟩) (Kd.R_far (p := ⟨gb434, 1, none⟩) (Kd.R_far (p := ⟨gb434, 0, none⟩) (Kd.R_types HO429.out BK434.out (by decide)) (fun _ hk => hk.2) (.int .i64 t423)) (fun _ hk => hk.2) (.slice Ao31 t424.length co31)) (fun _ hk => hk.2) (.slice Ao32 t427.length co32)) (fun _ hk => hk.2) (.slice Ao33 t430.length co33)) (fun _ hk => ⟨hk.1.1.2, ⟨hk.1.2, hk.1.1.1⟩⟩)))⟩; have n5_ : Aside0 (Kd.R (Kd.int .i64) 3 w34 w.heap.size (fun k_ => some k_ ≠ (.slice Ao23 t415.length co23 : Value).ownBlock ∧ some k_ ≠ (.slice Ao24 t418.length co24 : Value).ownBlock ∧ some k_ ≠ (.slice Ao32 t427.length co32 : Value).ownBlock) (.slice Ao33 t430.length co33) t430) := ⟨(by rw [hw]; exact (by (with_reducible repeat (first | apply Kd.R_alloc | apply Kd.R_drewN | apply Kd.R_drew)); exact Kd.R_mono (Kd.R_far (p := ⟨gb434, 3, none⟩) (Kd.R_far (p := ⟨gb434, 2, none⟩) (Kd.R_far (p := ⟨gb434, 1, none⟩) (Kd.R_far (p := ⟨gb434, 0, none⟩) (Kd.R_types HO432.out BK434.out (by decide)) (fun _ hk => hk.2) (.int .i64 t423)) (fun _ hk => hk.2) (.slice Ao31 t424.length co31)) (fun _ hk => hk.2) (.slice Ao32 t427.length co32)) (fun _ hk => hk.2) (.slice Ao33 t430.length co33)) (fun _ hk => ⟨hk.1.1.2, ⟨hk.1.2, hk.1.1.1⟩⟩)))⟩; have n6_ : Aside0 (w34.heap[gb422]? = some (.cells #[.int .i64 t411, .slice Ao22 t412.length co22, .slice Ao23 t415.length co23, .slice Ao24 t418.length co24] 52 (0, 0))) := ⟨(by rw [hw]; exact (bx BK422.out))⟩; have n7_ : Aside0 (w34.heap[gb434]? = some (.cells #[.int .i64 t423, .slice Ao31 t424.length co31, .slice Ao32 t427.length co32, .slice Ao33 t430.length co33] 52 (0, 0))) := ⟨(by rw [hw]; exact (by (with_reducible repeat (first | refine blk_drewN ?_ _ | refine blk_drew ?_ | refine blk_alloc ?_ _)); refine blk_put (cs := #[.int .i64 t423, .slice Ao31 t424.length co31, .slice Ao32 t427.length co32, .slice none 0 0]) ?_ 3 _ rfl; (with_reducible repeat (first | refine blk_drewN ?_ _ | refine blk_drew ?_ | refine blk_alloc ?_ _)); refine blk_put (cs := #[.int .i64 t423, .slice Ao31 t424.length co31, .slice none 0 0, .slice none 0 0]) ?_ 2 _ rfl; (with_reducible repeat (first | refine blk_drewN ?_ _ | refine blk_drew ?_ | refine blk_alloc ?_ _)); refine blk_put (cs := #[.int .i64 t423, .slice none 0 0, .slice none 0 0, .slice none 0 0]) ?_ 1 _ rfl; (with_reducible repeat (first | refine blk_drewN ?_ _ | refine blk_drew ?_ | refine blk_alloc ?_ _)); refine blk_put (cs := #[.int .i64 0, .slice none 0 0, .slice none 0 0, .slice none 0 0]) ?_ 0 _ rfl; (with_reducible repeat (first | refine blk_drewN ?_ _ | refine blk_drew ?_ | refine blk_alloc ?_ _)); exact BK434.out))⟩; have n8_ : Aside0 (Below w.heap.size w w34) := ⟨(by rw [hw]; exact (bh HB.out))⟩; clear hw HO414 HO417 HO420 HO426 HO429 HO432 BK422 BK434 HB; have HO414 := n0_; have HO417 := n1_; have HO420 := n2_; have HO426 := n3_; have HO429 := n4_; have HO432 := n5_; have BK422 := n6_; have BK434 := n7_; have HB := n8_; clear n0_ n1_ n2_ n3_ n4_ n5_ n6_ n7_ n8_) | ((with_reducible refine gate_callee (f := 11) rfl ?_); refine goesL_ (some 39) rfl rfl Try.func11 (by kernel_rfl) rfl #[.slice A0 l0.length c0] rfl (by (try simp only [List.map_toArray, List.map_cons, List.map_nil]); first | done | rfl) ?_; (with_reducible refine (peristyleref26_May.calls kj2 _ _ l0 true _ ?side1 ?side2 A13.out).mono ?_); (case side1 => exact cx (Kd.C_below HR0.out HB.out)); (case side2 => exact HC0.out); rintro e w35 ⟨rfl, hb⟩; refine ⟨_, rfl, ?_⟩; replace HO414 := rba HO414 hb; replace HO417 := rba HO417 hb; replace HO420 := rba HO420 hb; replace HO426 := rba HO426 hb; replace HO429 := rba HO429 hb; replace HO432 := rba HO432 hb; replace BK422 := bba BK422 hb; replace BK434 := bba BK434 hb; replace HB := bsa HB hb; (try clear hb); (try clear hk)) | ((with_reducible refine gate_callee (f := 29) rfl ?_); refine goesL_ (some 47) rfl rfl Try.func29 (by kernel_rfl) rfl #[.slice A1 l1.length c1] rfl (by (try simp only [List.map_toArray, List.map_cons, List.map_nil]); first | done | rfl) ?_; (with_reducible refine (peristyleref14_Top.calls _ _ l1 t437 _ ?side1 ?side2 A15.out).mono ?_); (case side1 => exact cx (Kd.C_below HR1.out HB.out)); (case side2 => exact HC1.out); rintro e w' ⟨rfl, ⟨nd, rfl⟩⟩; refine ⟨_, rfl, ?_⟩) | (go_at_call 7; (with_reducible refine (peristylelaw26_awake.calls kj2  t438 _ A18.out).mono ?_); rintro e w36 ⟨rfl, hb⟩; replace HO414 := rba HO414 hb; replace HO417 := rba HO417 hb; replace HO420 := rba HO420 hb; replace HO426 := rba HO426 hb; replace HO429 := rba HO429 hb; replace HO432 := rba HO432 hb; replace BK422 := bba BK422 hb; replace BK434 := bba BK434 hb; replace HB := bsa HB hb; (try clear hb); (try clear hk); (try clear A18)))
       go_ret
       exact ⟨er, bh HB.out⟩
      ·rw [if_neg c17] at H
       exact absurd H (by simp)
     ·rw [if_neg c16] at H
      have c16b0 : decide ((l0.length : Int) < t437) = false := decide_eq_false c16
      clear c16
      replace H := Option.bind_eq_some_iff.mp H
      obtain ⟨⟨t439, t440⟩, A370, H⟩ := H
      replace H : ((peristyleref26_Follow.f kj2 l0 t439).bind fun t443 => ((peristyleref14_Of.f kj2 t443).bind fun bt446 => (if t433 = 0 then ((poslist_List_Spans.f kj2 t423 t424 t427 t430).bind fun t450 => ((peristyleref14_Same.f kj2 t450 bt446.1).bind fun t453 => (if t453 = true then ((poslist_List_Count.f kj2 t423 t424 t427 t430).bind fun t454 => (if t454 = (t439.length : Int) then ((peristylelaw26_awake.f kj2).bind fun t455 => (some t455)) else (none))) else (none)))) else (none)))) = some r := H
      have A37 := Aside0.mk A370
      clear A370
      replace H := Option.bind_eq_some_iff.mp H
      obtain ⟨t443, A380, H⟩ := H
      replace H : ((peristyleref14_Of.f kj2 t443).bind fun bt446 => (if t433 = 0 then ((poslist_List_Spans.f kj2 t423 t424 t427 t430).bind fun t450 => ((peristyleref14_Same.f kj2 t450 bt446.1).bind fun t453 => (if t453 = true then ((poslist_List_Count.f kj2 t423 t424 t427 t430).bind fun t454 => (if t454 = (t439.length : Int) then ((peristylelaw26_awake.f kj2).bind fun t455 => (some t455)) else (none))) else (none)))) else (none))) = some r := H
      have A38 := Aside0.mk A380
      clear A380
      replace H := Option.bind_eq_some_iff.mp H
      obtain ⟨⟨t446, t447⟩, A390, H⟩ := H
      replace H : (if t433 = 0 then ((poslist_List_Spans.f kj2 t423 t424 t427 t430).bind fun t450 => ((peristyleref14_Same.f kj2 t450 t446).bind fun t453 => (if t453 = true then ((poslist_List_Count.f kj2 t423 t424 t427 t430).bind fun t454 => (if t454 = (t439.length : Int) then ((peristylelaw26_awake.f kj2).bind fun t455 => (some t455)) else (none))) else (none)))) else (none)) = some r := H
      have A39 := Aside0.mk A390
      clear A390
      by_cases c40 : t433 = 0
      ·rw [if_pos c40] at H
       have c40b0 : (t433 == 0) = true := beq_iff_eq.mpr c40
       have c40b1 : (t433 != 0) = false := bne_eq_false_iff_eq.mpr c40
       clear c40
       replace H := Option.bind_eq_some_iff.mp H
       obtain ⟨t450, A410, H⟩ := H
       replace H : ((peristyleref14_Same.f kj2 t450 t446).bind fun t453 => (if t453 = true then ((poslist_List_Count.f kj2 t423 t424 t427 t430).bind fun t454 => (if t454 = (t439.length : Int) then ((peristylelaw26_awake.f kj2).bind fun t455 => (some t455)) else (none))) else (none))) = some r := H
       have A41 := Aside0.mk A410
       clear A410
       replace H := Option.bind_eq_some_iff.mp H
       obtain ⟨t453, A420, H⟩ := H
       replace H : (if t453 = true then ((poslist_List_Count.f kj2 t423 t424 t427 t430).bind fun t454 => (if t454 = (t439.length : Int) then ((peristylelaw26_awake.f kj2).bind fun t455 => (some t455)) else (none))) else (none)) = some r := H
       have A42 := Aside0.mk A420
       clear A420
       by_cases c43 : t453 = true
       ·subst c43
        have H1 : ((poslist_List_Count.f kj2 t423 t424 t427 t430).bind fun t454 => (if t454 = (t439.length : Int) then ((peristylelaw26_awake.f kj2).bind fun t455 => (some t455)) else (none))) = some r := by rw [if_pos rfl] at H; exact H
        clear H
        have H := H1
        clear H1
        replace H := Option.bind_eq_some_iff.mp H
        obtain ⟨t454, A440, H⟩ := H
        replace H : (if t454 = (t439.length : Int) then ((peristylelaw26_awake.f kj2).bind fun t455 => (some t455)) else (none)) = some r := H
        have A44 := Aside0.mk A440
        clear A440
        by_cases c45 : t454 = (t439.length : Int)
        ·rw [if_pos c45] at H
         have c45b0 : (t454 == (t439.length : Int)) = true := beq_iff_eq.mpr c45
         have c45b1 : (t454 != (t439.length : Int)) = false := bne_eq_false_iff_eq.mpr c45
         clear c45
         replace H := Option.bind_eq_some_iff.mp H
         obtain ⟨t455, A460, H⟩ := H
         replace H : (some t455) = some r := H
         have A46 := Aside0.mk A460
         clear A460
         obtain rfl := Option.some.inj H
         go_wp2_with (first | ((with_reducible refine gate_callee (f := 27) rfl ?_); refine goesL_ (some 29) rfl rfl Try.func27 (by kernel_rfl) rfl #[.slice A1 l1.length c1] rfl (by (try simp only [List.map_toArray, List.map_cons, List.map_nil]); first | done | rfl) ?_; (with_reducible refine (poslist_Best.calls kj2 _ _ l1 t411 t412 t415 t418 t421 _ ?side1 ?side2 A11.out).mono ?_); (case side1 => exact cx (Kd.C_below HR1.out HB.out)); (case side2 => exact HC1.out); rintro e w47 ⟨v413, v416, v419, rfl, ho0, ho1, ho2, hb⟩; refine ⟨_, rfl, ?_⟩; have HO414 := Aside0.mk (Kd.R_lower ho0 (below_size (bh HB.out))); have HO417 := Aside0.mk (Kd.R_lower ho1 (below_size (bh HB.out))); have HO420 := Aside0.mk (Kd.R_lower ho2 (below_size (bh HB.out))); replace HB := bsa HB hb; (try clear hb); (try clear hk); (try clear ho0); (try clear ho1); (try clear ho2)) | ((with_reducible refine gate_dst (N := 5) rfl ?_); (try (refine gate_guard (by rfl) ?_; dsimp only)); refine box_event ?hg (N := 5) ?hd (cs := #[.int .i64 0, .slice none 0 0, .slice none 0 0, .slice none 0 0]) (t := 52) ?hr ?_; (case hd => rfl); (case hg => rfl); (case hr => first | (go_simp; done) | (go_simp; rfl)); intro gb422 hg w48 hbox hb; replace HO414 := rba HO414 hb; replace HO417 := rba HO417 hb; replace HO420 := rba HO420 hb; have BK422 := Aside0.mk (hbox); have GW422 := bza HB hg; have GE422 := bza HB hg; replace HB := bsa HB hb; clear hb hbox hg; have hcz49_0 : w48.cell? ⟨gb422, 0, none⟩ = some (.int .i64 0) := (blk_cell BK422.out 0).trans rfl; have hcz49_1 : w48.cell? ⟨gb422, 1, none⟩ = some (.slice none 0 0) := (blk_cell BK422.out 1).trans rfl; have hcz49_2 : w48.cell? ⟨gb422, 2, none⟩ = some (.slice none 0 0) := (blk_cell BK422.out 2).trans rfl; have hcz49_3 : w48.cell? ⟨gb422, 3, none⟩ = some (.slice none 0 0) := (blk_cell BK422.out 3).trans rfl; have hfz49_0 := blk_frozen BK422.out 0; have hfz49_1 := blk_frozen BK422.out 1; have hfz49_2 := blk_frozen BK422.out 2; have hfz49_3 := blk_frozen BK422.out 3; obtain ⟨Ao50, co50, eo50⟩ := Kd.R_slice HO414.out; subst eo50; obtain ⟨Ao51, co51, eo51⟩ := Kd.R_slice HO417.out; subst eo51; obtain ⟨Ao52, co52, eo52⟩ := Kd.R_slice HO420.out; subst eo52) | ((with_reducible refine gate_store (t := 52) (p := 5) rfl ?_); refine store_event (t := 52) (p := 5) (v := ?vo_w53) (w1 := ((((w48.setCell ⟨gb422, 0, none⟩ (.int .i64 t411)).setCell ⟨gb422, 1, none⟩ (.slice Ao50 t412.length co50)).setCell ⟨gb422, 2, none⟩ (.slice Ao51 t415.length co51)).setCell ⟨gb422, 3, none⟩ (.slice Ao52 t418.length co52))) ?hg ?ho ?hn ?hr ?_; (case ho => rfl); (case hg => rfl); (case hn => rfl); (case hr => first | (go_simp; done) | (go_simp; rfl)); intro w53 hw; have n0_ : Aside0 (Kd.R k79 79 w53 w.heap.size (fun _ => True) (.slice Ao50 t412.length co50) t412) := ⟨(by rw [hw]; exact (by (with_reducible repeat (first | apply Kd.R_alloc | apply Kd.R_drewN | apply Kd.R_drew)); exact Kd.R_mono (Kd.R_far (p := ⟨gb422, 3, none⟩) (Kd.R_far (p := ⟨gb422, 2, none⟩) (Kd.R_far (p := ⟨gb422, 1, none⟩) (Kd.R_far (p := ⟨gb422, 0, none⟩) (Kd.R_types HO414.out BK422.out (by decide)) (fun _ hk => hk.2) (.int .i64 t411)) (fun _ hk => hk.2) (.slice Ao50 t412.length co50)) (fun _ hk => hk.2) (.slice Ao51 t415.length co51)) (fun _ hk => hk.2) (.slice Ao52 t418.length co52)) (fun _ hk => trivial)))⟩; have n1_ : Aside0 (Kd.R (Kd.int .i64) 3 w53 w.heap.size (fun k_ => some k_ ≠ (.slice Ao52 t418.length co52 : Value).ownBlock) (.slice Ao51 t415.length co51) t415) := ⟨(by rw [hw]; exact (by (with_reducible repeat (first | apply Kd.R_alloc | apply Kd.R_drewN | apply Kd.R_drew)); exact Kd.R_mono (Kd.R_far (p := ⟨gb422, 3, none⟩) (Kd.R_far (p := ⟨gb422, 2, none⟩) (Kd.R_far (p := ⟨gb422, 1, none⟩) (Kd.R_far (p := ⟨gb422, 0, none⟩) (Kd.R_types HO417.out BK422.out (by decide)) (fun _ hk => hk.2) (.int .i64 t411)) (fun _ hk => hk.2) (.slice Ao50 t412.length co50)) (fun _ hk => hk.2) (.slice Ao51 t415.length co51)) (fun _ hk => hk.2) (.slice Ao52 t418.length co52)) (fun _ hk => hk.1)))⟩; have n2_ : Aside0 (Kd.R (Kd.int .i64) 3 w53 w.heap.size (fun k_ => some k_ ≠ (.slice Ao51 t415.length co51 : Value).ownBlock) (.slice Ao52 t418.length co52) t418) := ⟨(by rw [hw]; exact (by (with_reducible repeat (first | apply Kd.R_alloc | apply Kd.R_drewN | apply Kd.R_drew)); exact Kd.R_mono (Kd.R_far (p := ⟨gb422, 3, none⟩) (Kd.R_far (p := ⟨gb422, 2, none⟩) (Kd.R_far (p := ⟨gb422, 1, none⟩) (Kd.R_far (p := ⟨gb422, 0, none⟩) (Kd.R_types HO420.out BK422.out (by decide)) (fun _ hk => hk.2) (.int .i64 t411)) (fun _ hk => hk.2) (.slice Ao50 t412.length co50)) (fun _ hk => hk.2) (.slice Ao51 t415.length co51)) (fun _ hk => hk.2) (.slice Ao52 t418.length co52)) (fun _ hk => hk.1)))⟩; have n3_ : Aside0 (w53.heap[gb422]? = some (.cells #[.int .i64 t411, .slice Ao50 t412.length co50, .slice Ao51 t415.length co51, .slice Ao52 t418.length co52] 52 (0, 0))) := ⟨(by rw [hw]; exact (by (with_reducible repeat (first | refine blk_drewN ?_ _ | refine blk_drew ?_ | refine blk_alloc ?_ _)); refine blk_put (cs := #[.int .i64 t411, .slice Ao50 t412.length co50, .slice Ao51 t415.length co51, .slice none 0 0]) ?_ 3 _ rfl; (with_reducible repeat (first | refine blk_drewN ?_ _ | refine blk_drew ?_ | refine blk_alloc ?_ _)); refine blk_put (cs := #[.int .i64 t411, .slice Ao50 t412.length co50, .slice none 0 0, .slice none 0 0]) ?_ 2 _ rfl; (with_reducible repeat (first | refine blk_drewN ?_ _ | refine blk_drew ?_ | refine blk_alloc ?_ _)); refine blk_put (cs := #[.int .i64 t411, .slice none 0 0, .slice none 0 0, .slice none 0 0]) ?_ 1 _ rfl; (with_reducible repeat (first | refine blk_drewN ?_ _ | refine blk_drew ?_ | refine blk_alloc ?_ _)); refine blk_put (cs := #[.int .i64 0, .slice none 0 0, .slice none 0 0, .slice none 0 0]) ?_ 0 _ rfl; (with_reducible repeat (first | refine blk_drewN ?_ _ | refine blk_drew ?_ | refine blk_alloc ?_ _)); exact BK422.out))⟩; have n4_ : Aside0 (Below w.heap.size w w53) := ⟨(by rw [hw]; exact (bh HB.out))⟩; clear hw HO414 HO417 HO420 BK422 HB; have HO414 := n0_; have HO417 := n1_; have HO420 := n2_; have BK422 := n3_; have HB := n4_; clear n0_ n1_ n2_ n3_ n4_; have hcz54_0 : w53.cell? ⟨gb422, 0, none⟩ = some (.int .i64 t411) := (blk_cell BK422.out 0).trans rfl; have hcz54_1 : w53.cell? ⟨gb422, 1, none⟩ = some (.slice Ao50 t412.length co50) := (blk_cell BK422.out 1).trans rfl; have hcz54_2 : w53.cell? ⟨gb422, 2, none⟩ = some (.slice Ao51 t415.length co51) := (blk_cell BK422.out 2).trans rfl; have hcz54_3 : w53.cell? ⟨gb422, 3, none⟩ = some (.slice Ao52 t418.length co52) := (blk_cell BK422.out 3).trans rfl; have hfz54_0 := blk_frozen BK422.out 0; have hfz54_1 := blk_frozen BK422.out 1; have hfz54_2 := blk_frozen BK422.out 2; have hfz54_3 := blk_frozen BK422.out 3) | ((with_reducible refine gate_callee (f := 28) rfl ?_); refine goesL_ (some 35) rfl rfl Try.func28 (by kernel_rfl) rfl #[.slice A0 l0.length c0, .agg #[.int .i64 t411, .slice Ao50 t412.length co50, .slice Ao51 t415.length co51, .slice Ao52 t418.length co52]] rfl (by (try simp only [List.map_toArray, List.map_cons, List.map_nil]); first | done | rfl) ?_; (with_reducible refine (jindex_Follow.calls kj2 _ _ l0 t411 _ _ t412 _ _ t415 _ _ t418 t423 t424 t427 t430 t433 _ ?side1 ?side2 ?side3 ?side4 ?side5 ?side6 ?side7 ?side8 A12.out).mono ?_); (case side1 => exact cx (Kd.C_below HR0.out HB.out)); (case side2 => exact HC0.out); (case side3 => exact cx (Kd.R_reads' HO414.out).2.2); (case side4 => exact (Kd.R_reads' HO414.out).2.1); (case side5 => exact cx (Kd.R_reads' HO417.out).2.2); (case side6 => exact (Kd.R_reads' HO417.out).2.1); (case side7 => exact cx (Kd.R_reads' HO420.out).2.2); (case side8 => exact (Kd.R_reads' HO420.out).2.1); rintro e w55 ⟨v425, v428, v431, rfl, ho0, ho1, ho2, hb⟩; refine ⟨_, rfl, ?_⟩; have HO426 := Aside0.mk (Kd.R_lower (Kd.R_new' ho0 (Kd.R_lt (rx HO414.out))) (below_size (bh HB.out))); replace HO414 := Aside0.mk (Kd.R_elder' (rx HO414.out) (Kd.R_base ho0) hb); have HO429 := Aside0.mk (Kd.R_lower (Kd.R_new' (Kd.R_new' ho1 (Kd.R_lt (rx HO417.out))) (Kd.R_lt (rx HO420.out))) (below_size (bh HB.out))); have HO432 := Aside0.mk (Kd.R_lower (Kd.R_new' (Kd.R_new' ho2 (Kd.R_lt (rx HO417.out))) (Kd.R_lt (rx HO420.out))) (below_size (bh HB.out))); replace HO417 := Aside0.mk (Kd.R_mono (Kd.R_told (Kd.R_told (Kd.R_old (rx HO417.out) hb) (Kd.R_base ho1)) (Kd.R_base ho2)) (fun _ h_ => h_.1)); replace HO420 := Aside0.mk (Kd.R_mono (Kd.R_told (Kd.R_told (Kd.R_old (rx HO420.out) hb) (Kd.R_base ho1)) (Kd.R_base ho2)) (fun _ h_ => h_.1)); replace BK422 := bba BK422 hb; replace HB := bsa HB hb; (try clear hb); (try clear hk); (try clear ho0); (try clear ho1); (try clear ho2)) | ((with_reducible refine gate_dst (N := 7) rfl ?_); (try (refine gate_guard (by rfl) ?_; dsimp only)); refine box_event ?hg (N := 7) ?hd (cs := #[.int .i64 0, .slice none 0 0, .slice none 0 0, .slice none 0 0]) (t := 52) ?hr ?_; (case hd => rfl); (case hg => rfl); (case hr => first | (go_simp; done) | (go_simp; rfl)); intro gb434 hg w56 hbox hb; replace HO414 := rba HO414 hb; replace HO417 := rba HO417 hb; replace HO420 := rba HO420 hb; replace HO426 := rba HO426 hb; replace HO429 := rba HO429 hb; replace HO432 := rba HO432 hb; have BK434 := Aside0.mk (hbox); have GW434 := bza HB hg; have GE434 := bza HB hg; replace HB := bsa HB hb; have NB422_434 := bna BK422 hg; have NB434_422 := bma BK422 hg; replace BK422 := bba BK422 hb; clear hb hbox hg; have hnb57 := NB434_422.out; have hnc57 := NB422_434.out; have hcz58_0 : w56.cell? ⟨gb434, 0, none⟩ = some (.int .i64 0) := (blk_cell BK434.out 0).trans rfl; have hcz58_1 : w56.cell? ⟨gb434, 1, none⟩ = some (.slice none 0 0) := (blk_cell BK434.out 1).trans rfl; have hcz58_2 : w56.cell? ⟨gb434, 2, none⟩ = some (.slice none 0 0) := (blk_cell BK434.out 2).trans rfl; have hcz58_3 : w56.cell? ⟨gb434, 3, none⟩ = some (.slice none 0 0) := (blk_cell BK434.out 3).trans rfl; have hfz58_0 := blk_frozen BK434.out 0; have hfz58_1 := blk_frozen BK434.out 1; have hfz58_2 := blk_frozen BK434.out 2; have hfz58_3 := blk_frozen BK434.out 3; obtain ⟨Ao59, co59, eo59⟩ := Kd.R_slice HO426.out; subst eo59; obtain ⟨Ao60, co60, eo60⟩ := Kd.R_slice HO429.out; subst eo60; obtain ⟨Ao61, co61, eo61⟩ := Kd.R_slice HO432.out; subst eo61) | ((with_reducible refine gate_store (t := 52) (p := 7) rfl ?_); refine store_event (t := 52) (p := 7) (v := ?vo_w62) (w1 := ((((w56.setCell ⟨gb434, 0, none⟩ (.int .i64 t423)).setCell ⟨gb434, 1, none⟩ (.slice Ao59 t424.length co59)).setCell ⟨gb434, 2, none⟩ (.slice Ao60 t427.length co60)).setCell ⟨gb434, 3, none⟩ (.slice Ao61 t430.length co61))) ?hg ?ho ?hn ?hr ?_; (case ho => rfl); (case hg => rfl); (case hn => rfl); (case hr => first | (go_simp; done) | (go_simp; rfl)); intro w62 hw; have n0_ : Aside0 (Kd.R k79 79 w62 w.heap.size (fun k_ => some k_ ≠ (.slice Ao59 t424.length co59 : Value).ownBlock) (.slice Ao50 t412.length co50) t412) := ⟨(by rw [hw]; exact (by (with_reducible repeat (first | apply Kd.R_alloc | apply Kd.R_drewN | apply Kd.R_drew)); exact Kd.R_mono (Kd.R_far (p := ⟨gb434, 3, none⟩) (Kd.R_far (p := ⟨gb434, 2, none⟩) (Kd.R_far (p := ⟨gb434, 1, none⟩) (Kd.R_far (p := ⟨gb434, 0, none⟩) (Kd.R_types HO414.out BK434.out (by decide)) (fun _ hk => hk.2) (.int .i64 t423)) (fun _ hk => hk.2) (.slice Ao59 t424.length co59)) (fun _ hk => hk.2) (.slice Ao60 t427.length co60)) (fun _ hk => hk.2) (.slice Ao61 t430.length co61)) (fun _ hk => hk.1.2)))⟩; have n1_ : Aside0 (Kd.R (Kd.int .i64) 3 w62 w.heap.size (fun k_ => some k_ ≠ (.slice Ao52 t418.length co52 : Value).ownBlock ∧ some k_ ≠ (.slice Ao60 t427.length co60 : Value).ownBlock ∧ some k_ ≠ (.slice Ao61 t430.length co61 : Value).ownBlock) (.slice Ao51 t415.length co51) t415) := ⟨(by rw [hw]; exact (by (with_reducible repeat (first | apply Kd.R_alloc | apply Kd.R_drewN | apply Kd.R_drew)); exact Kd.R_mono (Kd.R_far (p := ⟨gb434, 3, none⟩) (Kd.R_far (p := ⟨gb434, 2, none⟩) (Kd.R_far (p := ⟨gb434, 1, none⟩) (Kd.R_far (p := ⟨gb434, 0, none⟩) (Kd.R_types HO417.out BK434.out (by decide)) (fun _ hk => hk.2) (.int .i64 t423)) (fun _ hk => hk.2) (.slice Ao59 t424.length co59)) (fun _ hk => hk.2) (.slice Ao60 t427.length co60)) (fun _ hk => hk.2) (.slice Ao61 t430.length co61)) (fun _ hk => ⟨hk.1.1.1, ⟨hk.1.1.2, hk.1.2⟩⟩)))⟩; have n2_ : Aside0 (Kd.R (Kd.int .i64) 3 w62 w.heap.size (fun k_ => some k_ ≠ (.slice Ao51 t415.length co51 : Value).ownBlock ∧ some k_ ≠ (.slice Ao60 t427.length co60 : Value).ownBlock ∧ some k_ ≠ (.slice Ao61 t430.length co61 : Value).ownBlock) (.slice Ao52 t418.length co52) t418) := ⟨(by rw [hw]; exact (by (with_reducible repeat (first | apply Kd.R_alloc | apply Kd.R_drewN | apply Kd.R_drew)); exact Kd.R_mono (Kd.R_far (p := ⟨gb434, 3, none⟩) (Kd.R_far (p := ⟨gb434, 2, none⟩) (Kd.R_far (p := ⟨gb434, 1, none⟩) (Kd.R_far (p := ⟨gb434, 0, none⟩) (Kd.R_types HO420.out BK434.out (by decide)) (fun _ hk => hk.2) (.int .i64 t423)) (fun _ hk => hk.2) (.slice Ao59 t424.length co59)) (fun _ hk => hk.2) (.slice Ao60 t427.length co60)) (fun _ hk => hk.2) (.slice Ao61 t430.length co61)) (fun _ hk => ⟨hk.1.1.1, ⟨hk.1.1.2, hk.1.2⟩⟩)))⟩; have n3_ : Aside0 (Kd.R k79 79 w62 w.heap.size (fun k_ => some k_ ≠ (.slice Ao50 t412.length co50 : Value).ownBlock) (.slice Ao59 t424.length co59) t424) := ⟨(by rw [hw]; exact (by (with_reducible repeat (first | apply Kd.R_alloc | apply Kd.R_drewN | apply Kd.R_drew)); exact Kd.R_mono (Kd.R_far (p := ⟨gb434, 3, none⟩) (Kd.R_far (p := ⟨gb434, 2, none⟩) (Kd.R_far (p := ⟨gb434, 1, none⟩) (Kd.R_far (p := ⟨gb434, 0, none⟩) (Kd.R_types HO426.out BK434.out (by decide)) (fun _ hk => hk.2) (.int .i64 t423)) (fun _ hk => hk.2) (.slice Ao59 t424.length co59)) (fun _ hk => hk.2) (.slice Ao60 t427.length co60)) (fun _ hk => hk.2) (.slice Ao61 t430.length co61)) (fun _ hk => hk.1.2)))⟩; have n4_ : Aside0 (Kd.R (Kd.int .i64) 3 w62 w.heap.size (fun k_ => some k_ ≠ (.slice Ao51 t415.length co51 : Value).ownBlock ∧ some k_ ≠ (.slice Ao52 t418.length co52 : Value).ownBlock ∧ some k_ ≠ (.slice Ao61 t430.length co61 : Value).ownBlock) (.slice Ao60 t427.length co60) t427) := ⟨(by rw [hw]; exact (by (with_reducible repeat (first | apply Kd.R_alloc | apply Kd.R_drewN | apply Kd.R_drew)); exact Kd.R_mono (Kd.R_far (p := ⟨gb434, 3, none⟩) (Kd.R_far (p := ⟨gb434, 2, none⟩) (Kd.R_far (p := ⟨gb434, 1, none⟩) (Kd.R_far (p := ⟨gb434, 0, none⟩) (Kd.R_types HO429.out BK434.out (by decide)) (fun _ hk => hk.2) (.int .i64 t423)) (fun _ hk => hk.2) (.slice Ao59 t424.length co59)) (fun _ hk => hk.2) (.slice Ao60 t427.length co60)) (fun _ hk => hk.2) (.slice Ao61 t430.length co61)) (fun _ hk => ⟨hk.1.1.2, ⟨hk.1.2, hk.1.1.1⟩⟩)))⟩; have n5_ : Aside0 (Kd.R (Kd.int .i64) 3 w62 w.heap.size (fun k_ => some k_ ≠ (.slice Ao51 t415.length co51 : Value).ownBlock ∧ some k_ ≠ (.slice Ao52 t418.length co52 : Value).ownBlock ∧ some k_ ≠ (.slice Ao60 t427.length co60 : Value).ownBlock) (.slice Ao61 t430.length co61) t430) := ⟨(by rw [hw]; exact (by (with_reducible repeat (first | apply Kd.R_alloc | apply Kd.R_drewN | apply Kd.R_drew)); exact Kd.R_mono (Kd.R_far (p := ⟨gb434, 3, none⟩) (Kd.R_far (p := ⟨gb434, 2, none⟩) (Kd.R_far (p := ⟨gb434, 1, none⟩) (Kd.R_far (p := ⟨gb434, 0, none⟩) (Kd.R_types HO432.out BK434.out (by decide)) (fun _ hk => hk.2) (.int .i64 t423)) (fun _ hk => hk.2) (.slice Ao59 t424.length co59)) (fun _ hk => hk.2) (.slice Ao60 t427.length co60)) (fun _ hk => hk.2) (.slice Ao61 t430.length co61)) (fun _ hk => ⟨hk.1.1.2, ⟨hk.1.2, hk.1.1.1⟩⟩)))⟩; have n6_ : Aside0 (w62.heap[gb422]? = some (.cells #[.int .i64 t411, .slice Ao50 t412.length co50, .slice Ao51 t415.length co51, .slice Ao52 t418.length co52] 52 (0, 0))) := ⟨(by rw [hw]; exact (bx BK422.out))⟩; have n7_ : Aside0 (w62.heap[gb434]? = some (.cells #[.int .i64 t423, .slice Ao59 t424.length co59, .slice Ao60 t427.length co60, .slice Ao61 t430.length co61] 52 (0, 0))) := ⟨(by rw [hw]; exact (by (with_reducible repeat (first | refine blk_drewN ?_ _ | refine blk_drew ?_ | refine blk_alloc ?_ _)); refine blk_put (cs := #[.int .i64 t423, .slice Ao59 t424.length co59, .slice Ao60 t427.length co60, .slice none 0 0]) ?_ 3 _ rfl; (with_reducible repeat (first | refine blk_drewN ?_ _ | refine blk_drew ?_ | refine blk_alloc ?_ _)); refine blk_put (cs := #[.int .i64 t423, .slice Ao59 t424.length co59, .slice none 0 0, .slice none 0 0]) ?_ 2 _ rfl; (with_reducible repeat (first | refine blk_drewN ?_ _ | refine blk_drew ?_ | refine blk_alloc ?_ _)); refine blk_put (cs := #[.int .i64 t423, .slice none 0 0, .slice none 0 0, .slice none 0 0]) ?_ 1 _ rfl; (with_reducible repeat (first | refine blk_drewN ?_ _ | refine blk_drew ?_ | refine blk_alloc ?_ _)); refine blk_put (cs := #[.int .i64 0, .slice none 0 0, .slice none 0 0, .slice none 0 0]) ?_ 0 _ rfl; (with_reducible repeat (first | refine blk_drewN ?_ _ | refine blk_drew ?_ | refine blk_alloc ?_ _)); exact BK434.out))⟩; have n8_ : Aside0 (Below w.heap.size w w62) := ⟨(by rw [hw]; exact (bh HB.out))⟩; clear hw HO414 HO417 HO420 HO426 HO429 HO432 BK422 BK434 HB; have HO414 := n0_; have HO417 := n1_; have HO420 := n2_; have HO426 := n3_; have HO429 := n4_; have HO432 := n5_; have BK422 := n6_; have BK434 := n7_; have HB := n8_; clear n0_ n1_ n2_ n3_ n4_ n5_ n6_ n7_ n8_) | ((with_reducible refine gate_callee (f := 11) rfl ?_); refine goesL_ (some 39) rfl rfl Try.func11 (by kernel_rfl) rfl #[.slice A0 l0.length c0] rfl (by (try simp only [List.map_toArray, List.map_cons, List.map_nil]); first | done | rfl) ?_; (with_reducible refine (peristyleref26_May.calls kj2 _ _ l0 true _ ?side1 ?side2 A13.out).mono ?_); (case side1 => exact cx (Kd.C_below HR0.out HB.out)); (case side2 => exact HC0.out); rintro e w63 ⟨rfl, hb⟩; refine ⟨_, rfl, ?_⟩; replace HO414 := rba HO414 hb; replace HO417 := rba HO417 hb; replace HO420 := rba HO420 hb; replace HO426 := rba HO426 hb; replace HO429 := rba HO429 hb; replace HO432 := rba HO432 hb; replace BK422 := bba BK422 hb; replace BK434 := bba BK434 hb; replace HB := bsa HB hb; (try clear hb); (try clear hk)) | ((with_reducible refine gate_callee (f := 29) rfl ?_); refine goesL_ (some 47) rfl rfl Try.func29 (by kernel_rfl) rfl #[.slice A1 l1.length c1] rfl (by (try simp only [List.map_toArray, List.map_cons, List.map_nil]); first | done | rfl) ?_; (with_reducible refine (peristyleref14_Top.calls _ _ l1 t437 _ ?side1 ?side2 A15.out).mono ?_); (case side1 => exact cx (Kd.C_below HR1.out HB.out)); (case side2 => exact HC1.out); rintro e w' ⟨rfl, ⟨nd, rfl⟩⟩; refine ⟨_, rfl, ?_⟩) | ((with_reducible refine gate_callee (f := 30) rfl ?_); refine goesL_ (some 58) rfl rfl Try.func30 (by kernel_rfl) rfl #[.slice A1 l1.length c1] rfl (by (try simp only [List.map_toArray, List.map_cons, List.map_nil]); first | done | rfl) ?_; (with_reducible refine (peristyleref14_Places.calls kj2 _ _ l1 t439 t440 _ ?side1 ?side2 A37.out).mono ?_); (case side1 => repeat (first | exact (Kd.C_below HR1.out (bh HB.out)) | (with_reducible refine Kd.C_alloc ?_ _) | (with_reducible refine Kd.C_drewN ?_ _) | (with_reducible refine Kd.C_drew ?_))); (case side2 => exact HC1.out); rintro e w64 ⟨v441, rfl, ho0, hb⟩; refine ⟨_, rfl, ?_⟩; replace HO414 := rba HO414 hb; replace HO426 := rba HO426 hb; have HO442 := Aside0.mk (Kd.R_lower (Kd.R_new' (Kd.R_new' (Kd.R_new' (Kd.R_new' ho0 (Kd.R_lt (rx HO417.out))) (Kd.R_lt (rx HO420.out))) (Kd.R_lt (rx HO429.out))) (Kd.R_lt (rx HO432.out))) (below_size (bh HB.out))); replace HO417 := Aside0.mk (Kd.R_elder' (rx HO417.out) (Kd.R_base ho0) hb); replace HO420 := Aside0.mk (Kd.R_elder' (rx HO420.out) (Kd.R_base ho0) hb); replace HO429 := Aside0.mk (Kd.R_elder' (rx HO429.out) (Kd.R_base ho0) hb); replace HO432 := Aside0.mk (Kd.R_elder' (rx HO432.out) (Kd.R_base ho0) hb); replace BK422 := bba BK422 hb; replace BK434 := bba BK434 hb; replace HB := bsa HB hb; (try clear hb); (try clear hk); (try clear ho0); obtain ⟨Ao65, co65, eo65⟩ := Kd.R_slice HO442.out; subst eo65) | ((with_reducible refine gate_callee (f := 32) rfl ?_); refine goesL_ (some 64) rfl rfl Try.func32 (by kernel_rfl) rfl #[.slice A0 l0.length c0, .slice Ao65 t439.length co65] rfl (by (try simp only [List.map_toArray, List.map_cons, List.map_nil]); first | done | rfl) ?_; (with_reducible refine (peristyleref26_Follow.calls kj2 _ _ l0 _ _ t439 t443 _ ?side1 ?side2 ?side3 ?side4 A38.out).mono ?_); (case side1 => exact cx (Kd.C_below HR0.out HB.out)); (case side2 => exact HC0.out); (case side3 => exact cx (Kd.R_reads' HO442.out).2.2); (case side4 => exact (Kd.R_reads' HO442.out).2.1); rintro e w66 ⟨v444, rfl, ho0, hb⟩; refine ⟨_, rfl, ?_⟩; replace HO414 := rba HO414 hb; replace HO426 := rba HO426 hb; have HO445 := Aside0.mk (Kd.R_lower (Kd.R_new' (Kd.R_new' (Kd.R_new' (Kd.R_new' (Kd.R_new' ho0 (Kd.R_lt (rx HO417.out))) (Kd.R_lt (rx HO420.out))) (Kd.R_lt (rx HO429.out))) (Kd.R_lt (rx HO432.out))) (Kd.R_lt (rx HO442.out))) (below_size (bh HB.out))); replace HO417 := Aside0.mk (Kd.R_elder' (rx HO417.out) (Kd.R_base ho0) hb); replace HO420 := Aside0.mk (Kd.R_elder' (rx HO420.out) (Kd.R_base ho0) hb); replace HO429 := Aside0.mk (Kd.R_elder' (rx HO429.out) (Kd.R_base ho0) hb); replace HO432 := Aside0.mk (Kd.R_elder' (rx HO432.out) (Kd.R_base ho0) hb); replace HO442 := Aside0.mk (Kd.R_elder' (rx HO442.out) (Kd.R_base ho0) hb); replace BK422 := bba BK422 hb; replace BK434 := bba BK434 hb; replace HB := bsa HB hb; (try clear hb); (try clear hk); (try clear ho0); obtain ⟨Ao67, co67, eo67⟩ := Kd.R_slice HO445.out; subst eo67) | ((with_reducible refine gate_callee (f := 31) rfl ?_); refine goesL_ (some 65) rfl rfl Try.func31 (by kernel_rfl) rfl #[.slice Ao67 t443.length co67] rfl (by (try simp only [List.map_toArray, List.map_cons, List.map_nil]); first | done | rfl) ?_; (with_reducible refine (peristyleref14_Of.calls kj2 _ _ t443 t446 t447 _ ?side1 ?side2 A39.out).mono ?_); (case side1 => exact cx (Kd.R_reads' HO445.out).2.2); (case side2 => exact (Kd.R_reads' HO445.out).2.1); rintro e w68 ⟨v448, rfl, ho0, hb⟩; refine ⟨_, rfl, ?_⟩; replace HO417 := rba HO417 hb; replace HO420 := rba HO420 hb; replace HO429 := rba HO429 hb; replace HO432 := rba HO432 hb; replace HO442 := rba HO442 hb; replace HO445 := rba HO445 hb; have HO449 := Aside0.mk (Kd.R_lower (Kd.R_new' (Kd.R_new' ho0 (Kd.R_lt (rx HO414.out))) (Kd.R_lt (rx HO426.out))) (below_size (bh HB.out))); replace HO414 := Aside0.mk (Kd.R_elder' (rx HO414.out) (Kd.R_base ho0) hb); replace HO426 := Aside0.mk (Kd.R_elder' (rx HO426.out) (Kd.R_base ho0) hb); replace BK422 := bba BK422 hb; replace BK434 := bba BK434 hb; replace HB := bsa HB hb; (try clear hb); (try clear hk); (try clear ho0); have hcz69_0 : w68.cell? ⟨gb434, 0, none⟩ = some (.int .i64 t423) := (blk_cell BK434.out 0).trans rfl; have hcz69_1 : w68.cell? ⟨gb434, 1, none⟩ = some (.slice Ao59 t424.length co59) := (blk_cell BK434.out 1).trans rfl; have hcz69_2 : w68.cell? ⟨gb434, 2, none⟩ = some (.slice Ao60 t427.length co60) := (blk_cell BK434.out 2).trans rfl; have hcz69_3 : w68.cell? ⟨gb434, 3, none⟩ = some (.slice Ao61 t430.length co61) := (blk_cell BK434.out 3).trans rfl; have hfz69_0 := blk_frozen BK434.out 0; have hfz69_1 := blk_frozen BK434.out 1; have hfz69_2 := blk_frozen BK434.out 2; have hfz69_3 := blk_frozen BK434.out 3) | (go_at_call 34; (with_reducible refine (poslist_List_Spans.calls kj2 t423 _ _ t424 _ _ t427 _ _ t430 t450 _ ?side1 ?side2 ?side3 ?side4 ?side5 ?side6 A41.out).mono ?_); (case side1 => exact cx (Kd.R_reads' HO426.out).2.2); (case side2 => exact (Kd.R_reads' HO426.out).2.1); (case side3 => exact cx (Kd.R_reads' HO429.out).2.2); (case side4 => exact (Kd.R_reads' HO429.out).2.1); (case side5 => exact cx (Kd.R_reads' HO432.out).2.2); (case side6 => exact (Kd.R_reads' HO432.out).2.1); rintro e w70 ⟨v451, rfl, ho0, hb⟩; replace HO417 := rba HO417 hb; replace HO420 := rba HO420 hb; replace HO429 := rba HO429 hb; replace HO432 := rba HO432 hb; replace HO442 := rba HO442 hb; replace HO445 := rba HO445 hb; have HO452 := Aside0.mk (Kd.R_lower (Kd.R_new' (Kd.R_new' (Kd.R_new' ho0 (Kd.R_lt (rx HO414.out))) (Kd.R_lt (rx HO426.out))) (Kd.R_lt (rx HO449.out))) (below_size (bh HB.out))); replace HO414 := Aside0.mk (Kd.R_elder' (rx HO414.out) (Kd.R_base ho0) hb); replace HO426 := Aside0.mk (Kd.R_elder' (rx HO426.out) (Kd.R_base ho0) hb); replace HO449 := Aside0.mk (Kd.R_elder' (rx HO449.out) (Kd.R_base ho0) hb); replace BK422 := bba BK422 hb; replace BK434 := bba BK434 hb; replace HB := bsa HB hb; (try clear hb); (try clear hk); (try clear ho0); (try clear A41); obtain ⟨Ao71, co71, eo71⟩ := Kd.R_slice HO452.out; subst eo71; obtain ⟨Ao72, co72, eo72⟩ := Kd.R_slice HO449.out; subst eo72) | (go_at_call 33; (with_reducible refine (peristyleref14_Same.calls kj2 _ _ t450 _ _ t446 true _ ?side1 ?side2 ?side3 ?side4 A42.out).mono ?_); (case side1 => exact cx (Kd.R_reads' HO452.out).2.2); (case side2 => exact (Kd.R_reads' HO452.out).2.1); (case side3 => exact cx (Kd.R_reads' HO449.out).2.2); (case side4 => exact (Kd.R_reads' HO449.out).2.1); rintro e w' ⟨rfl, ⟨nd, rfl⟩⟩; (try clear A42); have hcz73_0 : w70.cell? ⟨gb434, 0, none⟩ = some (.int .i64 t423) := (blk_cell BK434.out 0).trans rfl; have hcz73_1 : w70.cell? ⟨gb434, 1, none⟩ = some (.slice Ao59 t424.length co59) := (blk_cell BK434.out 1).trans rfl; have hcz73_2 : w70.cell? ⟨gb434, 2, none⟩ = some (.slice Ao60 t427.length co60) := (blk_cell BK434.out 2).trans rfl; have hcz73_3 : w70.cell? ⟨gb434, 3, none⟩ = some (.slice Ao61 t430.length co61) := (blk_cell BK434.out 3).trans rfl; have hfz73_0 := blk_frozen BK434.out 0; have hfz73_1 := blk_frozen BK434.out 1; have hfz73_2 := blk_frozen BK434.out 2; have hfz73_3 := blk_frozen BK434.out 3) | (go_at_call 35; (with_reducible refine (poslist_List_Count.calls kj2 t423 _ _ t424 _ _ t427 _ _ t430 t454 _ ?side1 ?side2 ?side3 ?side4 ?side5 ?side6 A44.out).mono ?_); (case side1 => exact cx (Kd.R_reads' HO426.out).2.2); (case side2 => exact (Kd.R_reads' HO426.out).2.1); (case side3 => exact cx (Kd.R_reads' HO429.out).2.2); (case side4 => exact (Kd.R_reads' HO429.out).2.1); (case side5 => exact cx (Kd.R_reads' HO432.out).2.2); (case side6 => exact (Kd.R_reads' HO432.out).2.1); rintro e w74 ⟨rfl, hb⟩; replace HO414 := rba HO414 hb; replace HO417 := rba HO417 hb; replace HO420 := rba HO420 hb; replace HO426 := rba HO426 hb; replace HO429 := rba HO429 hb; replace HO432 := rba HO432 hb; replace HO442 := rba HO442 hb; replace HO445 := rba HO445 hb; replace HO449 := rba HO449 hb; replace HO452 := rba HO452 hb; replace BK422 := bba BK422 hb; replace BK434 := bba BK434 hb; replace HB := bsa HB hb; (try clear hb); (try clear hk); (try clear A44)) | (go_at_call 7; (with_reducible refine (peristylelaw26_awake.calls kj2  t455 _ A46.out).mono ?_); rintro e w75 ⟨rfl, hb⟩; replace HO414 := rba HO414 hb; replace HO417 := rba HO417 hb; replace HO420 := rba HO420 hb; replace HO426 := rba HO426 hb; replace HO429 := rba HO429 hb; replace HO432 := rba HO432 hb; replace HO442 := rba HO442 hb; replace HO445 := rba HO445 hb; replace HO449 := rba HO449 hb; replace HO452 := rba HO452 hb; replace BK422 := bba BK422 hb; replace BK434 := bba BK434 hb; replace HB := bsa HB hb; (try clear hb); (try clear hk); (try clear A46)))
         go_ret
         exact ⟨er, bh HB.out⟩
        ·rw [if_neg c45] at H
         exact absurd H (by simp)
       ·replace c43 := Bool.eq_false_iff.mpr c43
        subst c43
        have H1 : (none) = some r := by rw [if_neg (show ¬ (false = true) by decide)] at H; exact H
        clear H
        have H := H1
        clear H1
        exact absurd H (by simp)
      ·rw [if_neg c40] at H
       exact absurd H (by simp)
    ·replace c14 := Bool.eq_false_iff.mpr c14
     subst c14
     have H1 : (if t433 = 1 then ((peristylelaw26_awake.f kj2).bind fun t436 => (some t436)) else (none)) = some r := by rw [if_neg (show ¬ (false = true) by decide)] at H; exact H
     clear H
     have H := H1
     clear H1
     by_cases c76 : t433 = 1
     ·rw [if_pos c76] at H
      have c76b0 : (t433 == 1) = true := beq_iff_eq.mpr c76
      have c76b1 : (t433 != 1) = false := bne_eq_false_iff_eq.mpr c76
      clear c76
      replace H := Option.bind_eq_some_iff.mp H
      obtain ⟨t436, A770, H⟩ := H
      replace H : (some t436) = some r := H
      have A77 := Aside0.mk A770
      clear A770
      obtain rfl := Option.some.inj H
      go_wp2_with (first | ((with_reducible refine gate_callee (f := 27) rfl ?_); refine goesL_ (some 29) rfl rfl Try.func27 (by kernel_rfl) rfl #[.slice A1 l1.length c1] rfl (by (try simp only [List.map_toArray, List.map_cons, List.map_nil]); first | done | rfl) ?_; (with_reducible refine (poslist_Best.calls kj2 _ _ l1 t411 t412 t415 t418 t421 _ ?side1 ?side2 A11.out).mono ?_); (case side1 => exact cx (Kd.C_below HR1.out HB.out)); (case side2 => exact HC1.out); rintro e w78 ⟨v413, v416, v419, rfl, ho0, ho1, ho2, hb⟩; refine ⟨_, rfl, ?_⟩; have HO414 := Aside0.mk (Kd.R_lower ho0 (below_size (bh HB.out))); have HO417 := Aside0.mk (Kd.R_lower ho1 (below_size (bh HB.out))); have HO420 := Aside0.mk (Kd.R_lower ho2 (below_size (bh HB.out))); replace HB := bsa HB hb; (try clear hb); (try clear hk); (try clear ho0); (try clear ho1); (try clear ho2)) | ((with_reducible refine gate_dst (N := 5) rfl ?_); (try (refine gate_guard (by rfl) ?_; dsimp only)); refine box_event ?hg (N := 5) ?hd (cs := #[.int .i64 0, .slice none 0 0, .slice none 0 0, .slice none 0 0]) (t := 52) ?hr ?_; (case hd => rfl); (case hg => rfl); (case hr => first | (go_simp; done) | (go_simp; rfl)); intro gb422 hg w79 hbox hb; replace HO414 := rba HO414 hb; replace HO417 := rba HO417 hb; replace HO420 := rba HO420 hb; have BK422 := Aside0.mk (hbox); have GW422 := bza HB hg; have GE422 := bza HB hg; replace HB := bsa HB hb; clear hb hbox hg; have hcz80_0 : w79.cell? ⟨gb422, 0, none⟩ = some (.int .i64 0) := (blk_cell BK422.out 0).trans rfl; have hcz80_1 : w79.cell? ⟨gb422, 1, none⟩ = some (.slice none 0 0) := (blk_cell BK422.out 1).trans rfl; have hcz80_2 : w79.cell? ⟨gb422, 2, none⟩ = some (.slice none 0 0) := (blk_cell BK422.out 2).trans rfl; have hcz80_3 : w79.cell? ⟨gb422, 3, none⟩ = some (.slice none 0 0) := (blk_cell BK422.out 3).trans rfl; have hfz80_0 := blk_frozen BK422.out 0; have hfz80_1 := blk_frozen BK422.out 1; have hfz80_2 := blk_frozen BK422.out 2; have hfz80_3 := blk_frozen BK422.out 3; obtain ⟨Ao81, co81, eo81⟩ := Kd.R_slice HO414.out; subst eo81; obtain ⟨Ao82, co82, eo82⟩ := Kd.R_slice HO417.out; subst eo82; obtain ⟨Ao83, co83, eo83⟩ := Kd.R_slice HO420.out; subst eo83) | ((with_reducible refine gate_store (t := 52) (p := 5) rfl ?_); refine store_event (t := 52) (p := 5) (v := ?vo_w84) (w1 := ((((w79.setCell ⟨gb422, 0, none⟩ (.int .i64 t411)).setCell ⟨gb422, 1, none⟩ (.slice Ao81 t412.length co81)).setCell ⟨gb422, 2, none⟩ (.slice Ao82 t415.length co82)).setCell ⟨gb422, 3, none⟩ (.slice Ao83 t418.length co83))) ?hg ?ho ?hn ?hr ?_; (case ho => rfl); (case hg => rfl); (case hn => rfl); (case hr => first | (go_simp; done) | (go_simp; rfl)); intro w84 hw; have n0_ : Aside0 (Kd.R k79 79 w84 w.heap.size (fun _ => True) (.slice Ao81 t412.length co81) t412) := ⟨(by rw [hw]; exact (by (with_reducible repeat (first | apply Kd.R_alloc | apply Kd.R_drewN | apply Kd.R_drew)); exact Kd.R_mono (Kd.R_far (p := ⟨gb422, 3, none⟩) (Kd.R_far (p := ⟨gb422, 2, none⟩) (Kd.R_far (p := ⟨gb422, 1, none⟩) (Kd.R_far (p := ⟨gb422, 0, none⟩) (Kd.R_types HO414.out BK422.out (by decide)) (fun _ hk => hk.2) (.int .i64 t411)) (fun _ hk => hk.2) (.slice Ao81 t412.length co81)) (fun _ hk => hk.2) (.slice Ao82 t415.length co82)) (fun _ hk => hk.2) (.slice Ao83 t418.length co83)) (fun _ hk => trivial)))⟩; have n1_ : Aside0 (Kd.R (Kd.int .i64) 3 w84 w.heap.size (fun k_ => some k_ ≠ (.slice Ao83 t418.length co83 : Value).ownBlock) (.slice Ao82 t415.length co82) t415) := ⟨(by rw [hw]; exact (by (with_reducible repeat (first | apply Kd.R_alloc | apply Kd.R_drewN | apply Kd.R_drew)); exact Kd.R_mono (Kd.R_far (p := ⟨gb422, 3, none⟩) (Kd.R_far (p := ⟨gb422, 2, none⟩) (Kd.R_far (p := ⟨gb422, 1, none⟩) (Kd.R_far (p := ⟨gb422, 0, none⟩) (Kd.R_types HO417.out BK422.out (by decide)) (fun _ hk => hk.2) (.int .i64 t411)) (fun _ hk => hk.2) (.slice Ao81 t412.length co81)) (fun _ hk => hk.2) (.slice Ao82 t415.length co82)) (fun _ hk => hk.2) (.slice Ao83 t418.length co83)) (fun _ hk => hk.1)))⟩; have n2_ : Aside0 (Kd.R (Kd.int .i64) 3 w84 w.heap.size (fun k_ => some k_ ≠ (.slice Ao82 t415.length co82 : Value).ownBlock) (.slice Ao83 t418.length co83) t418) := ⟨(by rw [hw]; exact (by (with_reducible repeat (first | apply Kd.R_alloc | apply Kd.R_drewN | apply Kd.R_drew)); exact Kd.R_mono (Kd.R_far (p := ⟨gb422, 3, none⟩) (Kd.R_far (p := ⟨gb422, 2, none⟩) (Kd.R_far (p := ⟨gb422, 1, none⟩) (Kd.R_far (p := ⟨gb422, 0, none⟩) (Kd.R_types HO420.out BK422.out (by decide)) (fun _ hk => hk.2) (.int .i64 t411)) (fun _ hk => hk.2) (.slice Ao81 t412.length co81)) (fun _ hk => hk.2) (.slice Ao82 t415.length co82)) (fun _ hk => hk.2) (.slice Ao83 t418.length co83)) (fun _ hk => hk.1)))⟩; have n3_ : Aside0 (w84.heap[gb422]? = some (.cells #[.int .i64 t411, .slice Ao81 t412.length co81, .slice Ao82 t415.length co82, .slice Ao83 t418.length co83] 52 (0, 0))) := ⟨(by rw [hw]; exact (by (with_reducible repeat (first | refine blk_drewN ?_ _ | refine blk_drew ?_ | refine blk_alloc ?_ _)); refine blk_put (cs := #[.int .i64 t411, .slice Ao81 t412.length co81, .slice Ao82 t415.length co82, .slice none 0 0]) ?_ 3 _ rfl; (with_reducible repeat (first | refine blk_drewN ?_ _ | refine blk_drew ?_ | refine blk_alloc ?_ _)); refine blk_put (cs := #[.int .i64 t411, .slice Ao81 t412.length co81, .slice none 0 0, .slice none 0 0]) ?_ 2 _ rfl; (with_reducible repeat (first | refine blk_drewN ?_ _ | refine blk_drew ?_ | refine blk_alloc ?_ _)); refine blk_put (cs := #[.int .i64 t411, .slice none 0 0, .slice none 0 0, .slice none 0 0]) ?_ 1 _ rfl; (with_reducible repeat (first | refine blk_drewN ?_ _ | refine blk_drew ?_ | refine blk_alloc ?_ _)); refine blk_put (cs := #[.int .i64 0, .slice none 0 0, .slice none 0 0, .slice none 0 0]) ?_ 0 _ rfl; (with_reducible repeat (first | refine blk_drewN ?_ _ | refine blk_drew ?_ | refine blk_alloc ?_ _)); exact BK422.out))⟩; have n4_ : Aside0 (Below w.heap.size w w84) := ⟨(by rw [hw]; exact (bh HB.out))⟩; clear hw HO414 HO417 HO420 BK422 HB; have HO414 := n0_; have HO417 := n1_; have HO420 := n2_; have BK422 := n3_; have HB := n4_; clear n0_ n1_ n2_ n3_ n4_; have hcz85_0 : w84.cell? ⟨gb422, 0, none⟩ = some (.int .i64 t411) := (blk_cell BK422.out 0).trans rfl; have hcz85_1 : w84.cell? ⟨gb422, 1, none⟩ = some (.slice Ao81 t412.length co81) := (blk_cell BK422.out 1).trans rfl; have hcz85_2 : w84.cell? ⟨gb422, 2, none⟩ = some (.slice Ao82 t415.length co82) := (blk_cell BK422.out 2).trans rfl; have hcz85_3 : w84.cell? ⟨gb422, 3, none⟩ = some (.slice Ao83 t418.length co83) := (blk_cell BK422.out 3).trans rfl; have hfz85_0 := blk_frozen BK422.out 0; have hfz85_1 := blk_frozen BK422.out 1; have hfz85_2 := blk_frozen BK422.out 2; have hfz85_3 := blk_frozen BK422.out 3) | ((with_reducible refine gate_callee (f := 28) rfl ?_); refine goesL_ (some 35) rfl rfl Try.func28 (by kernel_rfl) rfl #[.slice A0 l0.length c0, .agg #[.int .i64 t411, .slice Ao81 t412.length co81, .slice Ao82 t415.length co82, .slice Ao83 t418.length co83]] rfl (by (try simp only [List.map_toArray, List.map_cons, List.map_nil]); first | done | rfl) ?_; (with_reducible refine (jindex_Follow.calls kj2 _ _ l0 t411 _ _ t412 _ _ t415 _ _ t418 t423 t424 t427 t430 t433 _ ?side1 ?side2 ?side3 ?side4 ?side5 ?side6 ?side7 ?side8 A12.out).mono ?_); (case side1 => exact cx (Kd.C_below HR0.out HB.out)); (case side2 => exact HC0.out); (case side3 => exact cx (Kd.R_reads' HO414.out).2.2); (case side4 => exact (Kd.R_reads' HO414.out).2.1); (case side5 => exact cx (Kd.R_reads' HO417.out).2.2); (case side6 => exact (Kd.R_reads' HO417.out).2.1); (case side7 => exact cx (Kd.R_reads' HO420.out).2.2); (case side8 => exact (Kd.R_reads' HO420.out).2.1); rintro e w86 ⟨v425, v428, v431, rfl, ho0, ho1, ho2, hb⟩; refine ⟨_, rfl, ?_⟩; have HO426 := Aside0.mk (Kd.R_lower (Kd.R_new' ho0 (Kd.R_lt (rx HO414.out))) (below_size (bh HB.out))); replace HO414 := Aside0.mk (Kd.R_elder' (rx HO414.out) (Kd.R_base ho0) hb); have HO429 := Aside0.mk (Kd.R_lower (Kd.R_new' (Kd.R_new' ho1 (Kd.R_lt (rx HO417.out))) (Kd.R_lt (rx HO420.out))) (below_size (bh HB.out))); have HO432 := Aside0.mk (Kd.R_lower (Kd.R_new' (Kd.R_new' ho2 (Kd.R_lt (rx HO417.out))) (Kd.R_lt (rx HO420.out))) (below_size (bh HB.out))); replace HO417 := Aside0.mk (Kd.R_mono (Kd.R_told (Kd.R_told (Kd.R_old (rx HO417.out) hb) (Kd.R_base ho1)) (Kd.R_base ho2)) (fun _ h_ => h_.1)); replace HO420 := Aside0.mk (Kd.R_mono (Kd.R_told (Kd.R_told (Kd.R_old (rx HO420.out) hb) (Kd.R_base ho1)) (Kd.R_base ho2)) (fun _ h_ => h_.1)); replace BK422 := bba BK422 hb; replace HB := bsa HB hb; (try clear hb); (try clear hk); (try clear ho0); (try clear ho1); (try clear ho2)) | ((with_reducible refine gate_dst (N := 7) rfl ?_); (try (refine gate_guard (by rfl) ?_; dsimp only)); refine box_event ?hg (N := 7) ?hd (cs := #[.int .i64 0, .slice none 0 0, .slice none 0 0, .slice none 0 0]) (t := 52) ?hr ?_; (case hd => rfl); (case hg => rfl); (case hr => first | (go_simp; done) | (go_simp; rfl)); intro gb434 hg w87 hbox hb; replace HO414 := rba HO414 hb; replace HO417 := rba HO417 hb; replace HO420 := rba HO420 hb; replace HO426 := rba HO426 hb; replace HO429 := rba HO429 hb; replace HO432 := rba HO432 hb; have BK434 := Aside0.mk (hbox); have GW434 := bza HB hg; have GE434 := bza HB hg; replace HB := bsa HB hb; have NB422_434 := bna BK422 hg; have NB434_422 := bma BK422 hg; replace BK422 := bba BK422 hb; clear hb hbox hg; have hnb88 := NB434_422.out; have hnc88 := NB422_434.out; have hcz89_0 : w87.cell? ⟨gb434, 0, none⟩ = some (.int .i64 0) := (blk_cell BK434.out 0).trans rfl; have hcz89_1 : w87.cell? ⟨gb434, 1, none⟩ = some (.slice none 0 0) := (blk_cell BK434.out 1).trans rfl; have hcz89_2 : w87.cell? ⟨gb434, 2, none⟩ = some (.slice none 0 0) := (blk_cell BK434.out 2).trans rfl; have hcz89_3 : w87.cell? ⟨gb434, 3, none⟩ = some (.slice none 0 0) := (blk_cell BK434.out 3).trans rfl; have hfz89_0 := blk_frozen BK434.out 0; have hfz89_1 := blk_frozen BK434.out 1; have hfz89_2 := blk_frozen BK434.out 2; have hfz89_3 := blk_frozen BK434.out 3; obtain ⟨Ao90, co90, eo90⟩ := Kd.R_slice HO426.out; subst eo90; obtain ⟨Ao91, co91, eo91⟩ := Kd.R_slice HO429.out; subst eo91; obtain ⟨Ao92, co92, eo92⟩ := Kd.R_slice HO432.out; subst eo92) | ((with_reducible refine gate_store (t := 52) (p := 7) rfl ?_); refine store_event (t := 52) (p := 7) (v := ?vo_w93) (w1 := ((((w87.setCell ⟨gb434, 0, none⟩ (.int .i64 t423)).setCell ⟨gb434, 1, none⟩ (.slice Ao90 t424.length co90)).setCell ⟨gb434, 2, none⟩ (.slice Ao91 t427.length co91)).setCell ⟨gb434, 3, none⟩ (.slice Ao92 t430.length co92))) ?hg ?ho ?hn ?hr ?_; (case ho => rfl); (case hg => rfl); (case hn => rfl); (case hr => first | (go_simp; done) | (go_simp; rfl)); intro w93 hw; have n0_ : Aside0 (Kd.R k79 79 w93 w.heap.size (fun k_ => some k_ ≠ (.slice Ao90 t424.length co90 : Value).ownBlock) (.slice Ao81 t412.length co81) t412) := ⟨(by rw [hw]; exact (by (with_reducible repeat (first | apply Kd.R_alloc | apply Kd.R_drewN | apply Kd.R_drew)); exact Kd.R_mono (Kd.R_far (p := ⟨gb434, 3, none⟩) (Kd.R_far (p := ⟨gb434, 2, none⟩) (Kd.R_far (p := ⟨gb434, 1, none⟩) (Kd.R_far (p := ⟨gb434, 0, none⟩) (Kd.R_types HO414.out BK434.out (by decide)) (fun _ hk => hk.2) (.int .i64 t423)) (fun _ hk => hk.2) (.slice Ao90 t424.length co90)) (fun _ hk => hk.2) (.slice Ao91 t427.length co91)) (fun _ hk => hk.2) (.slice Ao92 t430.length co92)) (fun _ hk => hk.1.2)))⟩; have n1_ : Aside0 (Kd.R (Kd.int .i64) 3 w93 w.heap.size (fun k_ => some k_ ≠ (.slice Ao83 t418.length co83 : Value).ownBlock ∧ some k_ ≠ (.slice Ao91 t427.length co91 : Value).ownBlock ∧ some k_ ≠ (.slice Ao92 t430.length co92 : Value).ownBlock) (.slice Ao82 t415.length co82) t415) := ⟨(by rw [hw]; exact (by (with_reducible repeat (first | apply Kd.R_alloc | apply Kd.R_drewN | apply Kd.R_drew)); exact Kd.R_mono (Kd.R_far (p := ⟨gb434, 3, none⟩) (Kd.R_far (p := ⟨gb434, 2, none⟩) (Kd.R_far (p := ⟨gb434, 1, none⟩) (Kd.R_far (p := ⟨gb434, 0, none⟩) (Kd.R_types HO417.out BK434.out (by decide)) (fun _ hk => hk.2) (.int .i64 t423)) (fun _ hk => hk.2) (.slice Ao90 t424.length co90)) (fun _ hk => hk.2) (.slice Ao91 t427.length co91)) (fun _ hk => hk.2) (.slice Ao92 t430.length co92)) (fun _ hk => ⟨hk.1.1.1, ⟨hk.1.1.2, hk.1.2⟩⟩)))⟩; have n2_ : Aside0 (Kd.R (Kd.int .i64) 3 w93 w.heap.size (fun k_ => some k_ ≠ (.slice Ao82 t415.length co82 : Value).ownBlock ∧ some k_ ≠ (.slice Ao91 t427.length co91 : Value).ownBlock ∧ some k_ ≠ (.slice Ao92 t430.length co92 : Value).ownBlock) (.slice Ao83 t418.length co83) t418) := ⟨(by rw [hw]; exact (by (with_reducible repeat (first | apply Kd.R_alloc | apply Kd.R_drewN | apply Kd.R_drew)); exact Kd.R_mono (Kd.R_far (p := ⟨gb434, 3, none⟩) (Kd.R_far (p := ⟨gb434, 2, none⟩) (Kd.R_far (p := ⟨gb434, 1, none⟩) (Kd.R_far (p := ⟨gb434, 0, none⟩) (Kd.R_types HO420.out BK434.out (by decide)) (fun _ hk => hk.2) (.int .i64 t423)) (fun _ hk => hk.2) (.slice Ao90 t424.length co90)) (fun _ hk => hk.2) (.slice Ao91 t427.length co91)) (fun _ hk => hk.2) (.slice Ao92 t430.length co92)) (fun _ hk => ⟨hk.1.1.1, ⟨hk.1.1.2, hk.1.2⟩⟩)))⟩; have n3_ : Aside0 (Kd.R k79 79 w93 w.heap.size (fun k_ => some k_ ≠ (.slice Ao81 t412.length co81 : Value).ownBlock) (.slice Ao90 t424.length co90) t424) := ⟨(by rw [hw]; exact (by (with_reducible repeat (first | apply Kd.R_alloc | apply Kd.R_drewN | apply Kd.R_drew)); exact Kd.R_mono (Kd.R_far (p := ⟨gb434, 3, none⟩) (Kd.R_far (p := ⟨gb434, 2, none⟩) (Kd.R_far (p := ⟨gb434, 1, none⟩) (Kd.R_far (p := ⟨gb434, 0, none⟩) (Kd.R_types HO426.out BK434.out (by decide)) (fun _ hk => hk.2) (.int .i64 t423)) (fun _ hk => hk.2) (.slice Ao90 t424.length co90)) (fun _ hk => hk.2) (.slice Ao91 t427.length co91)) (fun _ hk => hk.2) (.slice Ao92 t430.length co92)) (fun _ hk => hk.1.2)))⟩; have n4_ : Aside0 (Kd.R (Kd.int .i64) 3 w93 w.heap.size (fun k_ => some k_ ≠ (.slice Ao82 t415.length co82 : Value).ownBlock ∧ some k_ ≠ (.slice Ao83 t418.length co83 : Value).ownBlock ∧ some k_ ≠ (.slice Ao92 t430.length co92 : Value).ownBlock) (.slice Ao91 t427.length co91) t427) := ⟨(by rw [hw]; exact (by (with_reducible repeat (first | apply Kd.R_alloc | apply Kd.R_drewN | apply Kd.R_drew)); exact Kd.R_mono (Kd.R_far (p := ⟨gb434, 3, none⟩) (Kd.R_far (p := ⟨gb434, 2, none⟩) (Kd.R_far (p := ⟨gb434, 1, none⟩) (Kd.R_far (p := ⟨gb434, 0, none⟩) (Kd.R_types HO429.out BK434.out (by decide)) (fun _ hk => hk.2) (.int .i64 t423)) (fun _ hk => hk.2) (.slice Ao90 t424.length co90)) (fun _ hk => hk.2) (.slice Ao91 t427.length co91)) (fun _ hk => hk.2) (.slice Ao92 t430.length co92)) (fun _ hk => ⟨hk.1.1.2, ⟨hk.1.2, hk.1.1.1⟩⟩)))⟩; have n5_ : Aside0 (Kd.R (Kd.int .i64) 3 w93 w.heap.size (fun k_ => some k_ ≠ (.slice Ao82 t415.length co82 : Value).ownBlock ∧ some k_ ≠ (.slice Ao83 t418.length co83 : Value).ownBlock ∧ some k_ ≠ (.slice Ao91 t427.length co91 : Value).ownBlock) (.slice Ao92 t430.length co92) t430) := ⟨(by rw [hw]; exact (by (with_reducible repeat (first | apply Kd.R_alloc | apply Kd.R_drewN | apply Kd.R_drew)); exact Kd.R_mono (Kd.R_far (p := ⟨gb434, 3, none⟩) (Kd.R_far (p := ⟨gb434, 2, none⟩) (Kd.R_far (p := ⟨gb434, 1, none⟩) (Kd.R_far (p := ⟨gb434, 0, none⟩) (Kd.R_types HO432.out BK434.out (by decide)) (fun _ hk => hk.2) (.int .i64 t423)) (fun _ hk => hk.2) (.slice Ao90 t424.length co90)) (fun _ hk => hk.2) (.slice Ao91 t427.length co91)) (fun _ hk => hk.2) (.slice Ao92 t430.length co92)) (fun _ hk => ⟨hk.1.1.2, ⟨hk.1.2, hk.1.1.1⟩⟩)))⟩; have n6_ : Aside0 (w93.heap[gb422]? = some (.cells #[.int .i64 t411, .slice Ao81 t412.length co81, .slice Ao82 t415.length co82, .slice Ao83 t418.length co83] 52 (0, 0))) := ⟨(by rw [hw]; exact (bx BK422.out))⟩; have n7_ : Aside0 (w93.heap[gb434]? = some (.cells #[.int .i64 t423, .slice Ao90 t424.length co90, .slice Ao91 t427.length co91, .slice Ao92 t430.length co92] 52 (0, 0))) := ⟨(by rw [hw]; exact (by (with_reducible repeat (first | refine blk_drewN ?_ _ | refine blk_drew ?_ | refine blk_alloc ?_ _)); refine blk_put (cs := #[.int .i64 t423, .slice Ao90 t424.length co90, .slice Ao91 t427.length co91, .slice none 0 0]) ?_ 3 _ rfl; (with_reducible repeat (first | refine blk_drewN ?_ _ | refine blk_drew ?_ | refine blk_alloc ?_ _)); refine blk_put (cs := #[.int .i64 t423, .slice Ao90 t424.length co90, .slice none 0 0, .slice none 0 0]) ?_ 2 _ rfl; (with_reducible repeat (first | refine blk_drewN ?_ _ | refine blk_drew ?_ | refine blk_alloc ?_ _)); refine blk_put (cs := #[.int .i64 t423, .slice none 0 0, .slice none 0 0, .slice none 0 0]) ?_ 1 _ rfl; (with_reducible repeat (first | refine blk_drewN ?_ _ | refine blk_drew ?_ | refine blk_alloc ?_ _)); refine blk_put (cs := #[.int .i64 0, .slice none 0 0, .slice none 0 0, .slice none 0 0]) ?_ 0 _ rfl; (with_reducible repeat (first | refine blk_drewN ?_ _ | refine blk_drew ?_ | refine blk_alloc ?_ _)); exact BK434.out))⟩; have n8_ : Aside0 (Below w.heap.size w w93) := ⟨(by rw [hw]; exact (bh HB.out))⟩; clear hw HO414 HO417 HO420 HO426 HO429 HO432 BK422 BK434 HB; have HO414 := n0_; have HO417 := n1_; have HO420 := n2_; have HO426 := n3_; have HO429 := n4_; have HO432 := n5_; have BK422 := n6_; have BK434 := n7_; have HB := n8_; clear n0_ n1_ n2_ n3_ n4_ n5_ n6_ n7_ n8_) | ((with_reducible refine gate_callee (f := 11) rfl ?_); refine goesL_ (some 39) rfl rfl Try.func11 (by kernel_rfl) rfl #[.slice A0 l0.length c0] rfl (by (try simp only [List.map_toArray, List.map_cons, List.map_nil]); first | done | rfl) ?_; (with_reducible refine (peristyleref26_May.calls kj2 _ _ l0 false _ ?side1 ?side2 A13.out).mono ?_); (case side1 => exact cx (Kd.C_below HR0.out HB.out)); (case side2 => exact HC0.out); rintro e w94 ⟨rfl, hb⟩; refine ⟨_, rfl, ?_⟩; replace HO414 := rba HO414 hb; replace HO417 := rba HO417 hb; replace HO420 := rba HO420 hb; replace HO426 := rba HO426 hb; replace HO429 := rba HO429 hb; replace HO432 := rba HO432 hb; replace BK422 := bba BK422 hb; replace BK434 := bba BK434 hb; replace HB := bsa HB hb; (try clear hb); (try clear hk)) | (go_at_call 7; (with_reducible refine (peristylelaw26_awake.calls kj2  t436 _ A77.out).mono ?_); rintro e w95 ⟨rfl, hb⟩; replace HO414 := rba HO414 hb; replace HO417 := rba HO417 hb; replace HO420 := rba HO420 hb; replace HO426 := rba HO426 hb; replace HO429 := rba HO429 hb; replace HO432 := rba HO432 hb; replace BK422 := bba BK422 hb; replace BK434 := bba BK434 hb; replace HB := bsa HB hb; (try clear hb); (try clear hk); (try clear A77)))
      go_ret
      exact ⟨er, bh HB.out⟩
     ·rw [if_neg c76] at H
      exact absurd H (by simp)
def peristylelaw26_JindexFollows.Pure : Prop := ∀ (l0 : List Int) (l1 : List (S79)), (fun l : List Int => l.length ≤ maxLen ∧ l.length * 8 ≤ 140737488351232 ∧ ∀ x ∈ l, (fun z : Int => (Lit.int .i64 z).wf = true) x) l0 → (fun l : List (S79) => l.length ≤ maxLen ∧ l.length * 16 ≤ 140737488351232 ∧ ∀ x ∈ l, (fun x : S79 => (fun z : Int => (Lit.int .i64 z).wf = true) x.f0 ∧ (fun z : Int => (Lit.int .i64 z).wf = true) x.f1) x) l1 → ∃ k, peristylelaw26_JindexFollows.f k l0 l1 = some true
theorem peristylelaw26_JindexFollows.walk (P : peristylelaw26_JindexFollows.Pure) (A0 : Option Addr) (c0 : Nat) (l0 : List Int) (A1 : Option Addr) (c1 : Nat) (l1 : List (S79)) (w : World) (hr0 : Kd.C (Kd.int .i64) w A0 l0.length l0) (hc0 : l0.length ≤ c0) (w0 : (fun l : List Int => l.length ≤ maxLen ∧ l.length * 8 ≤ 140737488351232 ∧ ∀ x ∈ l, (fun z : Int => (Lit.int .i64 z).wf = true) x) l0) (hr1 : Kd.C k79 w A1 l1.length l1) (hc1 : l1.length ≤ c1) (w1 : (fun l : List (S79) => l.length ≤ maxLen ∧ l.length * 16 ≤ 140737488351232 ∧ ∀ x ∈ l, (fun x : S79 => (fun z : Int => (Lit.int .i64 z).wf = true) x.f0 ∧ (fun z : Int => (Lit.int .i64 z).wf = true) x.f1) x) l1) :
  Calls Try.prog 6 #[.slice A0 l0.length c0, .slice A1 l1.length c1] w fun e w' => e = .returned (.bool true) ∧ Below w.heap.size w w' := by
 obtain ⟨k, h⟩ := P l0 l1 w0 w1
 refine (peristylelaw26_JindexFollows.calls k _ _ l0 _ _ l1 true w hr0 hc0 hr1 hc1 h).mono ?_
 rintro e w' ⟨rfl, hd⟩
 exact ⟨rfl, hd⟩
end Go.Proofs.Ytbmlfbbcgbgnoaa.Print
end
