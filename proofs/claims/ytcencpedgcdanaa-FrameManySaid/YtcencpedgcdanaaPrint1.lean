-- Written by the session's own xprint (over the kit's print program): functions, contracts.
import Derived.Test.YtcencpedgcdanaaPrint0
namespace Go.Proofs.Ytcencpedgcdanaa.Print
open Go.RowKit Go.Proofs.YtcencpedgcdanaaW.PrintWords Go.Proofs.YtcencpedgcdanaaW.PrintLast Go.Proofs.YtcencpedgcdanaaW.PrintMore
attribute [local go_sem] max2_int min2_int max_two min_two max_three min_three max_four min_four   -- for this text's walks alone
set_option linter.unusedVariables false
set_option linter.unusedSimpArgs false

/-! ### bits_Zig: function 31 -/
def bits_Zig.f (a0 : Int) : Option (Int) := some (wrap64 (Go.bits .xor .u64 (IntKind.u64.wrap ((IntKind.u64.wrap (a0)) * 2)) (IntKind.u64.wrap (a0 / 9223372036854775808))))
set_option maxHeartbeats 8000000 in
set_option maxRecDepth 100000 in
theorem bits_Zig.calls (a0 : Int) (r : Int) (w : World) (h : bits_Zig.f a0 = some r) :
  Calls Try.prog 31 #[.int .i64 a0] w fun e w' => e = .returned (.int .i64 r) ∧ Drawn0 w w' := by
 have H : (some (wrap64 (Go.bits .xor .u64 (IntKind.u64.wrap ((IntKind.u64.wrap (a0)) * 2)) (IntKind.u64.wrap (a0 / 9223372036854775808))))) = some r := h
 clear h
 obtain rfl := Option.some.inj H
 go_enter Try.func31, Try.ntmps31
 go_wp2
 go_ret
 exact ⟨by first | rfl | (unfold wrap64; rfl) | (simp; done) | (simp [*]; done), by repeat (first | exact Drawn0.refl _ | apply Drawn0.step)⟩

/-! ### vint_Put: function 14 (a contract of the session's own) -/
/-- a number's bytes, of seven bits each -/
def vint_Put.loop : Nat → Int → List Int
  | 0, x => [x % 256]
  | d + 1, x => if 128 ≤ x then Go.bits .or .u8 (x % 256) 128 :: vint_Put.loop d (x / 128) else [x % 256]
def vint_Put.f (a0 : Int) : Option (ByteArray) := (bits_Zig.f a0).bind fun z => some (strOfNums (vint_Put.loop 9 (IntKind.u64.wrap z)))
theorem vint_Put.zero : (Try.prog.info? 47).map (fun i => (i.zero, i.size)) = some (some (.agg (arrI .u8 (List.replicate 10 0))), 10) := by kernel_rfl
theorem vint_Put.pow_le (d : Nat) (h : d ≤ 9) : (128 : Int) ^ d ≤ 9223372036854775808 := by
  obtain rfl | rfl | rfl | rfl | rfl | rfl | rfl | rfl | rfl | rfl : d = 0 ∨ d = 1 ∨ d = 2 ∨ d = 3 ∨ d = 4 ∨ d = 5 ∨ d = 6 ∨ d = 7 ∨ d = 8 ∨ d = 9 := by omega
  all_goals decide
set_option maxHeartbeats 1600000 in
theorem vint_Put.calls (a0 : Int) (r : ByteArray) (w : World) (h : vint_Put.f a0 = some r) :
    Calls Try.prog 14 #[.int .i64 a0] w fun e w' => e = .returned (.string r) ∧ Below w.heap.size w w' := by
  obtain ⟨z, hz, hr⟩ := Option.bind_eq_some_iff.1 h
  obtain rfl := Option.some.inj hr
  have A1 := Aside0.mk hz
  clear h hz hr
  go_enter Try.func14, Try.ntmps14
  go_wp2_with (first | ((with_reducible refine gate_dst (N := 3) rfl ?_); refine arr_alloc (w0 := w) w.heap.size rfl 47 rfl _ 10 vint_Put.zero (Below.refl _ _) (Nat.le_refl _) ?_; intro g w1 hg hb hs HB1 hbs1 hgr1) | ((with_reducible refine gate_callee (f := 31) rfl ?_); refine goesL_ (some 7) rfl rfl Try.func31 (by kernel_rfl) rfl #[.int .i64 a0] rfl (by (try simp only [List.map_toArray, List.map_cons, List.map_nil]); first | done | rfl) ?_; (with_reducible refine (bits_Zig.calls a0 z _ A1.out).mono ?_); rintro e w2 ⟨rfl, hd⟩; refine ⟨_, rfl, ?_⟩; have HB2 := Aside0.mk (below_then HB1 hbs1 hd.below); have HG2 := Aside0.mk (show w2.heap[g]? = _ from (hd.below.block g (blk_lt hg)).trans hg); clear hd))
  have HX := Aside0.mk hb
  clear hg hb hs HB1 hbs1 hgr1
  go_loopw [4, 5] (fun v4 v5 wr => ∃ (k d : Nat) (x kk : Int) (l : List Int), Aside0 (k + d = 9) ∧ Aside0 (l.length = 10) ∧ Aside0 (0 ≤ x ∧ x < 2 * 128 ^ d) ∧ Aside0 (kk = (k : Int)) ∧ Aside0 (l.take k ++ vint_Put.loop d x = vint_Put.loop 9 (IntKind.u64.wrap z)) ∧ v4 = .int .u64 x ∧ v5 = .int .i64 kk ∧ Aside0 (wr.heap[g]? = some (.cells (arrI .u8 l) 47 (0, 0))) ∧ Aside0 (Below w.heap.size w wr)) (fun _ v5 _ => 10 - (intOf v5).toNat)
  case atStart => exact ⟨0, 9, IntKind.u64.wrap z, 0, List.replicate 10 0, ⟨rfl⟩, ⟨rfl⟩, ⟨by have e : (2 : Int) * 128 ^ 9 = 18446744073709551616 := by decide
                                                                                             rw [e]; simp [IntKind.wrap, IntKind.bits, IntKind.signed]; omega⟩, ⟨rfl⟩, ⟨rfl⟩, by first | rfl | (simp [IntKind.wrap, IntKind.bits, IntKind.signed]; done), rfl, HG2, HB2⟩
  case round =>
    obtain ⟨k, d, x, kk, l, HKD, HLN, HXB, HKK, HT, rfl, rfl, HG, HB⟩ := hrel
    have hk0 : (0 : Int) ≤ kk := by have := HKK.out; omega
    have hk1 : kk < 10 := by have := HKK.out; have := HKD.out; omega
    have hc := arrI_cell HG.out kk.toNat (by rw [HLN.out]; omega)
    have hf : wr.frozen? ⟨g, kk.toNat, none⟩ = false := blk_frozen HG.out kk.toNat
    generalize l.getD kk.toNat 0 = old at hc
    by_cases hge : x ≥ 128
    · go_wp2
      go_roundw
      case rel =>
        have hkk := HKK.out
        have hkd := HKD.out
        have hxb := HXB.out
        have hln := HLN.out
        obtain ⟨d', rfl⟩ : ∃ d', d = d' + 1 := by
          rcases d with _ | d'
          · simp only [Int.pow_zero] at hxb; omega
          · exact ⟨d', rfl⟩
        have hput := arrI_put HG.out kk.toNat (Go.bits .or .u8 (x % 256) 128)
        refine ⟨k + 1, d', x / 128, wrap64 (kk + 1), l.set kk.toNat (Go.bits .or .u8 (x % 256) 128), ⟨by omega⟩, ⟨by rw [List.length_set]; exact hln⟩, ⟨by omega, ?_⟩, ⟨by unfold wrap64; omega⟩, ⟨?_⟩, by first | rfl | (simp; done) | go_num, by first | rfl | (simp; done) | (unfold wrap64; go_num), ⟨by first | exact hput | simpa using hput⟩, ⟨HB.out.setCell HX.out _⟩⟩
        · rw [Int.pow_succ] at hxb
          have := hxb.2
          omega
        · rw [← HT.out]
          have e : kk.toNat = k := by omega
          have h1 : k < (l.set k (Go.bits .or .u8 (x % 256) 128)).length := by rw [List.length_set]; omega
          rw [e, List.take_succ_eq_append_getElem h1, List.getElem_set_self, List.take_set_of_le (Nat.le_refl _)]
          simp only [vint_Put.loop, if_pos (show (128 : Int) ≤ x from hge), List.append_assoc, List.cons_append, List.nil_append]
      case measure => have := HKK.out; first | (simp [intOf]; omega) | (show 10 - (wrap64 (kk + 1)).toNat < 10 - kk.toNat; unfold wrap64; omega)
    · have hput := arrI_put HG.out kk.toNat (x % 256)
      have hll : (l.set kk.toNat (x % 256)).length = 10 := by rw [List.length_set]; exact HLN.out
      have hrd := arrI_reads hput (kk + 1).toNat (by rw [hll]; omega) (by omega)
      have hstr := Kd.C_string (P := Try.prog) (src := 39) (dst := 9) (e := 5) (c := 10) Try.underlying39 Try.underlying5 Try.underlying9 hrd
      have hsl := run_slice_arr (P := Try.prog) (W := wr.setCell ⟨g, kk.toNat, none⟩ (.int .u8 (x % 256))) Try.underlying47 (e := 5) (by kernel_rfl) g .i64 (kk + 1) (by omega) (by omega) (by omega)
      have HE : Aside0 ((l.set kk.toNat (x % 256)).take (kk + 1).toNat = vint_Put.loop 9 (IntKind.u64.wrap z)) := ⟨by
        have hkk := HKK.out
        have e : kk.toNat = k := by omega
        have e1 : (kk + 1).toNat = k + 1 := by omega
        have h1 : k < (l.set k (x % 256)).length := by rw [List.length_set, HLN.out]; have := HKD.out; omega
        have hlast : vint_Put.loop d x = [x % 256] := by
          cases d with
          | zero => rfl
          | succ d => simp only [vint_Put.loop, if_neg (show ¬ (128 : Int) ≤ x from hge)]
        rw [← HT.out, e, e1, List.take_succ_eq_append_getElem h1, List.getElem_set_self, List.take_set_of_le (Nat.le_refl _), hlast]⟩
      have HLL := Aside0.mk hput
      clear hput hll hrd
      go_wp2
      go_ret
      exact ⟨by rw [HE.out]; rfl, HB.out.setCell HX.out _⟩


/-! ### frame_far: function 32 -/
def frame_far.f (a0 : Int) (a1 : Int) : Option (Int) := some (wrap64 (IntKind.u64.wrap ((IntKind.u64.wrap (a1)) - (IntKind.u64.wrap (a0)))))
set_option maxHeartbeats 8000000 in
set_option maxRecDepth 100000 in
theorem frame_far.calls (a0 : Int) (a1 : Int) (r : Int) (w : World) (h : frame_far.f a0 a1 = some r) :
  Calls Try.prog 32 #[.int .i64 a0, .int .i64 a1] w fun e w' => e = .returned (.int .i64 r) ∧ Drawn0 w w' := by
 have H : (some (wrap64 (IntKind.u64.wrap ((IntKind.u64.wrap (a1)) - (IntKind.u64.wrap (a0)))))) = some r := h
 clear h
 obtain rfl := Option.some.inj H
 go_enter Try.func32, Try.ntmps32
 go_wp2
 go_ret
 exact ⟨by first | rfl | (unfold wrap64; rfl) | (simp; done) | (simp [*]; done), by repeat (first | exact Drawn0.refl _ | apply Drawn0.step)⟩

/-! ### slices_Min_int_int: function 33 (a contract of the session's own) -/
def slices_Min_int_int.upto (l : List Int) : Nat → Int
  | 0 => rd l 0
  | k + 1 => mn (slices_Min_int_int.upto l k) (rd l ((k + 1 : Nat) : Int))
def slices_Min_int_int.f (l0 : List Int) : Option (Int) := if 0 < l0.length then some (slices_Min_int_int.upto l0 (l0.length - 1)) else none
set_option maxHeartbeats 1600000 in
theorem slices_Min_int_int.calls (A0 : Option Addr) (c0 : Nat) (l0 : List Int) (r : Int) (w : World) (hr0 : (Kd.int .i64).C w A0 l0.length l0) (hc0 : l0.length ≤ c0) (h : slices_Min_int_int.f l0 = some r) :
    Calls Try.prog 33 #[.slice A0 l0.length c0] w fun e w' => e = .returned (.int .i64 r) ∧ Below w.heap.size w w' := by
  have hp : 0 < l0.length := by
    unfold slices_Min_int_int.f at h
    split at h
    · assumption
    · exact absurd h (by simp)
  obtain rfl : slices_Min_int_int.upto l0 (l0.length - 1) = r := by
    unfold slices_Min_int_int.f at h
    rw [if_pos hp] at h
    exact Option.some.inj h
  have HR := Aside0.mk hr0
  have HN := Aside0.mk hr0.2.1
  have HP := Aside0.mk hp
  obtain ⟨ad, rfl, hx0⟩ := Kd.at_int hr0 0 (by omega) (by omega)
  have hx0' : w.cell? ad = some (.int .i64 (rd l0 0)) := by
    have e0 : ad.add 0 = ad := by unfold Addr.add; simp
    have := hx0
    rwa [show (0 : Int).toNat = 0 from rfl, e0] at this
  have hq0 : (0 : Int) < (l0.length : Int) := by omega
  have hq1 : ¬ ((l0.length : Int) < 1) := by omega
  clear h hr0 hc0 hx0
  go_enter Try.func33, Try.ntmps33
  go_wp2
  go_loop [3, 4] (fun v3 v4 => ∃ (k : Nat) (i : Int), k < l0.length ∧ Aside0 (i = ((k + 1 : Nat) : Int)) ∧ v4 = .int .i64 i ∧ v3 = .int .i64 (slices_Min_int_int.upto l0 k)) (fun _ v4 => l0.length - (intOf v4).toNat)
  case atStart => exact ⟨0, 1, HP.out, ⟨rfl⟩, rfl, rfl⟩
  case round =>
    obtain ⟨k, i, hk, HI, rfl, rfl⟩ := hrel
    have HN2 := HN.out
    have hi := HI.out
    by_cases hlt : k + 1 < l0.length
    · have hk0 : (0 : Int) ≤ i := by omega
      have hk1 : i < (l0.length : Int) := by omega
      obtain ⟨ad2, he2, hx2⟩ := Kd.at_int HR.out i hk0 hk1
      obtain rfl : ad = ad2 := Option.some.inj he2
      have HT : Aside0 (mn (slices_Min_int_int.upto l0 k) (rd l0 i) = slices_Min_int_int.upto l0 (k + 1)) := ⟨by rw [HI.out]; rfl⟩
      have HW : Aside0 (wrap64 (i + 1) = ((k + 1 + 1 : Nat) : Int) ∧ i = ((k + 1 : Nat) : Int)) := ⟨by unfold wrap64; omega, hi⟩
      generalize slices_Min_int_int.upto l0 k = a at HT ⊢
      generalize rd l0 i = b at HT hx2
      clear hi HI HN2
      go_wp2
      go_round
      case rel => exact ⟨k + 1, wrap64 (i + 1), hlt, ⟨HW.out.1⟩, by first | rfl | (simp; done) | (unfold wrap64; go_num), by rw [← HT.out]; first | rfl | (unfold mn; rfl)⟩
      case measure => have := HW.out; first | (simp [intOf]; omega) | (show l0.length - (wrap64 (i + 1)).toNat < l0.length - i.toNat; omega)
    · have hk1 : ¬ i < (l0.length : Int) := by omega
      have e : k = l0.length - 1 := by omega
      clear hi
      go_wp2
      go_ret
      exact ⟨rfl, Below.refl _ _⟩


/-! ### frame_steps: function 15 -/
mutual
def frame_steps.l0 : Nat → List Int → List Int → Int → Option (List Int × Int)
 | 0, _, _, _ => none
 | k + 1, x0, x4, x5 => if x5 < (x0.length : Int) then (if 0 ≤ (wrap64 (x5 - 1)) then (if (wrap64 (x5 - 1)) < (x0.length : Int) then (if 0 ≤ x5 then ((frame_far.f (rd x0 (wrap64 (x5 - 1))) (rd x0 x5)).bind fun t106 => (if x4.length < 17592186044416 then (frame_steps.l0 k x0 (x4 ++ [t106]) (wrap64 (x5 + 1))) else (none))) else (none)) else (none)) else (none)) else ((slices_Min_int_int.f x4).bind fun t110 => (frame_steps.l1 k x4 t110 (x4.length : Int) 0))
def frame_steps.l1 : Nat → List Int → Int → Int → Int → Option (List Int × Int)
 | 0, _, _, _, _ => none
 | k + 1, x4, x6, x33, x34 => if x34 < x33 then (if 0 ≤ x34 then (if x34 < (x4.length : Int) then ((frame_far.f x6 (rd x4 x34)).bind fun t112 => (frame_steps.l1 k (x4.set (x34 : Int).toNat t112) x6 x33 (wrap64 (x34 + 1)))) else (none)) else (none)) else (some (x4, x6))
end
def frame_steps.f (k : Nat) (l0 : List Int) : Option (List Int × Int) := if 0 ≤ (l0.length : Int) then (if ((l0.length : Int) : Int).toNat ≤ 35184372088832 then (frame_steps.l0 k l0 (([] : List Int)) 1) else (none)) else (none)
theorem frame_steps.l0_succ (k : Nat) (x0 : List Int) (x4 : List Int) (x5 : Int) : frame_steps.l0 (k + 1) x0 x4 x5 = (if x5 < (x0.length : Int) then (if 0 ≤ (wrap64 (x5 - 1)) then (if (wrap64 (x5 - 1)) < (x0.length : Int) then (if 0 ≤ x5 then ((frame_far.f (rd x0 (wrap64 (x5 - 1))) (rd x0 x5)).bind fun t106 => (if x4.length < 17592186044416 then (frame_steps.l0 k x0 (x4 ++ [t106]) (wrap64 (x5 + 1))) else (none))) else (none)) else (none)) else (none)) else ((slices_Min_int_int.f x4).bind fun t110 => (frame_steps.l1 k x4 t110 (x4.length : Int) 0))) := by
 simp only [frame_steps.l0]
theorem frame_steps.l1_succ (k : Nat) (x4 : List Int) (x6 : Int) (x33 : Int) (x34 : Int) : frame_steps.l1 (k + 1) x4 x6 x33 x34 = (if x34 < x33 then (if 0 ≤ x34 then (if x34 < (x4.length : Int) then ((frame_far.f x6 (rd x4 x34)).bind fun t112 => (frame_steps.l1 k (x4.set (x34 : Int).toNat t112) x6 x33 (wrap64 (x34 + 1)))) else (none)) else (none)) else (some (x4, x6))) := by
 simp only [frame_steps.l1]
theorem frame_steps.mono_l : ∀ k, (∀ y0 y1 y2, LeO (frame_steps.l0 k y0 y1 y2) (frame_steps.l0 (k + 1) y0 y1 y2)) ∧ (∀ y0 y1 y2 y3, LeO (frame_steps.l1 k y0 y1 y2 y3) (frame_steps.l1 (k + 1) y0 y1 y2 y3))
 | 0 => ⟨fun _ _ _ r h => by simp [frame_steps.l0] at h, fun _ _ _ _ r h => by simp [frame_steps.l1] at h⟩
 | k + 1 => by
  obtain ⟨ih0, ih1⟩ := frame_steps.mono_l k
  refine ⟨?_, ?_⟩
  ·intro y0 y1 y2
   unfold frame_steps.l0
   repeat' first
   | (with_reducible exact ih0 _ _ _)
   | (with_reducible exact ih1 _ _ _ _)
   | (with_reducible exact LeO.refl _)
   | (with_reducible exact LeO.none _)
   | (with_reducible refine LeO.ite ?_ ?_)
   | (with_reducible refine LeO.bind ?_ (fun _ => ?_))
   | exact ih0 _ _ _
   | exact ih1 _ _ _ _
   | exact LeO.none _
   | refine LeO.ite ?_ ?_
   | refine LeO.bind ?_ (fun _ => ?_)
  ·intro y0 y1 y2 y3
   unfold frame_steps.l1
   repeat' first
   | (with_reducible exact ih0 _ _ _)
   | (with_reducible exact ih1 _ _ _ _)
   | (with_reducible exact LeO.refl _)
   | (with_reducible exact LeO.none _)
   | (with_reducible refine LeO.ite ?_ ?_)
   | (with_reducible refine LeO.bind ?_ (fun _ => ?_))
   | exact ih0 _ _ _
   | exact ih1 _ _ _ _
   | exact LeO.none _
   | refine LeO.ite ?_ ?_
   | refine LeO.bind ?_ (fun _ => ?_)
theorem frame_steps.mono : ∀ a0 k, LeO (frame_steps.f k a0) (frame_steps.f (k + 1) a0) := by
 intro a0 k
 obtain ⟨ih0, ih1⟩ := frame_steps.mono_l k
 unfold frame_steps.f
 repeat' first
   | (with_reducible exact ih0 _ _ _)
   | (with_reducible exact ih1 _ _ _ _)
   | (with_reducible exact LeO.refl _)
   | (with_reducible exact LeO.none _)
   | (with_reducible refine LeO.ite ?_ ?_)
   | (with_reducible refine LeO.bind ?_ (fun _ => ?_))
   | exact ih0 _ _ _
   | exact ih1 _ _ _ _
   | exact LeO.none _
   | refine LeO.ite ?_ ?_
   | refine LeO.bind ?_ (fun _ => ?_)
def frame_steps.T5 : Bool × List (List Nat × List Nat) := (true, [([], []), ([], []), ([], []), ([2], [2]), ([1, 3], [1, 3]), ([4], [4]), ([], []), ([], []), ([6, 7], [6, 7]), ([8], [8]), ([5, 9], [5, 9]), ([10], [10]), ([0, 11, 10], [0, 11]), ([12, 12, 0, 1, 2, 3, 4, 5, 6, 7, 8, 9, 10, 11, 12], [0, 12])])
def frame_steps.B5 : List Nat := [0, 0, 0, 4, 14, 30, 0, 0, 192, 448, 1022, 2046, 4095, 8191]
theorem frame_steps.tab5 : rtab .any (opsOf Try.f15 5) = frame_steps.T5 := by kernel_rfl
theorem frame_steps.bits5 : waitsOk frame_steps.T5.2 frame_steps.B5 = true := by kernel_rfl
set_option maxHeartbeats 8000000 in
set_option maxRecDepth 100000 in
theorem frame_steps.calls (k : Nat) (A0 : Option Addr) (c0 : Nat) (l0 : List Int) (r1 : List Int) (r2 : Int) (w : World) (hr0 : Kd.C (Kd.int .i64) w A0 l0.length l0) (hc0 : l0.length ≤ c0) (h : frame_steps.f k l0 = some (r1, r2)) :
  Calls Try.prog 15 #[.slice A0 l0.length c0] w fun e w' => ∃ v0_ : Value, e = .returned (.tuple #[v0_, .int .i64 r2]) ∧ Kd.R (Kd.int .i64) 3 w' w.heap.size (fun _ => True) v0_ r1 ∧ Below w.heap.size w w' := by
 have HR0 := Aside0.mk hr0
 have HC0 := Aside0.mk hc0
 clear hr0 hc0
 have HB := Aside0.mk (Below.refl w.heap.size w)
 have H : (if 0 ≤ (l0.length : Int) then (if ((l0.length : Int) : Int).toNat ≤ 35184372088832 then (frame_steps.l0 k l0 (([] : List Int)) 1) else (none)) else (none)) = some (r1, r2) := h
 clear h
 by_cases c2 : 0 ≤ (l0.length : Int)
 ·rw [if_pos c2] at H
  have c2b0 := eq_true c2
  have c2b1 : decide (0 ≤ (l0.length : Int)) = true := decide_eq_true c2
  clear c2
  by_cases c3 : ((l0.length : Int) : Int).toNat ≤ 35184372088832
  ·rw [if_pos c3] at H
   have c3b0 := eq_true c3
   have c3b1 : decide (((l0.length : Int) : Int).toNat ≤ 35184372088832) = true := decide_eq_true c3
   clear c3
   obtain ⟨y101, hy101⟩ : ∃ y_ : List Int, y_ = (([] : List Int)) := ⟨_, rfl⟩
   replace H : (frame_steps.l0 k l0 y101 1) = some (r1, r2) := by first | (rw [hy101]; with_reducible exact H) | (have H2_ := (Option.bind_some _ _).symm.trans H; rw [hy101]; with_reducible exact H2_) | (have H2_ := (Option.bind_some _ _).symm.trans H; with_reducible exact H2_) | with_reducible exact H | (rw [hy101]; exact H) | exact H
   have Ny101 := Aside0.mk hy101
   clear hy101
   have H' := Aside0.mk H
   clear H
   go_enter Try.func15, Try.ntmps15
   go_wp2_with (first | ((with_reducible refine gate_dst (N := 10) rfl ?_); refine Kd.R_make0 (Kd.int .i64) _ 3 rfl (N := 10) rfl 22 _ _ rfl (l0.length : Int) rfl rfl Try.underlying22 (.int .i64 0) 8 info3 rfl (by decide) (by omega) 0 (ok := fun _ => True) (okp := fun _ => True) rfl (fun _ hk => hk) trivial (of_decide_eq_true (by assumption)) (Nat.le_trans (Nat.mul_le_mul_right _ (of_decide_eq_true (by assumption) : (l0.length : Int).toNat ≤ 35184372088832)) (by omega)) (Below.refl _ _) (Nat.le_refl _) ?_; intro v102 w4 ho5 hb hg_ hnew_; clear hg_ hnew_; (first | rw [← Ny101.out] at ho5 | (simp only [Int.reduceToNat] at ho5; rw [← Ny101.out] at ho5)); have n0_ := Aside0.mk (Kd.R_lower ho5 (below_size (by repeat (first | exact HB.out | apply below_alloc | apply pw_below_drewN | apply below_drew1)))); have n1_ := Aside0.mk (below_step (by repeat (first | exact HB.out | apply below_alloc | apply pw_below_drewN | apply below_drew1)) hb); clear HB; have HO103 := n0_; have HB := n1_; clear n0_ n1_; clear hb ho5))
   go_loopg [4, 5] k (fun kq v4 v5 w' => ∃ (x4_1 : List Int) (x5_1 : Int), v5 = .int .i64 x5_1 ∧ Aside0 (frame_steps.l0 kq l0 x4_1 x5_1 = some (r1, r2)) ∧ Aside0 (kq ≤ k) ∧ Aside0 (Kd.R (Kd.int .i64) 3 w' w.heap.size (fun _ => True) v4 x4_1) ∧ Aside0 (Below w.heap.size w w'))
   case atStart => exact ⟨(y101), (1), (by first | rfl | (simp; done) | (simp [*]; done)), H', ⟨Nat.le_refl _⟩, ⟨by (with_reducible repeat (first | apply Kd.R_alloc | apply Kd.R_drewN | apply Kd.R_drew)); exact HO103.out⟩, ⟨by repeat (first | (with_reducible first | exact HB.out | apply below_alloc | apply pw_below_drewN | apply below_drew1) | exact HB.out)⟩⟩
   case round =>
    clear H'
    try clear c1
    try clear c2
    try clear c2b0
    try clear c2b1
    try clear p2
    try clear c3
    try clear c3b0
    try clear c3b1
    obtain ⟨x4_1, x5_1, rfl, HA, HK1, HO_4, HB⟩ := hrel
    cases gk with
    | zero => exact absurd HA.out (by simp [frame_steps.l0])
    | succ k1 =>
     have H := HA.out
     clear HA
     simp only [frame_steps.l0] at H
     by_cases c6 : x5_1 < (l0.length : Int)
     ·rw [if_pos c6] at H
      have c6b0 : decide (x5_1 < (l0.length : Int)) = true := decide_eq_true c6
      clear c6
      obtain ⟨ji7, hji7⟩ : ∃ j_ : Int, (wrap64 (x5_1 - 1)) = j_ := ⟨_, rfl⟩
      replace H : (if 0 ≤ (ji7) then (if (ji7) < (l0.length : Int) then (if 0 ≤ x5_1 then ((frame_far.f (rd l0 (ji7)) (rd l0 x5_1)).bind fun t106 => (if x4_1.length < 17592186044416 then (frame_steps.l0 k1 l0 (x4_1 ++ [t106]) (wrap64 (x5_1 + 1))) else (none))) else (none)) else (none)) else (none)) = some (r1, r2) := by first | (rw [hji7] at H; exact H) | (simp only [hji7] at H ⊢; exact H)
      have hji7w : (IntKind.i64.wrap (x5_1 - 1)) = ji7 := (i64_w _).trans hji7
      by_cases c8 : 0 ≤ (ji7)
      ·rw [if_pos c8] at H
       have c8b0 : decide (0 ≤ (ji7)) = true := decide_eq_true c8
       clear c8
       by_cases c9 : (ji7) < (l0.length : Int)
       ·rw [if_pos c9] at H
        have c9b0 : decide ((ji7) < (l0.length : Int)) = true := decide_eq_true c9
        clear c9
        by_cases c10 : 0 ≤ x5_1
        ·rw [if_pos c10] at H
         have c10b0 : decide (0 ≤ x5_1) = true := decide_eq_true c10
         clear c10
         replace H := Option.bind_eq_some_iff.mp H
         obtain ⟨t106, A110, H⟩ := H
         replace H : (if x4_1.length < 17592186044416 then (frame_steps.l0 k1 l0 (x4_1 ++ [t106]) (wrap64 (x5_1 + 1))) else (none)) = some (r1, r2) := H
         have A11 := Aside0.mk A110
         clear A110
         by_cases c12 : x4_1.length < 17592186044416
         ·rw [if_pos c12] at H
          have LMc12 := Aside0.mk c12
          clear c12
          obtain ⟨y107, hy107⟩ : ∃ y_ : List Int, y_ = (x4_1 ++ [t106]) := ⟨_, rfl⟩
          replace H : (frame_steps.l0 k1 l0 y107 (wrap64 (x5_1 + 1))) = some (r1, r2) := by first | (rw [hy107]; with_reducible exact H) | (have H2_ := (Option.bind_some _ _).symm.trans H; rw [hy107]; with_reducible exact H2_) | (have H2_ := (Option.bind_some _ _).symm.trans H; with_reducible exact H2_) | with_reducible exact H | (rw [hy107]; exact H) | exact H
          have Ny107 := Aside0.mk hy107
          clear hy107
          have H' := Aside0.mk H
          clear H
          try go_wp2
          have n0_ := Aside0.mk (Kd.R_drew HO_4.out)
          have n1_ := Aside0.mk (below_drew1 HB.out)
          clear HO_4
          clear HB
          have HO_4 := n0_
          have HB := n1_
          clear n0_ n1_
          have p104 : 0 ≤ ((ji7) : Int) := of_decide_eq_true (by assumption)
          have q104 : (ji7) < (l0.length : Int) := of_decide_eq_true (by assumption)
          obtain ⟨ad104, e104, hx104_0⟩ := Kd.at_int HR0.out (ji7) p104 q104
          have hw104_0 := hx104_0
          cases e104
          replace hx104_0 := (HB.out.cell (World.block_lt_of_cell? w _ hx104_0)).trans hx104_0
          replace p104 := eq_true p104
          replace q104 := eq_true q104
          have p105 : 0 ≤ (x5_1 : Int) := of_decide_eq_true (by assumption)
          have q105 : x5_1 < (l0.length : Int) := of_decide_eq_true (by assumption)
          obtain ⟨ad105, e105, hx105_0⟩ := Kd.at_int HR0.out x5_1 p105 q105
          have hw105_0 := hx105_0
          obtain rfl : ad104 = ad105 := (by injection e105)
          replace hx105_0 := (HB.out.cell (World.block_lt_of_cell? w _ hx105_0)).trans hx105_0
          replace p105 := eq_true p105
          replace q105 := eq_true q105
          refine start_ (n := 14) (S := fun w' => w'.cell? (ad104.add ((ji7)).toNat) = some (.int .i64 (rd l0 (ji7))) ∧ w'.cell? (ad104.add (x5_1).toNat) = some (.int .i64 (rd l0 x5_1))) (ds := []) #[false, false, false, false, false, false, false, false, false, false, false, false, false, false] (by kernel_rfl) rfl rfl ⟨((HB.out.cell (World.block_lt_of_cell? w _ hw104_0)).trans hw104_0), ((HB.out.cell (World.block_lt_of_cell? w _ hw105_0)).trans hw105_0)⟩ (fun hHeld => ?_); refine with_tabW frame_steps.tab5 frame_steps.bits5 (fun HT_ HW_ => ?_)
          generalize wr.drew = w13 at HO_4 HB hx104_0 hx105_0 hHeld ⊢
          refine pure_ (i := 0) (N := some 17) (v := ?_) (a' := ?_) #[true, false, false, false, false, false, false, false, false, false, false, false, false, false] rfl rfl (any_of HT_.out (by kernel_rfl)) (fun _ _ _ h => h) (Or.inl ⟨by rfl, ?_⟩) ?_ ?_
          rotate_left
          ·intro w'
           go_simp
           with_reducible rfl
          rotate_left
          ·simp only [Act.put, List.setIfInBounds_toArray, List.set_cons_zero, List.set_cons_succ, i64_w, i32_w]
           rfl
          refine pure_ (i := 1) (N := some 18) (v := ?_) (a' := ?_) #[true, true, false, false, false, false, false, false, false, false, false, false, false, false] rfl rfl (any_of HT_.out (by kernel_rfl)) (fun _ _ _ h => h) (Or.inl ⟨by rfl, ?_⟩) ?_ ?_
          rotate_left
          ·intro w'
           go_simp
           with_reducible rfl
          rotate_left
          ·simp only [Act.put, List.setIfInBounds_toArray, List.set_cons_zero, List.set_cons_succ, i64_w, i32_w]
           rfl
          refine pure_ (i := 2) (N := some 19) (v := ?_) (a' := ?_) #[true, true, true, false, false, false, false, false, false, false, false, false, false, false] rfl rfl (any_of HT_.out (by kernel_rfl)) (fun _ _ _ h => h) (Or.inl ⟨by rfl, ?_⟩) ?_ ?_
          rotate_left
          ·intro w'
           go_simp
           with_reducible rfl
          rotate_left
          ·simp only [Act.put, List.setIfInBounds_toArray, List.set_cons_zero, List.set_cons_succ, i64_w, i32_w]
           rfl
          refine pure_ (i := 3) (N := some 20) (v := ?_) (a' := ?_) #[true, true, true, true, false, false, false, false, false, false, false, false, false, false] rfl rfl (any_of HT_.out (by kernel_rfl)) (fun _ _ _ h => h) (Or.inl ⟨by rfl, ?_⟩) ?_ ?_
          rotate_left
          ·intro w'
           go_simp
           with_reducible rfl
          rotate_left
          ·simp only [Act.put, List.setIfInBounds_toArray, List.set_cons_zero, List.set_cons_succ, i64_w, i32_w]
           rfl
          refine pure_ (i := 4) (N := some 21) (v := ?_) (a' := ?_) #[true, true, true, true, true, false, false, false, false, false, false, false, false, false] rfl rfl (any_of HT_.out (by kernel_rfl)) (fun _ _ _ h => h) (Or.inl ⟨by rfl, ?_⟩) ?_ ?_
          rotate_left
          ·intro w'
           go_simp
           with_reducible rfl
          rotate_left
          ·simp only [Act.put, List.setIfInBounds_toArray, List.set_cons_zero, List.set_cons_succ, i64_w, i32_w]
           rfl
          refine pure_ (i := 6) (N := some 23) (v := ?_) (a' := ?_) #[true, true, true, true, true, false, true, false, false, false, false, false, false, false] rfl rfl (any_of HT_.out (by kernel_rfl)) (fun _ _ _ h => h) (Or.inl ⟨by rfl, ?_⟩) ?_ ?_
          rotate_left
          ·intro w'
           go_simp
           with_reducible rfl
          rotate_left
          ·simp only [Act.put, List.setIfInBounds_toArray, List.set_cons_zero, List.set_cons_succ, i64_w, i32_w]
           rfl
          refine pure_ (i := 7) (N := some 24) (v := ?_) (a' := ?_) #[true, true, true, true, true, false, true, true, false, false, false, false, false, false] rfl rfl (any_of HT_.out (by kernel_rfl)) (fun _ _ _ h => h) (Or.inl ⟨by rfl, ?_⟩) ?_ ?_
          rotate_left
          ·intro w'
           go_simp
           with_reducible rfl
          rotate_left
          ·simp only [Act.put, List.setIfInBounds_toArray, List.set_cons_zero, List.set_cons_succ, i64_w, i32_w]
           rfl
          refine pure_ (i := 8) (N := some 25) (v := ?_) (a' := ?_) #[true, true, true, true, true, false, true, true, true, false, false, false, false, false] rfl rfl (any_of HT_.out (by kernel_rfl)) (fun _ _ _ h => h) (Or.inl ⟨by rfl, ?_⟩) ?_ ?_
          rotate_left
          ·intro w'
           go_simp
           with_reducible rfl
          rotate_left
          ·simp only [Act.put, List.setIfInBounds_toArray, List.set_cons_zero, List.set_cons_succ, i64_w, i32_w]
           rfl
          refine take_ (i := 5) (N := some 22) (v := ?_) (a' := ?_) #[true, true, true, true, true, true, true, true, true, false, false, false, false, false] rfl rfl (take_ofW HT_.out HW_.out (by kernel_rfl)) (fun _ _ _ h => h) (Or.inl ⟨by rfl, ?_⟩) hHeld ?_ ?_
          rotate_left
          ·rintro w' ⟨s0, s1⟩
           go_simp
           with_reducible rfl
          rotate_left
          ·simp only [Act.put, List.setIfInBounds_toArray, List.set_cons_zero, List.set_cons_succ, i64_w, i32_w]
           rfl
          refine take_ (i := 9) (N := some 26) (v := ?_) (a' := ?_) #[true, true, true, true, true, true, true, true, true, true, false, false, false, false] rfl rfl (take_ofW HT_.out HW_.out (by kernel_rfl)) (fun _ _ _ h => h) (Or.inl ⟨by rfl, ?_⟩) hHeld ?_ ?_
          rotate_left
          ·rintro w' ⟨s0, s1⟩
           go_simp
           with_reducible rfl
          rotate_left
          ·simp only [Act.put, List.setIfInBounds_toArray, List.set_cons_zero, List.set_cons_succ, i64_w, i32_w]
           rfl
          refine one_ (i := 10) (N := some 27) #[true, true, true, true, true, true, true, true, true, true, true, false, false, false] rfl rfl (one_of HT_.out (by kernel_rfl)) (by decide) (fun K hK => ?_)
          refine goes_ Try.func32 (by kernel_rfl) rfl #[.int .i64 (rd l0 (ji7)), .int .i64 (rd l0 x5_1)] (by rfl) rfl rfl (by (try simp only [List.map_toArray, List.map_cons, List.map_nil]); first | done | (simp only [hji7]; rfl) | rfl | (simp only [List.length_drop, List.length_take]; rfl)) ?_
          with_reducible refine (frame_far.calls (rd l0 (ji7)) (rd l0 x5_1) t106 _ A11.out).mono ?_
          rintro e w' ⟨rfl, ⟨nd, rfl⟩⟩
          refine ⟨_, rfl, ?_⟩
          refine hK.out _ _ ⟨((HB.out.cell (World.block_lt_of_cell? w _ hw104_0)).trans hw104_0), ((HB.out.cell (World.block_lt_of_cell? w _ hw105_0)).trans hw105_0)⟩ (fun hHeld => ?_)
          clear hK K
          refine norm_ (a' := ?_) ?_ ?_
          rotate_left
          ·show Act.put _ (some 27) _ = _
           simp only [Act.put, List.setIfInBounds_toArray, List.set_cons_zero, List.set_cons_succ, i64_w, i32_w]
           rfl
          refine one_ (i := 11) (N := some 28) #[true, true, true, true, true, true, true, true, true, true, true, true, false, false] rfl rfl (one_of HT_.out (by kernel_rfl)) (by decide) (fun K hK => ?_)
          refine value_ (w1 := ?_) (v := ?_) (by rfl) rfl ?_ ?_
          rotate_left 2
          ·go_simp
           constructor
           ·rfl
           ·rfl
          refine hK.out _ _ ⟨(World.cell?_alloc_lt _ _ _ (World.block_lt_of_cell? _ _ (((HB.out.cell (World.block_lt_of_cell? w _ hw104_0)).trans hw104_0)))).trans (((HB.out.cell (World.block_lt_of_cell? w _ hw104_0)).trans hw104_0)), (World.cell?_alloc_lt _ _ _ (World.block_lt_of_cell? _ _ (((HB.out.cell (World.block_lt_of_cell? w _ hw105_0)).trans hw105_0)))).trans (((HB.out.cell (World.block_lt_of_cell? w _ hw105_0)).trans hw105_0))⟩ (fun hHeld => ?_)
          clear hK K
          refine norm_ (a' := ?_) ?_ ?_
          rotate_left
          ·show Act.put _ (some 28) _ = _
           simp only [Act.put, List.setIfInBounds_toArray, List.set_cons_zero, List.set_cons_succ, i64_w, i32_w]
           rfl
          refine one_ (i := 12) (N := some 29) #[true, true, true, true, true, true, true, true, true, true, true, true, true, false] rfl rfl (one_of HT_.out (by kernel_rfl)) (by decide) (fun K hK => ?_)
          refine Kd.R_append_step (Kd.int .i64) (w0 := w) w.heap.size (by rfl) (.tmp 17) (.tmp 28) 22 3 (.int .i64 0) 8 rfl Try.underlying22 info3 rfl (by decide) (by omega) u4 x4_1 t106 [.int .i64 t106] (fun _ => True) (fun _ => False) rfl rfl ?aP (fun _ hk => hk.elim) ?aF ?aO ?aB ?aS ?aL ?_
          (case aP => exact rfl)
          (case aB => exact (by repeat (first | exact HB.out | apply below_alloc | apply pw_below_drewN | apply below_drew1)))
          (case aF => exact (fun _ _ => trivial))
          (case aO => exact (by (with_reducible repeat (first | apply Kd.R_alloc | apply Kd.R_drewN | apply Kd.R_drew)); exact HO_4.out))
          (case aS => exact (below_size (by repeat (first | exact HB.out | apply below_alloc | apply pw_below_drewN | apply below_drew1))))
          (case aL => have := LMc12.out; omega)
          intro v108 w14 ho hb hg hat
          rw [← Ny107.out] at ho
          have n0_ := Aside0.mk (hb)
          have n1_ := Aside0.mk (ho)
          clear HB
          clear HO_4
          have HB := n0_
          have HO109 := n1_
          clear n0_ n1_
          clear ho hb hg hat
          refine hK.out _ _ ⟨((HB.out.cell (World.block_lt_of_cell? w _ hw104_0)).trans hw104_0), ((HB.out.cell (World.block_lt_of_cell? w _ hw105_0)).trans hw105_0)⟩ (fun hHeld => ?_)
          clear hK K
          refine norm_ (a' := ?_) ?_ ?_
          rotate_left
          ·show Act.put _ (some 29) _ = _
           simp only [Act.put, List.setIfInBounds_toArray, List.set_cons_zero, List.set_cons_succ, i64_w, i32_w]
           rfl
          refine pure_ (i := 13) (N := some 4) (v := ?_) (a' := ?_) #[true, true, true, true, true, true, true, true, true, true, true, true, true, true] rfl rfl (any_of HT_.out (by kernel_rfl)) (fun _ _ _ h => h) (Or.inl ⟨by rfl, ?_⟩) ?_ ?_
          rotate_left
          ·intro w'
           go_simp
           with_reducible rfl
          rotate_left
          ·simp only [Act.put, List.setIfInBounds_toArray, List.set_cons_zero, List.set_cons_succ, i64_w, i32_w]
           rfl
          refine done_ (done_of HT_.out (by kernel_rfl)) ?_
          try go_wp2
          go_roundg k1
          case measure => have := HK1.out; omega
          case rel => exact ⟨(y107), (wrap64 (x5_1 + 1)), (by first | rfl | (simp; done) | (simp [*]; done)), (by first | exact H' | (simp only [hji7]; exact H')), ⟨by have := HK1.out; omega⟩, ⟨by (with_reducible repeat (first | apply Kd.R_alloc | apply Kd.R_drewN | apply Kd.R_drew)); exact HO109.out⟩, ⟨by repeat (first | (with_reducible first | exact HB.out | apply below_alloc | apply pw_below_drewN | apply below_drew1) | exact HB.out)⟩⟩
         ·rw [if_neg c12] at H
          exact absurd H (by simp)
        ·rw [if_neg c10] at H
         exact absurd H (by simp)
       ·rw [if_neg c9] at H
        exact absurd H (by simp)
      ·rw [if_neg c8] at H
       exact absurd H (by simp)
     ·rw [if_neg c6] at H
      have c6b0 : decide (x5_1 < (l0.length : Int)) = false := decide_eq_false c6
      clear c6
      replace H := Option.bind_eq_some_iff.mp H
      obtain ⟨t110, A150, H⟩ := H
      replace H : (frame_steps.l1 k1 x4_1 t110 (x4_1.length : Int) 0) = some (r1, r2) := H
      have A15 := Aside0.mk A150
      clear A150
      have H' := Aside0.mk H
      clear H
      obtain ⟨Ao16, co16, eo16⟩ := Kd.R_slice HO_4.out
      subst eo16
      go_wp2_with (first | ((with_reducible refine gate_callee (f := 33) rfl ?_); refine goesL_ (some 31) rfl rfl Try.func33 (by kernel_rfl) rfl #[.slice Ao16 x4_1.length co16] rfl (by (try simp only [List.map_toArray, List.map_cons, List.map_nil]); first | done | rfl) ?_; (with_reducible refine (slices_Min_int_int.calls _ _ x4_1 t110 _ ?side1 ?side2 A15.out).mono ?_); (case side1 => repeat (first | exact (Kd.R_reads' HO_4.out).2.2 | (with_reducible refine Kd.C_alloc ?_ _) | (with_reducible refine Kd.C_drewN ?_ _) | (with_reducible refine Kd.C_drew ?_))); (case side2 => exact (Kd.R_reads' HO_4.out).2.1); rintro e w17 ⟨rfl, hb⟩; refine ⟨_, rfl, ?_⟩; have n0_ := Aside0.mk (Kd.R_below (by (with_reducible repeat (first | apply Kd.R_alloc | apply Kd.R_drewN | apply Kd.R_drew)); exact HO_4.out) hb); have n1_ := Aside0.mk (below_step (by repeat (first | exact HB.out | apply below_alloc | apply pw_below_drewN | apply below_drew1)) hb); clear HO_4; clear HB; have HO_4 := n0_; have HB := n1_; clear n0_ n1_; (try clear hb); (try clear hb2); (try clear hk); (try clear hi)))
      go_loopg [34] k1 (fun kq v34 w' => ∃ (x4_2 : List Int) (x34_2 : Int), v34 = .int .i64 x34_2 ∧ Aside0 (frame_steps.l1 kq x4_2 t110 (x4_1.length : Int) x34_2 = some (r1, r2)) ∧ Aside0 (kq ≤ k1) ∧ Aside0 (Kd.R (Kd.int .i64) 3 w' w.heap.size (fun _ => True) (.slice Ao16 x4_1.length co16) x4_2) ∧ Aside0 (Below w.heap.size w w'))
      case atStart => exact ⟨(x4_1), (0), (by first | rfl | (simp; done) | (simp [*]; done)), H', ⟨Nat.le_refl _⟩, ⟨by (with_reducible repeat (first | apply Kd.R_alloc | apply Kd.R_drewN | apply Kd.R_drew)); exact HO_4.out⟩, ⟨by repeat (first | (with_reducible first | exact HB.out | apply below_alloc | apply pw_below_drewN | apply below_drew1) | exact HB.out)⟩⟩
      case round =>
       clear H'
       try clear c1
       try clear p1
       try clear q1
       try clear hx1
       try clear c2
       try clear c2b0
       try clear c2b1
       try clear p2
       try clear c3
       try clear c3b0
       try clear c3b1
       try clear c6
       try clear c6b0
       try clear p6
       try clear c8
       try clear c8b0
       try clear c9
       try clear c9b0
       try clear c10
       try clear c10b0
       try clear p10
       try clear q10
       try clear hx10
       try clear c12
       try clear c15
       try clear hx104_0
       try clear hx105_0
       try clear p104
       try clear p105
       try clear p2
       try clear q104
       try clear q105
       obtain ⟨x4_2, x34_2, rfl, HA, HK2, HO_4, HB⟩ := hrel
       have hl4_2 := (Kd.R_reads' HO_4.out).1
       rw [hl4_2] at HO_4
       (try simp only [hl4_2])
       cases gk with
       | zero => exact absurd HA.out (by simp [frame_steps.l1])
       | succ k2 =>
        have H := HA.out
        clear HA
        simp only [frame_steps.l1] at H
        by_cases c18 : x34_2 < (x4_1.length : Int)
        ·rw [if_pos c18] at H
         have c18b0 : decide (x34_2 < (x4_1.length : Int)) = true := decide_eq_true c18
         (try (have c18b0l := c18b0; simp only [hl4_2] at c18b0l))
         clear c18
         by_cases c19 : 0 ≤ x34_2
         ·rw [if_pos c19] at H
          have c19b0 : decide (0 ≤ x34_2) = true := decide_eq_true c19
          clear c19
          by_cases c20 : x34_2 < (x4_2.length : Int)
          ·rw [if_pos c20] at H
           have c20b0 : decide (x34_2 < (x4_2.length : Int)) = true := decide_eq_true c20
           (try (have c20b0l := c20b0; simp only [hl4_2] at c20b0l))
           clear c20
           replace H := Option.bind_eq_some_iff.mp H
           obtain ⟨t112, A210, H⟩ := H
           replace H : (frame_steps.l1 k2 (x4_2.set (x34_2 : Int).toNat t112) t110 (x4_1.length : Int) (wrap64 (x34_2 + 1))) = some (r1, r2) := H
           have A21 := Aside0.mk A210
           clear A210
           obtain ⟨y113, hy113⟩ : ∃ y_ : List Int, y_ = (x4_2.set (x34_2 : Int).toNat t112) := ⟨_, rfl⟩
           replace H : (frame_steps.l1 k2 y113 t110 (x4_1.length : Int) (wrap64 (x34_2 + 1))) = some (r1, r2) := by first | (rw [hy113]; with_reducible exact H) | (have H2_ := (Option.bind_some _ _).symm.trans H; rw [hy113]; with_reducible exact H2_) | (have H2_ := (Option.bind_some _ _).symm.trans H; with_reducible exact H2_) | with_reducible exact H | (rw [hy113]; exact H) | exact H
           have Ny113 := Aside0.mk hy113
           clear hy113
           have H' := Aside0.mk H
           clear H
           have p111 : 0 ≤ (x34_2 : Int) := of_decide_eq_true (by assumption)
           have q111 : x34_2 < (x4_2.length : Int) := of_decide_eq_true (by assumption)
           obtain ⟨ad111, e111, hx111_0⟩ := Kd.at_int (Kd.R_reads' HO_4.out).2.2 x34_2 p111 q111
           cases e111
           replace p111 := eq_true p111
           replace q111 := eq_true q111
           go_wp2_with (first | ((with_reducible refine gate_callee (f := 32) rfl ?_); refine goesL_ (some 44) rfl rfl Try.func32 (by kernel_rfl) rfl #[.int .i64 t110, .int .i64 (rd x4_2 x34_2)] rfl (by (try simp only [List.map_toArray, List.map_cons, List.map_nil]); first | done | rfl) ?_; (with_reducible refine (frame_far.calls t110 (rd x4_2 x34_2) t112 _ A21.out).mono ?_); rintro e w' ⟨rfl, ⟨nd, rfl⟩⟩; refine ⟨_, rfl, ?_⟩; (try (rw [drewN_self wr]; generalize hq_ : World.drewN wr _ = wr; have n0_ : Aside0 (Kd.R (Kd.int .i64) 3 wr w.heap.size (fun _ => True) (.slice (some ad111) x4_2.length co16) x4_2) := ⟨by rw [← hq_]; exact (by (with_reducible repeat (first | apply Kd.R_alloc | apply Kd.R_drewN | apply Kd.R_drew)); exact HO_4.out)⟩; have n1_ : Aside0 (Below w.heap.size w wr) := ⟨by rw [← hq_]; exact (by repeat (first | exact HB.out | apply below_alloc | apply pw_below_drewN | apply below_drew1))⟩; clear HO_4 HB hq_; have HO_4 := n0_; have HB := n1_; clear n0_ n1_)); have p22 : 0 ≤ (x34_2 : Int) := of_decide_eq_true (by assumption); have q22 : (x34_2 : Int) < ((x4_2.length : Int) : Int) := of_decide_eq_true (by assumption); obtain ⟨go22, co22, eo22, gb22, gl22, cl22, HG22⟩ := Kd.R_form HO_4.out (by omega); (first | cases eo22 | (injection eo22 with ea_ en_ ec_; (first | subst ea_ | (injection ea_ with ea_; subst ea_)); subst ec_; clear en_)); have GB22 := Aside0.mk gb22; have GG22 := Aside0.mk HG22; clear gb22 gl22 HG22; (first | simp only [add_plain] at hx111_0 | skip); obtain ⟨hx22_0, hf22_0⟩ := Kd.R_celln 0 HO_4.out (x34_2 : Int) p22 q22; replace p22 := eq_true p22; replace q22 := eq_true q22; obtain ⟨hy23_, hz23_⟩ := Kd.R_celln 0 HO_4.out (x34_2 : Int) (of_decide_eq_true (by assumption)) (of_decide_eq_true (by assumption)); have HP23 := Kd.R_putg HO_4.out (x34_2 : Int) t112) | ((with_reducible refine gate_store (t := 3) (p := 45) rfl ?_); refine store_event (t := 3) (p := 45) (v := ?vo_w24) (w1 := (wr.setCell ⟨go22, (x34_2 : Int).toNat, none⟩ (.int .i64 t112))) ?hg ?ho ?hn ?hr ?_; (case ho => rfl); (case hg => rfl); (case hn => rfl); (case hr => first | (go_simp; done) | (go_simp; rfl)); intro w24 hw; have hg : wr.grownBy w24 (some go22) := (by rw [hw]; exact HP23.2); have hp_ : Kd.R (Kd.int .i64) 3 w24 w.heap.size (fun _ => True) (.slice (some ⟨go22, 0, none⟩) x4_2.length co16) y113 := (by rw [hw, Ny113.out]; exact HP23.1); clear HP23; have n0_ := Aside0.mk (hp_); have n1_ := Aside0.mk ((by rw [hw]; exact below_set (HB.out) GB22.out : Below w.heap.size w w24)); clear HO_4; clear HB; have HO_4 := n0_; have HB := n1_; clear n0_ n1_; clear hg hw hp_))
           (try simp only [← hl4_2])
           go_roundg k2
           case measure => have := HK1.out; have := HK2.out; omega
           case rel => exact ⟨(y113), (wrap64 (x34_2 + 1)), (by first | rfl | (simp; done) | (simp [*]; done)), H', ⟨by have := HK1.out; have := HK2.out; omega⟩, ⟨by (try simp only [hl4_2]); (with_reducible repeat (first | apply Kd.R_alloc | apply Kd.R_drewN | apply Kd.R_drew)); exact HO_4.out⟩, ⟨by repeat (first | (with_reducible first | exact HB.out | apply below_alloc | apply pw_below_drewN | apply below_drew1) | exact HB.out)⟩⟩
          ·rw [if_neg c20] at H
           exact absurd H (by simp)
         ·rw [if_neg c19] at H
          exact absurd H (by simp)
        ·rw [if_neg c18] at H
         have c18b0 : decide (x34_2 < (x4_1.length : Int)) = false := decide_eq_false c18
         (try (have c18b0l := c18b0; simp only [hl4_2] at c18b0l))
         clear c18
         simp only [Option.some.injEq, Prod.mk.injEq] at H
         obtain ⟨rfl, rfl⟩ := H
         go_wp2
         go_ret2
         exact ⟨_, by first | rfl | (simp [errW_none, errW_some] <;> rfl) | (simp [*, errW_none, errW_some] <;> rfl), by (with_reducible repeat (first | apply Kd.R_alloc | apply Kd.R_drewN | apply Kd.R_drew)); exact HO_4.out, by repeat (first | (with_reducible first | exact HB.out | apply below_alloc | apply pw_below_drewN | apply below_drew1) | exact HB.out)⟩
  ·rw [if_neg c3] at H
   exact absurd H (by simp)
 ·rw [if_neg c2] at H
  exact absurd H (by simp)

/-! ### bits_Width: function 34 -/
def bits_Width.l0 : Nat → Int → Int → Int → Option (Int)
 | 0, _, _, _ => none
 | k + 1, x3, x4, x5 => if x5 > 0 then (if 0 ≤ x5 then (if (shr .u64 x3 x5) > 0 then (bits_Width.l0 k (shr .u64 x3 x5) (wrap64 (x4 + x5)) (wrap64 (Int.tdiv x5 2))) else (bits_Width.l0 k x3 x4 (wrap64 (Int.tdiv x5 2)))) else (none)) else (some (wrap64 (x4 + (wrap64 (x3)))))
def bits_Width.f (k : Nat) (a0 : Int) : Option (Int) := bits_Width.l0 k (IntKind.u64.wrap (a0)) 0 32
theorem bits_Width.l0_succ (k : Nat) (x3 : Int) (x4 : Int) (x5 : Int) : bits_Width.l0 (k + 1) x3 x4 x5 = (if x5 > 0 then (if 0 ≤ x5 then (if (shr .u64 x3 x5) > 0 then (bits_Width.l0 k (shr .u64 x3 x5) (wrap64 (x4 + x5)) (wrap64 (Int.tdiv x5 2))) else (bits_Width.l0 k x3 x4 (wrap64 (Int.tdiv x5 2)))) else (none)) else (some (wrap64 (x4 + (wrap64 (x3)))))) := by
 simp only [bits_Width.l0]
theorem bits_Width.mono_l : ∀ k, (∀ y0 y1 y2, LeO (bits_Width.l0 k y0 y1 y2) (bits_Width.l0 (k + 1) y0 y1 y2))
 | 0 => fun _ _ _ r h => by simp [bits_Width.l0] at h
 | k + 1 => by
  have ih0 := bits_Width.mono_l k
  ·intro y0 y1 y2
   unfold bits_Width.l0
   repeat' first
   | (with_reducible exact ih0 _ _ _)
   | (with_reducible exact LeO.refl _)
   | (with_reducible exact LeO.none _)
   | (with_reducible refine LeO.ite ?_ ?_)
   | (with_reducible refine LeO.bind ?_ (fun _ => ?_))
   | exact ih0 _ _ _
   | exact LeO.none _
   | refine LeO.ite ?_ ?_
   | refine LeO.bind ?_ (fun _ => ?_)
theorem bits_Width.mono : ∀ a0 k, LeO (bits_Width.f k a0) (bits_Width.f (k + 1) a0) := by
 intro a0 k
 have ih0 := bits_Width.mono_l k
 unfold bits_Width.f
 repeat' first
   | (with_reducible exact ih0 _ _ _)
   | (with_reducible exact LeO.refl _)
   | (with_reducible exact LeO.none _)
   | (with_reducible refine LeO.ite ?_ ?_)
   | (with_reducible refine LeO.bind ?_ (fun _ => ?_))
   | exact ih0 _ _ _
   | exact LeO.none _
   | refine LeO.ite ?_ ?_
   | refine LeO.bind ?_ (fun _ => ?_)
set_option maxHeartbeats 8000000 in
set_option maxRecDepth 100000 in
theorem bits_Width.calls (k : Nat) (a0 : Int) (r : Int) (w : World) (h : bits_Width.f k a0 = some r) :
  Calls Try.prog 34 #[.int .i64 a0] w fun e w' => e = .returned (.int .i64 r) ∧ Drawn0 w w' := by
 have H : (bits_Width.l0 k (IntKind.u64.wrap (a0)) 0 32) = some r := h
 clear h
 have H' := Aside0.mk H
 clear H
 go_enter Try.func34, Try.ntmps34
 go_wp2
 go_loopg [3, 4, 5] k (fun kq v3 v4 v5 w' => ∃ (x3_1 : Int) (x4_1 : Int) (x5_1 : Int), v3 = .int .u64 x3_1 ∧ v4 = .int .i64 x4_1 ∧ v5 = .int .i64 x5_1 ∧ Aside0 (bits_Width.l0 kq x3_1 x4_1 x5_1 = some r) ∧ Aside0 (kq ≤ k) ∧ Drawn0 w w')
 case atStart => exact ⟨(IntKind.u64.wrap (a0)), (0), (32), (by first | rfl | (simp; done) | (simp [*]; done)), (by first | rfl | (simp; done) | (simp [*]; done)), (by first | rfl | (simp; done) | (simp [*]; done)), H', ⟨Nat.le_refl _⟩, by repeat (first | exact Drawn0.refl _ | apply Drawn0.step)⟩
 case round =>
  clear H'
  obtain ⟨x3_1, x4_1, x5_1, rfl, rfl, rfl, HA, HK1, ⟨m1, rfl⟩⟩ := hrel
  cases gk with
  | zero => exact absurd HA.out (by simp [bits_Width.l0])
  | succ k1 =>
   have H := HA.out
   clear HA
   simp only [bits_Width.l0] at H
   by_cases c2 : x5_1 > 0
   ·rw [if_pos c2] at H
    have c2b0 : decide (0 < x5_1) = true := decide_eq_true c2
    clear c2
    by_cases c3 : 0 ≤ x5_1
    ·rw [if_pos c3] at H
     have c3b0 := eq_true c3
     have c3b1 : decide (0 ≤ x5_1) = true := decide_eq_true c3
     clear c3
     obtain ⟨ji4, hji4⟩ : ∃ j_ : Int, (shr .u64 x3_1 x5_1) = j_ := ⟨_, rfl⟩
     replace H : (if (ji4) > 0 then (bits_Width.l0 k1 ji4 (wrap64 (x4_1 + x5_1)) (wrap64 (Int.tdiv x5_1 2))) else (bits_Width.l0 k1 x3_1 x4_1 (wrap64 (Int.tdiv x5_1 2)))) = some r := by first | (rw [hji4] at H; exact H) | (simp only [hji4] at H ⊢; exact H)
     have hji4_ : (x3_1 / 2 ^ min x5_1.toNat 64) = ji4 := hji4
     have hji4z : x5_1 ≤ 64 → (x3_1 / 2 ^ x5_1.toNat) = ji4 := shr_small hji4
     by_cases c5 : (ji4) > 0
     ·rw [if_pos c5] at H
      have c5b0 : decide (0 < (ji4)) = true := decide_eq_true c5
      clear c5
      have c6b0 := eq_true (of_decide_eq_true (by assumption) : 0 ≤ x5_1)
      have H' := Aside0.mk H
      clear H
      go_wp2
      go_roundg k1
      case measure => have := HK1.out; omega
      case rel => exact ⟨(ji4), (wrap64 (x4_1 + x5_1)), (wrap64 (Int.tdiv x5_1 2)), (by first | rfl | (simp; done) | (simp only [← hji4] <;> (first | rfl | simp)) | (simp [*]; done)), (by first | rfl | (simp; done) | (simp [*]; done)), (by first | rfl | (simp; done) | (simp [*]; done)), (by first | exact H' | (simp only [hji4]; exact H')), ⟨by have := HK1.out; omega⟩, by repeat (first | exact Drawn0.refl _ | apply Drawn0.step)⟩
     ·rw [if_neg c5] at H
      have c5b0 : decide (0 < (ji4)) = false := decide_eq_false c5
      clear c5
      have H' := Aside0.mk H
      clear H
      go_wp2
      go_roundg k1
      case measure => have := HK1.out; omega
      case rel => exact ⟨(x3_1), (x4_1), (wrap64 (Int.tdiv x5_1 2)), (by first | rfl | (simp; done) | (simp [*]; done)), (by first | rfl | (simp; done) | (simp [*]; done)), (by first | rfl | (simp; done) | (simp [*]; done)), (by first | exact H' | (simp only [hji4]; exact H')), ⟨by have := HK1.out; omega⟩, by repeat (first | exact Drawn0.refl _ | apply Drawn0.step)⟩
    ·rw [if_neg c3] at H
     exact absurd H (by simp)
   ·rw [if_neg c2] at H
    have c2b0 : decide (0 < x5_1) = false := decide_eq_false c2
    clear c2
    obtain rfl := Option.some.inj H
    go_wp2
    go_ret
    exact ⟨by first | rfl | (unfold wrap64; rfl) | (simp; done) | (simp [*]; done), by repeat (first | exact Drawn0.refl _ | apply Drawn0.step)⟩

/-! ### pack_Width: function 16 -/
def pack_Width.l0 : Nat → Int → List Int → Int → Int → Option (Int)
 | 0, _, _, _, _ => none
 | k + 1, x3, x6, x7, x8 => if x8 < x7 then (if 0 ≤ x8 then (if x8 < (x6.length : Int) then (pack_Width.l0 k (Go.bits .or .i64 x3 (rd x6 x8)) x6 x7 (wrap64 (x8 + 1))) else (none)) else (none)) else ((bits_Width.f k x3).bind fun t115 => (some t115))
def pack_Width.f (k : Nat) (l0 : List Int) : Option (Int) := pack_Width.l0 k 0 l0 (l0.length : Int) 0
theorem pack_Width.l0_succ (k : Nat) (x3 : Int) (x6 : List Int) (x7 : Int) (x8 : Int) : pack_Width.l0 (k + 1) x3 x6 x7 x8 = (if x8 < x7 then (if 0 ≤ x8 then (if x8 < (x6.length : Int) then (pack_Width.l0 k (Go.bits .or .i64 x3 (rd x6 x8)) x6 x7 (wrap64 (x8 + 1))) else (none)) else (none)) else ((bits_Width.f k x3).bind fun t115 => (some t115))) := by
 simp only [pack_Width.l0]
theorem pack_Width.mono_l : ∀ k, (∀ y0 y1 y2 y3, LeO (pack_Width.l0 k y0 y1 y2 y3) (pack_Width.l0 (k + 1) y0 y1 y2 y3))
 | 0 => fun _ _ _ _ r h => by simp [pack_Width.l0] at h
 | k + 1 => by
  have ih0 := pack_Width.mono_l k
  ·intro y0 y1 y2 y3
   unfold pack_Width.l0
   repeat' first
   | (with_reducible exact ih0 _ _ _ _)
   | (with_reducible exact bits_Width.mono _ _)
   | (with_reducible exact LeO.refl _)
   | (with_reducible exact LeO.none _)
   | (with_reducible refine LeO.ite ?_ ?_)
   | (with_reducible refine LeO.bind ?_ (fun _ => ?_))
   | exact ih0 _ _ _ _
   | exact bits_Width.mono _ _
   | exact LeO.none _
   | refine LeO.ite ?_ ?_
   | refine LeO.bind ?_ (fun _ => ?_)
theorem pack_Width.mono : ∀ a0 k, LeO (pack_Width.f k a0) (pack_Width.f (k + 1) a0) := by
 intro a0 k
 have ih0 := pack_Width.mono_l k
 unfold pack_Width.f
 repeat' first
   | (with_reducible exact ih0 _ _ _ _)
   | (with_reducible exact bits_Width.mono _ _)
   | (with_reducible exact LeO.refl _)
   | (with_reducible exact LeO.none _)
   | (with_reducible refine LeO.ite ?_ ?_)
   | (with_reducible refine LeO.bind ?_ (fun _ => ?_))
   | exact ih0 _ _ _ _
   | exact bits_Width.mono _ _
   | exact LeO.none _
   | refine LeO.ite ?_ ?_
   | refine LeO.bind ?_ (fun _ => ?_)
set_option maxHeartbeats 8000000 in
set_option maxRecDepth 100000 in
theorem pack_Width.calls (k : Nat) (A0 : Option Addr) (c0 : Nat) (l0 : List Int) (r : Int) (w : World) (hr0 : Kd.C (Kd.int .i64) w A0 l0.length l0) (hc0 : l0.length ≤ c0) (h : pack_Width.f k l0 = some r) :
  Calls Try.prog 16 #[.slice A0 l0.length c0] w fun e w' => e = .returned (.int .i64 r) ∧ Drawn0 w w' := by
 have HR0 := Aside0.mk hr0
 have HC0 := Aside0.mk hc0
 clear hr0 hc0
 have H : (pack_Width.l0 k 0 l0 (l0.length : Int) 0) = some r := h
 clear h
 have H' := Aside0.mk H
 clear H
 go_enter Try.func16, Try.ntmps16
 go_wp2
 go_loopg [3, 8] k (fun kq v3 v8 w' => ∃ (x3_1 : Int) (x8_1 : Int), v3 = .int .i64 x3_1 ∧ v8 = .int .i64 x8_1 ∧ Aside0 (pack_Width.l0 kq x3_1 l0 (l0.length : Int) x8_1 = some r) ∧ Aside0 (kq ≤ k) ∧ Drawn0 w w')
 case atStart => exact ⟨(0), (0), (by first | rfl | (simp; done) | (simp [*]; done)), (by first | rfl | (simp; done) | (simp [*]; done)), H', ⟨Nat.le_refl _⟩, by repeat (first | exact Drawn0.refl _ | apply Drawn0.step)⟩
 case round =>
  clear H'
  try clear c1
  obtain ⟨x3_1, x8_1, rfl, rfl, HA, HK1, ⟨m1, rfl⟩⟩ := hrel
  cases gk with
  | zero => exact absurd HA.out (by simp [pack_Width.l0])
  | succ k1 =>
   have H := HA.out
   clear HA
   simp only [pack_Width.l0] at H
   by_cases c2 : x8_1 < (l0.length : Int)
   ·rw [if_pos c2] at H
    have c2b0 : decide (x8_1 < (l0.length : Int)) = true := decide_eq_true c2
    clear c2
    by_cases c3 : 0 ≤ x8_1
    ·rw [if_pos c3] at H
     have c3b0 : decide (0 ≤ x8_1) = true := decide_eq_true c3
     clear c3
     by_cases c4 : x8_1 < (l0.length : Int)
     ·rw [if_pos c4] at H
      have c4b0 : decide (x8_1 < (l0.length : Int)) = true := decide_eq_true c4
      clear c4
      have H' := Aside0.mk H
      clear H
      have p114 : 0 ≤ (x8_1 : Int) := of_decide_eq_true (by assumption)
      have q114 : x8_1 < (l0.length : Int) := of_decide_eq_true (by assumption)
      obtain ⟨ad114, e114, hx114_0⟩ := Kd.at_int HR0.out x8_1 p114 q114
      cases e114
      replace p114 := eq_true p114
      replace q114 := eq_true q114
      go_wp2
      go_roundg k1
      case measure => have := HK1.out; omega
      case rel => exact ⟨(Go.bits .or .i64 x3_1 (rd l0 x8_1)), (wrap64 (x8_1 + 1)), (by first | rfl | (simp; done) | (simp [*]; done)), (by first | rfl | (simp; done) | (simp [*]; done)), H', ⟨by have := HK1.out; omega⟩, by repeat (first | exact Drawn0.refl _ | apply Drawn0.step)⟩
     ·rw [if_neg c4] at H
      exact absurd H (by simp)
    ·rw [if_neg c3] at H
     exact absurd H (by simp)
   ·rw [if_neg c2] at H
    have c2b0 : decide (x8_1 < (l0.length : Int)) = false := decide_eq_false c2
    clear c2
    replace H := Option.bind_eq_some_iff.mp H
    obtain ⟨t115, A50, H⟩ := H
    replace H : (some t115) = some r := H
    have A5 := Aside0.mk A50
    clear A50
    obtain rfl := Option.some.inj H
    go_wp2_with (first | ((with_reducible refine gate_callee (f := 34) rfl ?_); refine goesL_ (some 17) rfl rfl Try.func34 (by kernel_rfl) rfl #[.int .i64 x3_1] rfl (by (try simp only [List.map_toArray, List.map_cons, List.map_nil]); first | done | rfl) ?_; (with_reducible refine (bits_Width.calls k1 x3_1 t115 _ A5.out).mono ?_); rintro e w' ⟨rfl, ⟨nd, rfl⟩⟩; refine ⟨_, rfl, ?_⟩))
    go_ret
    exact ⟨by first | rfl | (unfold wrap64; rfl) | (simp; done) | (simp [*]; done), by repeat (first | exact Drawn0.refl _ | apply Drawn0.step)⟩

/-! ### pack_Bytes: function 28 -/
def pack_Bytes.f (a0 : Int) (a1 : Int) : Option (Int) := if a0 < 1 then (some 0) else (if a0 > 65536 then (some 0) else (if a1 < 1 then (some 0) else (if a1 > 64 then (some 0) else (some ((wrap64 ((wrap64 (a0 * a1)) + 7)) / 8)))))
set_option maxHeartbeats 8000000 in
set_option maxRecDepth 100000 in
theorem pack_Bytes.calls (a0 : Int) (a1 : Int) (r : Int) (w : World) (h : pack_Bytes.f a0 a1 = some r) :
  Calls Try.prog 28 #[.int .i64 a0, .int .i64 a1] w fun e w' => e = .returned (.int .i64 r) ∧ Drawn0 w w' := by
 have H : (if a0 < 1 then (some 0) else (if a0 > 65536 then (some 0) else (if a1 < 1 then (some 0) else (if a1 > 64 then (some 0) else (some ((wrap64 ((wrap64 (a0 * a1)) + 7)) / 8)))))) = some r := h
 clear h
 by_cases c3 : a0 < 1
 ·rw [if_pos c3] at H
  have c3b0 : decide (a0 < 1) = true := decide_eq_true c3
  clear c3
  obtain rfl := Option.some.inj H
  go_enter Try.func28, Try.ntmps28
  go_wp2
  go_ret
  exact ⟨by first | rfl | (unfold wrap64; rfl) | (simp; done) | (simp [*]; done), by repeat (first | exact Drawn0.refl _ | apply Drawn0.step)⟩
 ·rw [if_neg c3] at H
  have c3b0 : decide (a0 < 1) = false := decide_eq_false c3
  clear c3
  by_cases c4 : a0 > 65536
  ·rw [if_pos c4] at H
   have c4b0 : decide (65536 < a0) = true := decide_eq_true c4
   clear c4
   obtain rfl := Option.some.inj H
   go_enter Try.func28, Try.ntmps28
   go_wp2
   go_ret
   exact ⟨by first | rfl | (unfold wrap64; rfl) | (simp; done) | (simp [*]; done), by repeat (first | exact Drawn0.refl _ | apply Drawn0.step)⟩
  ·rw [if_neg c4] at H
   have c4b0 : decide (65536 < a0) = false := decide_eq_false c4
   clear c4
   by_cases c5 : a1 < 1
   ·rw [if_pos c5] at H
    have c5b0 : decide (a1 < 1) = true := decide_eq_true c5
    clear c5
    obtain rfl := Option.some.inj H
    go_enter Try.func28, Try.ntmps28
    go_wp2
    go_ret
    exact ⟨by first | rfl | (unfold wrap64; rfl) | (simp; done) | (simp [*]; done), by repeat (first | exact Drawn0.refl _ | apply Drawn0.step)⟩
   ·rw [if_neg c5] at H
    have c5b0 : decide (a1 < 1) = false := decide_eq_false c5
    clear c5
    by_cases c6 : a1 > 64
    ·rw [if_pos c6] at H
     have c6b0 : decide (64 < a1) = true := decide_eq_true c6
     clear c6
     obtain rfl := Option.some.inj H
     go_enter Try.func28, Try.ntmps28
     go_wp2
     go_ret
     exact ⟨by first | rfl | (unfold wrap64; rfl) | (simp; done) | (simp [*]; done), by repeat (first | exact Drawn0.refl _ | apply Drawn0.step)⟩
    ·rw [if_neg c6] at H
     have c6b0 : decide (64 < a1) = false := decide_eq_false c6
     clear c6
     obtain rfl := Option.some.inj H
     go_enter Try.func28, Try.ntmps28
     go_wp2
     go_ret
     exact ⟨by first | rfl | (unfold wrap64; rfl) | (simp; done) | (simp [*]; done), by repeat (first | exact Drawn0.refl _ | apply Drawn0.step)⟩

end Go.Proofs.Ytcencpedgcdanaa.Print
