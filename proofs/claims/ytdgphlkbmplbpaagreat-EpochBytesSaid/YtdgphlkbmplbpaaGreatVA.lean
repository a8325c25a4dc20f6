-- Functions and laws: texts of the session's own and of the kit's print program, joined; what nothing names is left out.
import Derived.Test.YtdgphlkbmplbpaaGreatProg
import Derived.Below
import Derived.Deep.Draws
import Derived.Deep.AppendLies
import Derived.Maps.AppendAt
import Derived.OwnWalk
import Derived.Laws.BytesArg
import Derived.Laws.MakeOwn
import Derived.Laws.OwnMore
import Derived.Deep.OwnRows
import Derived.Tactics
import Derived.Lib.ConvBytes
import Derived.Laws.Slices
import Derived.WalkKit
import Derived.KernelRfl
import Derived.RowKit3
import Derived.Deep.LoopGhost
import Derived.Deep.QuietTactic
import Derived.BigQuiet
import Derived.WideLaws
import Derived.Deep.DeepCutAuto
import Derived.Deep.CutBlock
import Derived.Deep.RegionHeld3
import Derived.Laws.Rows
import Derived.Lib.AppendStr
import Derived.ArgAppend
import Derived.Laws.IdiomCopy
import Derived.OrdersHeld
import Derived.Laws.BitsLemmas
import Derived.RowKit
import Derived.Test.YtdgphlkbmplbpaaGreatVW
import Derived.Ground.NamesProg
import Derived.Shelf.Strings.BuilderK
import Derived.Lib.SortBridge
import Derived.Shelf.Slices.In.SortNone
import Derived.Shelf.Sort.Plain
import Derived.Sort.EveryDepth
import Derived.Sort.OwnSortedInts
import Derived.Test.YtdgphlkbmplbpaaGreatVR
section
namespace Go.Proofs.YtdgphlkbmplbpaaGreat.Print
open Go.RowKit Go.Proofs.YtdgphlkbmplbpaaGreatW.PrintWords Go.Proofs.YtdgphlkbmplbpaaGreatW.PrintLast Go.Proofs.YtdgphlkbmplbpaaGreatW.PrintMore
attribute [local go_sem] max2_int min2_int max_two min_two max_three min_three max_four min_four   -- for this text's walks alone
set_option linter.unusedVariables false
set_option linter.unusedSimpArgs false
def errW : Option Int → Value
  | none => .nilIface
  | some c => .iface 0 (.int .i64 c)
theorem errW_none : errW none = .nilIface := rfl
theorem errW_some (c : Int) : errW (some c) = .iface 0 (.int .i64 c) := rfl
theorem info3 : (Tryz.prog.info? 3).map (fun i => (i.zero, i.size, i.bytes)) = some (some (.int .i64 0), 1, 8) := by kernel_rfl
theorem info5 : (Tryz.prog.info? 5).map (fun i => (i.zero, i.size, i.bytes)) = some (some (.int .u8 0), 1, 1) := by kernel_rfl
theorem info68 : (Tryz.prog.info? 68).map (fun i => (i.zero, i.size, i.bytes)) = some (some (.agg #[(.int .i64 0), (.int .i64 0)]), 2, 16) := by kernel_rfl
theorem info70 : (Tryz.prog.info? 70).map (fun i => (i.zero, i.size, i.bytes)) = some (some (.agg #[(.int .i64 0), (.int .i64 0)]), 2, 16) := by kernel_rfl
/-! #### struct type 66 -/
structure S66 where
  f0 : Int
  f1 : Int
  f2 : Int
def z66 : S66 := ⟨(0 : Int), (0 : Int), (0 : Int)⟩
def k66 : Kd S66 := Kd.iso (Kd.pair (Kd.int .i64) (Kd.pair (Kd.int .i64) (Kd.int .i64))) (fun x : S66 => (x.f0, x.f1, x.f2))
theorem k66_open {w : World} {x : S66} {cs : List Value} (h : k66.K w x cs) : cs = [.int .i64 x.f0, .int .i64 x.f1, .int .i64 x.f2] := by
 obtain ⟨_, _, rfl, rfl, ⟨_, _, rfl, rfl, rfl⟩⟩ := h
 exact rfl
theorem k66_mkM (w : World) (base : Nat) (ok : Nat → Prop) (x : S66)  : k66.M w base ok x [.int .i64 x.f0, .int .i64 x.f1, .int .i64 x.f2] := ⟨[.int .i64 x.f0], [.int .i64 x.f1, .int .i64 x.f2], rfl, rfl, ⟨[.int .i64 x.f1], [.int .i64 x.f2], rfl, rfl, rfl⟩⟩
def rd_T66 (xs : List S66) (i : Int) : S66 := xs.getD i.toNat z66
theorem at_T66 {w : World} {A : Option Addr} {n : Nat} {xs : List S66} (h : Kd.C k66 w A n xs) (i : Int) (h0 : 0 ≤ i) (h1 : i < n) : ∃ ad , A = some ad ∧ w.cell? (ad.add (i.toNat * 3)) = some (.int .i64 (rd_T66 xs i).f0) ∧ w.cell? ⟨(ad.add (i.toNat * 3)).block, (ad.add (i.toNat * 3)).off + 1, none⟩ = some (.int .i64 (rd_T66 xs i).f1) ∧ w.cell? ⟨(ad.add (i.toNat * 3)).block, (ad.add (i.toNat * 3)).off + 2, none⟩ = some (.int .i64 (rd_T66 xs i).f2) := by
 obtain ⟨ad, c, e, _, hK, hc0⟩ := Kd.C_get h z66 i h0 h1
 have hc : ∀ j u, c[j]? = some u → w.cell? (ad.add (i.toNat * 3 + j)) = some u := hc0
 obtain rfl := k66_open hK
 exact ⟨ad, e, hc 0 _ rfl, by rw [← add_field _ _ 1 (by omega)]; exact hc 1 _ rfl, by rw [← add_field _ _ 2 (by omega)]; exact hc 2 _ rfl⟩
/-! #### struct type 68 -/
structure S68 where
  f0 : Int
  f1 : Int
def z68 : S68 := ⟨(0 : Int), (0 : Int)⟩
def k68 : Kd S68 := Kd.iso (Kd.pair (Kd.int .i64) (Kd.int .i64)) (fun x : S68 => (x.f0, x.f1))
theorem k68_open {w : World} {x : S68} {cs : List Value} (h : k68.K w x cs) : cs = [.int .i64 x.f0, .int .i64 x.f1] := by
 obtain ⟨_, _, rfl, rfl, rfl⟩ := h
 exact rfl
theorem k68_mkM (w : World) (base : Nat) (ok : Nat → Prop) (x : S68)  : k68.M w base ok x [.int .i64 x.f0, .int .i64 x.f1] := ⟨[.int .i64 x.f0], [.int .i64 x.f1], rfl, rfl, rfl⟩
def rd_T68 (xs : List S68) (i : Int) : S68 := xs.getD i.toNat z68
theorem at_T68 {w : World} {A : Option Addr} {n : Nat} {xs : List S68} (h : Kd.C k68 w A n xs) (i : Int) (h0 : 0 ≤ i) (h1 : i < n) : ∃ ad , A = some ad ∧ w.cell? (ad.add (i.toNat * 2)) = some (.int .i64 (rd_T68 xs i).f0) ∧ w.cell? ⟨(ad.add (i.toNat * 2)).block, (ad.add (i.toNat * 2)).off + 1, none⟩ = some (.int .i64 (rd_T68 xs i).f1) := by
 obtain ⟨ad, c, e, _, hK, hc0⟩ := Kd.C_get h z68 i h0 h1
 have hc : ∀ j u, c[j]? = some u → w.cell? (ad.add (i.toNat * 2 + j)) = some u := hc0
 obtain rfl := k68_open hK
 exact ⟨ad, e, hc 0 _ rfl, by rw [← add_field _ _ 1 (by omega)]; exact hc 1 _ rfl⟩
/-! #### struct type 70 -/
structure S70 where
  f0 : Int
  f1 : Int
def z70 : S70 := ⟨(0 : Int), (0 : Int)⟩
def k70 : Kd S70 := Kd.iso (Kd.pair (Kd.int .i64) (Kd.int .i64)) (fun x : S70 => (x.f0, x.f1))
theorem k70_open {w : World} {x : S70} {cs : List Value} (h : k70.K w x cs) : cs = [.int .i64 x.f0, .int .i64 x.f1] := by
 obtain ⟨_, _, rfl, rfl, rfl⟩ := h
 exact rfl
theorem k70_openM {w : World} {base : Nat} {ok : Nat → Prop} {x : S70} {cs : List Value} (h : k70.M w base ok x cs) : cs = [.int .i64 x.f0, .int .i64 x.f1] := by
 obtain ⟨_, _, rfl, rfl, rfl⟩ := h
 exact rfl
theorem k70_mkM (w : World) (base : Nat) (ok : Nat → Prop) (x : S70)  : k70.M w base ok x [.int .i64 x.f0, .int .i64 x.f1] := ⟨[.int .i64 x.f0], [.int .i64 x.f1], rfl, rfl, rfl⟩
def rd_T70 (xs : List S70) (i : Int) : S70 := xs.getD i.toNat z70
theorem at_T70 {w : World} {A : Option Addr} {n : Nat} {xs : List S70} (h : Kd.C k70 w A n xs) (i : Int) (h0 : 0 ≤ i) (h1 : i < n) : ∃ ad , A = some ad ∧ w.cell? (ad.add (i.toNat * 2)) = some (.int .i64 (rd_T70 xs i).f0) ∧ w.cell? ⟨(ad.add (i.toNat * 2)).block, (ad.add (i.toNat * 2)).off + 1, none⟩ = some (.int .i64 (rd_T70 xs i).f1) := by
 obtain ⟨ad, c, e, _, hK, hc0⟩ := Kd.C_get h z70 i h0 h1
 have hc : ∀ j u, c[j]? = some u → w.cell? (ad.add (i.toNat * 2 + j)) = some u := hc0
 obtain rfl := k70_open hK
 exact ⟨ad, e, hc 0 _ rfl, by rw [← add_field _ _ 1 (by omega)]; exact hc 1 _ rfl⟩
/-! #### struct type 29 -/
/-! #### struct type 147 -/
structure S147 where
  f0 : S70
  f1 : Bool
  f2 : Bool
end Go.Proofs.YtdgphlkbmplbpaaGreat.Print
end
section
namespace Go.Proofs.YtdgphlkbmplbpaaGreat.Print
open Go.RowKit Go.Proofs.YtdgphlkbmplbpaaGreatW.PrintWords Go.Proofs.YtdgphlkbmplbpaaGreatW.PrintLast Go.Proofs.YtdgphlkbmplbpaaGreatW.PrintMore
attribute [local go_sem] max2_int min2_int max_two min_two max_three min_three max_four min_four   -- for this text's walks alone
set_option linter.unusedVariables false
set_option linter.unusedSimpArgs false
theorem eqA41 (d : Nat) (w : World) (x0 y0 : Int) (x1 y1 : Int) :
    (Op.equalIn (d + 2) 41 (.agg #[.int .i64 x0, .int .i64 x1]) (.agg #[.int .i64 y0, .int .i64 y1])).run Tryz.prog w = .ok (x0 == y0 && (x1 == y1)) w := by
 refine eqA_of Tryz.underlying41 (by kernel_rfl) ?_
 refine eqf_cons (by rfl) (by go_simp; rfl) (by go_simp; rfl) (by go_simp) ?_
 exact eqf_last (by rfl) (by go_simp; rfl) (by go_simp; rfl) (by go_simp)
end Go.Proofs.YtdgphlkbmplbpaaGreat.Print
end
section
namespace Go.Proofs.YtdgphlkbmplbpaaGreat.Print
open Go.RowKit Go.Proofs.YtdgphlkbmplbpaaGreatW.PrintWords Go.Proofs.YtdgphlkbmplbpaaGreatW.PrintLast Go.Proofs.YtdgphlkbmplbpaaGreatW.PrintMore
attribute [local go_sem] max2_int min2_int max_two min_two max_three min_three max_four min_four   -- for this text's walks alone
set_option linter.unusedVariables false
set_option linter.unusedSimpArgs false
theorem eqA68 (d : Nat) (w : World) (x0 y0 : Int) (x1 y1 : Int) :
    (Op.equalIn (d + 2) 68 (.agg #[.int .i64 x0, .int .i64 x1]) (.agg #[.int .i64 y0, .int .i64 y1])).run Tryz.prog w = .ok (x0 == y0 && (x1 == y1)) w := by
 refine eqA_of Tryz.underlying68 (by kernel_rfl) ?_
 refine eqf_cons (by rfl) (by go_simp; rfl) (by go_simp; rfl) (by go_simp) ?_
 exact eqf_last (by rfl) (by go_simp; rfl) (by go_simp; rfl) (by go_simp)
end Go.Proofs.YtdgphlkbmplbpaaGreat.Print
end
section
namespace Go.Proofs.YtdgphlkbmplbpaaGreat.Print
open Go.RowKit Go.Proofs.YtdgphlkbmplbpaaGreatW.PrintWords Go.Proofs.YtdgphlkbmplbpaaGreatW.PrintLast Go.Proofs.YtdgphlkbmplbpaaGreatW.PrintMore
attribute [local go_sem] max2_int min2_int max_two min_two max_three min_three max_four min_four   -- for this text's walks alone
set_option linter.unusedVariables false
set_option linter.unusedSimpArgs false
theorem eqA70 (d : Nat) (w : World) (x0 y0 : Int) (x1 y1 : Int) :
    (Op.equalIn (d + 2) 70 (.agg #[.int .i64 x0, .int .i64 x1]) (.agg #[.int .i64 y0, .int .i64 y1])).run Tryz.prog w = .ok (x0 == y0 && (x1 == y1)) w := by
 refine eqA_of Tryz.underlying70 (by kernel_rfl) ?_
 refine eqf_cons (by rfl) (by go_simp; rfl) (by go_simp; rfl) (by go_simp) ?_
 exact eqf_last (by rfl) (by go_simp; rfl) (by go_simp; rfl) (by go_simp)
end Go.Proofs.YtdgphlkbmplbpaaGreat.Print
end
section
namespace Go.Proofs.YtdgphlkbmplbpaaGreat.Print
open Go.RowKit Go.Proofs.YtdgphlkbmplbpaaGreatW.PrintWords Go.Proofs.YtdgphlkbmplbpaaGreatW.PrintLast Go.Proofs.YtdgphlkbmplbpaaGreatW.PrintMore
attribute [local go_sem] max2_int min2_int max_two min_two max_three min_three max_four min_four   -- for this text's walks alone
set_option linter.unusedVariables false
set_option linter.unusedSimpArgs false
/-! ### epoch_Check: function 20 -/
def epoch_Check.f (a0_0 : Int) (a0_1 : Int) : Option (Int) := if a0_1 < 1 then (some 1) else (if a0_0 < a0_1 then (some 1) else (if a0_0 > 1099511627776 then (some 1) else (some 0)))
set_option maxHeartbeats 8000000 in
set_option maxRecDepth 100000 in
theorem epoch_Check.calls (a0_0 : Int) (a0_1 : Int) (r : Int) (w : World) (h : epoch_Check.f a0_0 a0_1 = some r) :
  Calls Tryz.prog 20 #[.agg #[.int .i64 a0_0, .int .i64 a0_1]] w fun e w' => e = .returned (.int .i64 r) ∧ Below w.heap.size w w' := by
 have hu41 := Tryz.underlying41
 have HB := Aside0.mk (Below.refl w.heap.size w)
 have H := h
 clear h
 unfold epoch_Check.f at H
 replace H := ifd H
 rcases H with ⟨-, c2b0, H⟩ | ⟨-, c2b0, H⟩
 ·obtain rfl := Option.some.inj H
  go_enter Tryz.func20, Tryz.ntmps20
  go_wp2_with (((with_reducible refine gate_dst (N := 1) rfl ?_); refine boxE HB 1 41 #[.int .i64 a0_0, .int .i64 a0_1] ?_; clear HB; intro gb101 w3 BK101 GW101 hg hb HB; have GE101 := GW101; clear hb hg; obtain ⟨hcz4_0, hcz4_1, hfz4_0, hfz4_1⟩ := b2 BK101))
  go_ret
  exact ⟨er, bh HB.out⟩
 ·replace H := ifd H
  rcases H with ⟨-, c5b0, H⟩ | ⟨-, c5b0, H⟩
  ·obtain rfl := Option.some.inj H
   go_enter Tryz.func20, Tryz.ntmps20
   go_wp2_with (((with_reducible refine gate_dst (N := 1) rfl ?_); refine boxE HB 1 41 #[.int .i64 a0_0, .int .i64 a0_1] ?_; clear HB; intro gb101 w6 BK101 GW101 hg hb HB; have GE101 := GW101; clear hb hg; obtain ⟨hcz7_0, hcz7_1, hfz7_0, hfz7_1⟩ := b2 BK101))
   go_ret
   exact ⟨er, bh HB.out⟩
  ·replace H := ifd H
   rcases H with ⟨-, c8b0, H⟩ | ⟨-, c8b0, H⟩
   ·obtain rfl := Option.some.inj H
    go_enter Tryz.func20, Tryz.ntmps20
    go_wp2_with (((with_reducible refine gate_dst (N := 1) rfl ?_); refine boxE HB 1 41 #[.int .i64 a0_0, .int .i64 a0_1] ?_; clear HB; intro gb101 w9 BK101 GW101 hg hb HB; have GE101 := GW101; clear hb hg; obtain ⟨hcz10_0, hcz10_1, hfz10_0, hfz10_1⟩ := b2 BK101))
    go_ret
    exact ⟨er, bh HB.out⟩
   ·obtain rfl := Option.some.inj H
    go_enter Tryz.func20, Tryz.ntmps20
    go_wp2_with (((with_reducible refine gate_dst (N := 1) rfl ?_); refine boxE HB 1 41 #[.int .i64 a0_0, .int .i64 a0_1] ?_; clear HB; intro gb101 w11 BK101 GW101 hg hb HB; have GE101 := GW101; clear hb hg; obtain ⟨hcz12_0, hcz12_1, hfz12_0, hfz12_1⟩ := b2 BK101))
    go_ret
    exact ⟨er, bh HB.out⟩
/-! ### epoch_Advance: function 14 -/
def epoch_Advance.f (a0_0 : Int) (a0_1 : Int) : Option (Int × Int × Int) := (epoch_Check.f a0_0 a0_1).bind fun t104 => (if t104 = 0 then (if a0_0 = 1099511627776 then (some (0, 0, 4)) else (some (wrap64 (a0_0 + 1), a0_1, 0))) else (some (0, 0, 1)))
set_option maxHeartbeats 8000000 in
set_option maxRecDepth 100000 in
theorem epoch_Advance.calls (a0_0 : Int) (a0_1 : Int) (r1 : Int) (r2 : Int) (r3 : Int) (w : World) (h : epoch_Advance.f a0_0 a0_1 = some (r1, r2, r3)) :
  Calls Tryz.prog 14 #[.agg #[.int .i64 a0_0, .int .i64 a0_1]] w fun e w' => e = .returned (.tuple #[.agg #[.int .i64 r1, .int .i64 r2], .int .i64 r3]) ∧ Below w.heap.size w w' := by
 have hu41 := Tryz.underlying41
 have HB := Aside0.mk (Below.refl w.heap.size w)
 have H := h
 clear h
 unfold epoch_Advance.f at H
 replace H := bd H
 obtain ⟨t104, A2, H⟩ := H
 replace H := ife H
 rcases H with ⟨-, c3b0, c3b1, H⟩ | ⟨c3, c3b0, c3b1, H⟩
 ·replace H := ife H
  rcases H with ⟨-, c4b0, c4b1, H⟩ | ⟨c4, c4b0, c4b1, H⟩
  ·simp only [Option.some.injEq, Prod.mk.injEq] at H
   obtain ⟨rfl, rfl, rfl⟩ := H
   go_enter Tryz.func14, Tryz.ntmps14
   go_wp2_with (first | ((with_reducible refine gate_dst (N := 1) rfl ?_); refine boxE HB 1 41 #[.int .i64 a0_0, .int .i64 a0_1] ?_; clear HB; intro gb102 w5 BK102 GW102 hg hb HB; have GE102 := GW102; clear hb hg) | ((with_reducible refine gate_dst (N := 2) rfl ?_); refine boxE HB 2 41 #[.int .i64 0, .int .i64 0] ?_; clear HB; intro gb103 w6 BK103 GW103 hg hb HB; have GE103 := GW103; have NB102_103 := bna BK102 hg; have NB103_102 := bma BK102 hg; replace BK102 := bba BK102 hb; clear hb hg; have hnb7 := NB102_103.out; have hnc7 := NB103_102.out; obtain ⟨hcz8_0, hcz8_1, hfz8_0, hfz8_1⟩ := b2 BK102) | ((with_reducible refine gate_callee (f := 20) rfl ?_); refine gL 6 Tryz.func20 #[.agg #[.int .i64 a0_0, .int .i64 a0_1]] ?_; (with_reducible refine (epoch_Check.calls a0_0 a0_1 t104 _ A2.out).mono ?_); rintro e w9 ⟨rfl, hb⟩; refine ⟨_, rfl, ?_⟩; replace BK102 := bba BK102 hb; replace BK103 := bba BK103 hb; replace HB := bsa HB hb; clear hb; obtain ⟨hcz10_0, hcz10_1, hfz10_0, hfz10_1⟩ := b2 BK102; obtain ⟨hcz11_0, hcz11_1, hfz11_0, hfz11_1⟩ := b2 BK103))
   refine bodyPost_ret (results_ct rfl _ _ gb103 41 #[.int .i64 0, .int .i64 0] (0, 0) _ rfl (by refine blk_put (cs := #[.int .i64 0, .int .i64 0]) ?_ 1 _ rfl; refine blk_put (cs := #[.int .i64 0, .int .i64 0]) ?_ 0 _ rfl; exact BK103.out) Tryz.underlying41 rfl (by kernel_rfl)) rfl ?_
   exact ⟨er, bh HB.out⟩
  ·simp only [Option.some.injEq, Prod.mk.injEq] at H
   obtain ⟨rfl, rfl, rfl⟩ := H
   go_enter Tryz.func14, Tryz.ntmps14
   go_wp2_with (first | ((with_reducible refine gate_dst (N := 1) rfl ?_); refine boxE HB 1 41 #[.int .i64 a0_0, .int .i64 a0_1] ?_; clear HB; intro gb102 w12 BK102 GW102 hg hb HB; have GE102 := GW102; clear hb hg) | ((with_reducible refine gate_dst (N := 2) rfl ?_); refine boxE HB 2 41 #[.int .i64 0, .int .i64 0] ?_; clear HB; intro gb103 w13 BK103 GW103 hg hb HB; have GE103 := GW103; have NB102_103 := bna BK102 hg; have NB103_102 := bma BK102 hg; replace BK102 := bba BK102 hb; clear hb hg; have hnb14 := NB102_103.out; have hnc14 := NB103_102.out; obtain ⟨hcz15_0, hcz15_1, hfz15_0, hfz15_1⟩ := b2 BK102) | ((with_reducible refine gate_callee (f := 20) rfl ?_); refine gL 6 Tryz.func20 #[.agg #[.int .i64 a0_0, .int .i64 a0_1]] ?_; (with_reducible refine (epoch_Check.calls a0_0 a0_1 t104 _ A2.out).mono ?_); rintro e w16 ⟨rfl, hb⟩; refine ⟨_, rfl, ?_⟩; replace BK102 := bba BK102 hb; replace BK103 := bba BK103 hb; replace HB := bsa HB hb; clear hb; obtain ⟨hcz17_0, hcz17_1, hfz17_0, hfz17_1⟩ := b2 BK102; obtain ⟨hcz18_0, hcz18_1, hfz18_0, hfz18_1⟩ := b2 BK103))
   refine bodyPost_ret (results_ct rfl _ _ gb103 41 #[.int .i64 (wrap64 (a0_0 + 1)), .int .i64 a0_1] (0, 0) _ rfl (by refine blk_put (cs := #[.int .i64 (wrap64 (a0_0 + 1)), .int .i64 0]) ?_ 1 _ rfl; refine blk_put (cs := #[.int .i64 0, .int .i64 0]) ?_ 0 _ rfl; exact BK103.out) Tryz.underlying41 rfl (by kernel_rfl)) rfl ?_
   exact ⟨er, bh HB.out⟩
 ·simp only [Option.some.injEq, Prod.mk.injEq] at H
  obtain ⟨rfl, rfl, rfl⟩ := H
  go_enter Tryz.func14, Tryz.ntmps14
  go_wp2_with (first | ((with_reducible refine gate_dst (N := 1) rfl ?_); refine boxE HB 1 41 #[.int .i64 a0_0, .int .i64 a0_1] ?_; clear HB; intro gb102 w19 BK102 GW102 hg hb HB; have GE102 := GW102; clear hb hg) | ((with_reducible refine gate_dst (N := 2) rfl ?_); refine boxE HB 2 41 #[.int .i64 0, .int .i64 0] ?_; clear HB; intro gb103 w20 BK103 GW103 hg hb HB; have GE103 := GW103; have NB102_103 := bna BK102 hg; have NB103_102 := bma BK102 hg; replace BK102 := bba BK102 hb; clear hb hg; have hnb21 := NB102_103.out; have hnc21 := NB103_102.out; obtain ⟨hcz22_0, hcz22_1, hfz22_0, hfz22_1⟩ := b2 BK102) | ((with_reducible refine gate_callee (f := 20) rfl ?_); refine gL 6 Tryz.func20 #[.agg #[.int .i64 a0_0, .int .i64 a0_1]] ?_; (with_reducible refine (epoch_Check.calls a0_0 a0_1 t104 _ A2.out).mono ?_); rintro e w23 ⟨rfl, hb⟩; refine ⟨_, rfl, ?_⟩; replace BK102 := bba BK102 hb; replace BK103 := bba BK103 hb; replace HB := bsa HB hb; clear hb; obtain ⟨hcz24_0, hcz24_1, hfz24_0, hfz24_1⟩ := b2 BK103))
  refine bodyPost_ret (results_ct rfl _ _ gb103 41 #[.int .i64 0, .int .i64 0] (0, 0) _ rfl (by refine blk_put (cs := #[.int .i64 0, .int .i64 0]) ?_ 1 _ rfl; refine blk_put (cs := #[.int .i64 0, .int .i64 0]) ?_ 0 _ rfl; exact BK103.out) Tryz.underlying41 rfl (by kernel_rfl)) rfl ?_
  exact ⟨er, bh HB.out⟩
/-! ### peristyleref21_May: function 21 -/
def peristyleref21_May.f (a0_0 : Int) (a0_1 : Int) : Option (Bool) := if a0_0 ≥ 1 then (if a0_0 ≤ 1099511627776 then (if a0_1 ≥ 1 then (some (decide (a0_1 ≤ a0_0))) else (some false)) else (some false)) else (some false)
/-! ### peristyleref21_Advance: function 15 -/
def peristyleref21_Advance.f (a0_0 : Int) (a0_1 : Int) : Option (Int × Int × Int) := (peristyleref21_May.f a0_0 a0_1).bind fun t108 => (if t108 = true then (if a0_0 = 1099511627776 then (some (0, 0, 4)) else (some (wrap64 (a0_0 + 1), a0_1, 0))) else (some (0, 0, 1)))
/-! ### epoch_Raise: function 16 -/
def epoch_Raise.f (a0_0 : Int) (a0_1 : Int) (a1 : Int) : Option (Int × Int × Int) := (epoch_Check.f a0_0 a0_1).bind fun t111 => (if t111 = 0 then (if a1 < a0_1 then (some (0, 0, 210)) else (if a1 > a0_0 then (some (0, 0, 210)) else (some (a0_0, a1, 0)))) else (some (0, 0, 1)))
/-! ### peristyleref21_Raise: function 17 -/
def peristyleref21_Raise.f (a0_0 : Int) (a0_1 : Int) (a1 : Int) : Option (Int × Int × Int) := (peristyleref21_May.f a0_0 a0_1).bind fun t114 => (if t114 = true then (if a1 < a0_1 then (some (0, 0, 210)) else (if a1 > a0_0 then (some (0, 0, 210)) else (some (a0_0, a1, 0)))) else (some (0, 0, 1)))
/-! ### epoch_At: function 18 -/
def epoch_At.f (a0_0 : Int) (a0_1 : Int) (a1 : Int) : Option (Int × Int) := (epoch_Check.f a0_0 a0_1).bind fun t116 => (if t116 = 0 then (if a1 = 0 then (some (a0_0, 0)) else (if a1 < a0_1 then (some (0, 210)) else (if a1 > a0_0 then (some (0, 210)) else (some (a1, 0))))) else (some (0, 1)))
set_option maxHeartbeats 8000000 in
set_option maxRecDepth 100000 in
theorem epoch_At.calls (a0_0 : Int) (a0_1 : Int) (a1 : Int) (r1 : Int) (r2 : Int) (w : World) (h : epoch_At.f a0_0 a0_1 a1 = some (r1, r2)) :
  Calls Tryz.prog 18 #[.agg #[.int .i64 a0_0, .int .i64 a0_1], .int .i64 a1] w fun e w' => e = .returned (.tuple #[.int .i64 r1, .int .i64 r2]) ∧ Below w.heap.size w w' := by
 have hu41 := Tryz.underlying41
 have HB := Aside0.mk (Below.refl w.heap.size w)
 have H := h
 clear h
 unfold epoch_At.f at H
 replace H := bd H
 obtain ⟨t116, A3, H⟩ := H
 replace H := ife H
 rcases H with ⟨-, c4b0, c4b1, H⟩ | ⟨c4, c4b0, c4b1, H⟩
 ·replace H := ife H
  rcases H with ⟨-, c5b0, c5b1, H⟩ | ⟨c5, c5b0, c5b1, H⟩
  ·simp only [Option.some.injEq, Prod.mk.injEq] at H
   obtain ⟨rfl, rfl⟩ := H
   go_enter Tryz.func18, Tryz.ntmps18
   go_wp2_with (first | ((with_reducible refine gate_dst (N := 2) rfl ?_); refine boxE HB 2 41 #[.int .i64 a0_0, .int .i64 a0_1] ?_; clear HB; intro gb115 w6 BK115 GW115 hg hb HB; have GE115 := GW115; clear hb hg; obtain ⟨hcz7_0, hcz7_1, hfz7_0, hfz7_1⟩ := b2 BK115) | ((with_reducible refine gate_callee (f := 20) rfl ?_); refine gL 8 Tryz.func20 #[.agg #[.int .i64 a0_0, .int .i64 a0_1]] ?_; (with_reducible refine (epoch_Check.calls a0_0 a0_1 t116 _ A3.out).mono ?_); rintro e w8 ⟨rfl, hb⟩; refine ⟨_, rfl, ?_⟩; replace BK115 := bba BK115 hb; replace HB := bsa HB hb; clear hb; obtain ⟨hcz9_0, hcz9_1, hfz9_0, hfz9_1⟩ := b2 BK115))
   go_ret2
   exact ⟨er, bh HB.out⟩
  ·replace H := ifd H
   rcases H with ⟨-, c10b0, H⟩ | ⟨-, c10b0, H⟩
   ·simp only [Option.some.injEq, Prod.mk.injEq] at H
    obtain ⟨rfl, rfl⟩ := H
    go_enter Tryz.func18, Tryz.ntmps18
    go_wp2_with (first | ((with_reducible refine gate_dst (N := 2) rfl ?_); refine boxE HB 2 41 #[.int .i64 a0_0, .int .i64 a0_1] ?_; clear HB; intro gb115 w11 BK115 GW115 hg hb HB; have GE115 := GW115; clear hb hg; obtain ⟨hcz12_0, hcz12_1, hfz12_0, hfz12_1⟩ := b2 BK115) | ((with_reducible refine gate_callee (f := 20) rfl ?_); refine gL 8 Tryz.func20 #[.agg #[.int .i64 a0_0, .int .i64 a0_1]] ?_; (with_reducible refine (epoch_Check.calls a0_0 a0_1 t116 _ A3.out).mono ?_); rintro e w13 ⟨rfl, hb⟩; refine ⟨_, rfl, ?_⟩; replace BK115 := bba BK115 hb; replace HB := bsa HB hb; clear hb; obtain ⟨hcz14_0, hcz14_1, hfz14_0, hfz14_1⟩ := b2 BK115))
    go_ret2
    exact ⟨er, bh HB.out⟩
   ·replace H := ifd H
    rcases H with ⟨-, c15b0, H⟩ | ⟨-, c15b0, H⟩
    ·simp only [Option.some.injEq, Prod.mk.injEq] at H
     obtain ⟨rfl, rfl⟩ := H
     go_enter Tryz.func18, Tryz.ntmps18
     go_wp2_with (first | ((with_reducible refine gate_dst (N := 2) rfl ?_); refine boxE HB 2 41 #[.int .i64 a0_0, .int .i64 a0_1] ?_; clear HB; intro gb115 w16 BK115 GW115 hg hb HB; have GE115 := GW115; clear hb hg; obtain ⟨hcz17_0, hcz17_1, hfz17_0, hfz17_1⟩ := b2 BK115) | ((with_reducible refine gate_callee (f := 20) rfl ?_); refine gL 8 Tryz.func20 #[.agg #[.int .i64 a0_0, .int .i64 a0_1]] ?_; (with_reducible refine (epoch_Check.calls a0_0 a0_1 t116 _ A3.out).mono ?_); rintro e w18 ⟨rfl, hb⟩; refine ⟨_, rfl, ?_⟩; replace BK115 := bba BK115 hb; replace HB := bsa HB hb; clear hb; obtain ⟨hcz19_0, hcz19_1, hfz19_0, hfz19_1⟩ := b2 BK115))
     go_ret2
     exact ⟨er, bh HB.out⟩
    ·simp only [Option.some.injEq, Prod.mk.injEq] at H
     obtain ⟨rfl, rfl⟩ := H
     go_enter Tryz.func18, Tryz.ntmps18
     go_wp2_with (first | ((with_reducible refine gate_dst (N := 2) rfl ?_); refine boxE HB 2 41 #[.int .i64 a0_0, .int .i64 a0_1] ?_; clear HB; intro gb115 w20 BK115 GW115 hg hb HB; have GE115 := GW115; clear hb hg; obtain ⟨hcz21_0, hcz21_1, hfz21_0, hfz21_1⟩ := b2 BK115) | ((with_reducible refine gate_callee (f := 20) rfl ?_); refine gL 8 Tryz.func20 #[.agg #[.int .i64 a0_0, .int .i64 a0_1]] ?_; (with_reducible refine (epoch_Check.calls a0_0 a0_1 t116 _ A3.out).mono ?_); rintro e w22 ⟨rfl, hb⟩; refine ⟨_, rfl, ?_⟩; replace BK115 := bba BK115 hb; replace HB := bsa HB hb; clear hb; obtain ⟨hcz23_0, hcz23_1, hfz23_0, hfz23_1⟩ := b2 BK115))
     go_ret2
     exact ⟨er, bh HB.out⟩
 ·simp only [Option.some.injEq, Prod.mk.injEq] at H
  obtain ⟨rfl, rfl⟩ := H
  go_enter Tryz.func18, Tryz.ntmps18
  go_wp2_with (first | ((with_reducible refine gate_dst (N := 2) rfl ?_); refine boxE HB 2 41 #[.int .i64 a0_0, .int .i64 a0_1] ?_; clear HB; intro gb115 w24 BK115 GW115 hg hb HB; have GE115 := GW115; clear hb hg; obtain ⟨hcz25_0, hcz25_1, hfz25_0, hfz25_1⟩ := b2 BK115) | ((with_reducible refine gate_callee (f := 20) rfl ?_); refine gL 8 Tryz.func20 #[.agg #[.int .i64 a0_0, .int .i64 a0_1]] ?_; (with_reducible refine (epoch_Check.calls a0_0 a0_1 t116 _ A3.out).mono ?_); rintro e w26 ⟨rfl, hb⟩; refine ⟨_, rfl, ?_⟩; replace BK115 := bba BK115 hb; replace HB := bsa HB hb; clear hb))
  go_ret2
  exact ⟨er, bh HB.out⟩
/-! ### peristyleref21_At: function 19 -/
def peristyleref21_At.f (a0_0 : Int) (a0_1 : Int) (a1 : Int) : Option (Int × Int) := (peristyleref21_May.f a0_0 a0_1).bind fun t118 => (if t118 = true then (if a1 = 0 then (some (a0_0, 0)) else (if a1 < a0_1 then (some (0, 210)) else (if a1 > a0_0 then (some (0, 210)) else (some (a1, 0))))) else (some (0, 1)))
/-! ### epoch_First: function 22 -/
def epoch_First.f  : Option (Int × Int) := some (1, 1)
set_option maxHeartbeats 8000000 in
set_option maxRecDepth 100000 in
theorem epoch_First.calls  (r1 : Int) (r2 : Int) (w : World) (h : epoch_First.f  = some (r1, r2)) :
  Calls Tryz.prog 22 #[] w fun e w' => e = .returned (.agg #[.int .i64 r1, .int .i64 r2]) ∧ Below w.heap.size w w' := by
 have hu41 := Tryz.underlying41
 have HB := Aside0.mk (Below.refl w.heap.size w)
 have H := h
 clear h
 unfold epoch_First.f at H
 simp only [Option.some.injEq, Prod.mk.injEq] at H
 obtain ⟨rfl, rfl⟩ := H
 go_enter Tryz.func22, Tryz.ntmps22
 go_wp2_with (((with_reducible refine gate_dst (N := 0) rfl ?_); refine boxE HB 0 41 #[.int .i64 0, .int .i64 0] ?_; clear HB; intro gb119 w1 BK119 GW119 hg hb HB; have GE119 := GW119; clear hb hg; obtain ⟨hcz2_0, hcz2_1, hfz2_0, hfz2_1⟩ := b2 BK119))
 refine bodyPost_ret (results_cell_row rfl _ _ gb119 41 #[.int .i64 1, .int .i64 1] (0, 0) _ rfl (by refine blk_put (cs := #[.int .i64 1, .int .i64 0]) ?_ 1 _ rfl; refine blk_put (cs := #[.int .i64 0, .int .i64 0]) ?_ 0 _ rfl; exact BK119.out) Tryz.underlying41 rfl (by kernel_rfl)) rfl ?_
 exact ⟨er, bh HB.out⟩
/-! ### runs_count: function 61 -/
def runs_count.l0 : Nat → List (S66) → Int → List (S66) → Int → Int → Option (Int × Bool)
 | 0, _, _, _, _, _ => none
 | k + 1, x0, x4, x7, x8, x9 => if x9 < x8 then (if 0 ≤ x9 then (if x9 < (x7.length : Int) then (if ((rd_T66 x7 x9).f1) = x4 then (if ((rd_T66 x7 x9).f2) < 1 then (some (0, false)) else (if ((rd_T66 x7 x9).f2) > (wrap64 (65536 - x4)) then (some (0, false)) else (if x9 > 0 then (if 0 ≤ (wrap64 (x9 - 1)) then (if (wrap64 (x9 - 1)) < (x0.length : Int) then (if ((rd_T66 x7 x9).f0) = ((rd_T66 x0 (wrap64 (x9 - 1))).f0) then (some (0, false)) else (runs_count.l0 k x0 (wrap64 (x4 + ((rd_T66 x7 x9).f2))) x7 x8 (wrap64 (x9 + 1)))) else (none)) else (none)) else (runs_count.l0 k x0 (wrap64 (x4 + ((rd_T66 x7 x9).f2))) x7 x8 (wrap64 (x9 + 1)))))) else (some (0, false))) else (none)) else (none)) else (some (x4, true))
def runs_count.f (k : Nat) (l0 : List (S66)) : Option (Int × Bool) := runs_count.l0 k l0 0 l0 (l0.length : Int) 0
theorem runs_count.l0_succ (k) (a0) (a1) (a2) (a3) (a4) : type_of% (@runs_count.l0.eq_2 a0 a1 a2 a3 a4 k) := runs_count.l0.eq_2 a0 a1 a2 a3 a4 k
set_option maxHeartbeats 8000000 in
set_option maxRecDepth 100000 in
theorem runs_count.calls (k : Nat) (A0 : Option Addr) (c0 : Nat) (l0 : List (S66)) (r1 : Int) (r2 : Bool) (w : World) (hr0 : Kd.C k66 w A0 l0.length l0) (hc0 : l0.length ≤ c0) (h : runs_count.f k l0 = some (r1, r2)) :
  Calls Tryz.prog 61 #[.slice A0 l0.length c0] w fun e w' => e = .returned (.tuple #[.int .i64 r1, .bool r2]) ∧ Below w.heap.size w w' := by
 have hu66 := Tryz.underlying66
 have HR0 := Aside0.mk hr0
 have HC0 := Aside0.mk hc0
 clear hr0 hc0
 have HB := Aside0.mk (Below.refl w.heap.size w)
 have H := h
 clear h
 unfold runs_count.f at H
 have H' := Aside0.mk H
 clear H
 go_enter Tryz.func61, Tryz.ntmps61
 go_wp2
 repeat (go_quiet (fail))
 go_loopg [4, 9] k (fun kq v4 v9 w' => ∃ (x4_1 : Int) (x9_1 : Int), v4 = .int .i64 x4_1 ∧ v9 = .int .i64 x9_1 ∧ Aside0 (runs_count.l0 kq l0 x4_1 l0 (l0.length : Int) x9_1 = some (r1, r2)) ∧ Aside0 (kq ≤ k) ∧ Aside0 (Below w.heap.size w w'))
 case atStart => exact ⟨(0), (0), (by rfl), (by rfl), H', ⟨Nat.le_refl _⟩, ⟨bh HB.out⟩⟩
 case round =>
  clear H'
  obtain ⟨x4_1, x9_1, rfl, rfl, HA, HK1, HB⟩ := hrel
  cases gk with
  | zero => exact absurd HA.out (by simp [runs_count.l0])
  | succ k1 =>
   have H := HA.out
   clear HA
   simp only [runs_count.l0] at H
   replace H := ifd H
   rcases H with ⟨-, c2b0, H⟩ | ⟨-, c2b0, H⟩
   ·replace H := ifn H
    obtain ⟨-, c3b0, H⟩ := H
    replace H := ifn H
    obtain ⟨-, c4b0, H⟩ := H
    replace H := ife H
    rcases H with ⟨-, c5b0, c5b1, H⟩ | ⟨c5, c5b0, c5b1, H⟩
    ·replace H := ifd H
     rcases H with ⟨-, c6b0, H⟩ | ⟨-, c6b0, H⟩
     ·simp only [Option.some.injEq, Prod.mk.injEq] at H
      obtain ⟨rfl, rfl⟩ := H
      have p120 : 0 ≤ (x9_1 : Int) := ad
      have q120 : x9_1 < (l0.length : Int) := ad
      obtain ⟨ad120, e120, hx120_0, hx120_1, hx120_2⟩ := at_T66 HR0.out x9_1 p120 q120
      cases e120
      replace hx120_0 := cb HB.out.cell hx120_0
      replace hx120_1 := cb HB.out.cell hx120_1
      replace hx120_2 := cb HB.out.cell hx120_2
      replace p120 := eq_true p120
      replace q120 := eq_true q120
      go_wp2_with (first | ((with_reducible refine gate_dst (N := 6) rfl ?_); refine boxE HB 6 66 #[.int .i64 0, .int .i64 0, .int .i64 0] ?_; clear HB; intro gb121 w7 BK121 GW121 hg hb HB; have GE121 := GW121; clear hb hg; obtain ⟨hcz8_0, hcz8_1, hcz8_2, hfz8_0, hfz8_1, hfz8_2⟩ := b3 BK121) | ((with_reducible refine gate_store (t := 66) (p := 6) rfl ?_); refine stE 66 6 (((w7.setCell ⟨gb121, 0, none⟩ (.int .i64 ((rd_T66 l0 x9_1).f0))).setCell ⟨gb121, 1, none⟩ (.int .i64 ((rd_T66 l0 x9_1).f1))).setCell ⟨gb121, 2, none⟩ (.int .i64 ((rd_T66 l0 x9_1).f2))) ?_; intro w9 hw; replace BK121 := sps #[.int .i64 ((rd_T66 l0 x9_1).f0), .int .i64 ((rd_T66 l0 x9_1).f1), .int .i64 ((rd_T66 l0 x9_1).f2)] BK121 hw (.p (.p (.p .nil))); replace HB := bhw HB hw; clear hw; obtain ⟨hcz10_0, hcz10_1, hcz10_2, hfz10_0, hfz10_1, hfz10_2⟩ := b3 BK121))
      repeat (go_quiet (fail); go_wp2_with (fail))
      go_ret2
      exact ⟨er, bh HB.out⟩
     ·replace H := ifd H
      rcases H with ⟨-, c11b0, H⟩ | ⟨-, c11b0, H⟩
      ·simp only [Option.some.injEq, Prod.mk.injEq] at H
       obtain ⟨rfl, rfl⟩ := H
       have p120 : 0 ≤ (x9_1 : Int) := ad
       have q120 : x9_1 < (l0.length : Int) := ad
       obtain ⟨ad120, e120, hx120_0, hx120_1, hx120_2⟩ := at_T66 HR0.out x9_1 p120 q120
       cases e120
       replace hx120_0 := cb HB.out.cell hx120_0
       replace hx120_1 := cb HB.out.cell hx120_1
       replace hx120_2 := cb HB.out.cell hx120_2
       replace p120 := eq_true p120
       replace q120 := eq_true q120
       go_wp2_with (first | ((with_reducible refine gate_dst (N := 6) rfl ?_); refine boxE HB 6 66 #[.int .i64 0, .int .i64 0, .int .i64 0] ?_; clear HB; intro gb121 w12 BK121 GW121 hg hb HB; have GE121 := GW121; clear hb hg; obtain ⟨hcz13_0, hcz13_1, hcz13_2, hfz13_0, hfz13_1, hfz13_2⟩ := b3 BK121) | ((with_reducible refine gate_store (t := 66) (p := 6) rfl ?_); refine stE 66 6 (((w12.setCell ⟨gb121, 0, none⟩ (.int .i64 ((rd_T66 l0 x9_1).f0))).setCell ⟨gb121, 1, none⟩ (.int .i64 ((rd_T66 l0 x9_1).f1))).setCell ⟨gb121, 2, none⟩ (.int .i64 ((rd_T66 l0 x9_1).f2))) ?_; intro w14 hw; replace BK121 := sps #[.int .i64 ((rd_T66 l0 x9_1).f0), .int .i64 ((rd_T66 l0 x9_1).f1), .int .i64 ((rd_T66 l0 x9_1).f2)] BK121 hw (.p (.p (.p .nil))); replace HB := bhw HB hw; clear hw; obtain ⟨hcz15_0, hcz15_1, hcz15_2, hfz15_0, hfz15_1, hfz15_2⟩ := b3 BK121))
       repeat (go_quiet (fail); go_wp2_with (fail))
       go_ret2
       exact ⟨er, bh HB.out⟩
      ·replace H := ifd H
       rcases H with ⟨-, c16b0, H⟩ | ⟨-, c16b0, H⟩
       ·obtain ⟨ji17, hji17⟩ : ∃ j_ : Int, (wrap64 (x9_1 - 1)) = j_ := ⟨_, rfl⟩
        replace H : (if 0 ≤ (ji17) then (if (ji17) < (l0.length : Int) then (if ((rd_T66 l0 x9_1).f0) = ((rd_T66 l0 (ji17)).f0) then (some (0, false)) else (runs_count.l0 k1 l0 (wrap64 (x4_1 + ((rd_T66 l0 x9_1).f2))) l0 (l0.length : Int) (wrap64 (x9_1 + 1)))) else (none)) else (none)) = some (r1, r2) := by (rw [hji17] at H; exact H)
        have hji17w : (IntKind.i64.wrap (x9_1 - 1)) = ji17 := (i64_w _).trans hji17
        replace H := ifn H
        obtain ⟨-, c18b0, H⟩ := H
        replace H := ifn H
        obtain ⟨-, c19b0, H⟩ := H
        replace H := ife H
        rcases H with ⟨-, c20b0, c20b1, H⟩ | ⟨c20, c20b0, c20b1, H⟩
        ·simp only [Option.some.injEq, Prod.mk.injEq] at H
         obtain ⟨rfl, rfl⟩ := H
         have p120 : 0 ≤ (x9_1 : Int) := ad
         have q120 : x9_1 < (l0.length : Int) := ad
         obtain ⟨ad120, e120, hx120_0, hx120_1, hx120_2⟩ := at_T66 HR0.out x9_1 p120 q120
         cases e120
         replace hx120_0 := cb HB.out.cell hx120_0
         replace hx120_1 := cb HB.out.cell hx120_1
         replace hx120_2 := cb HB.out.cell hx120_2
         replace p120 := eq_true p120
         replace q120 := eq_true q120
         go_wp2_with (first | ((with_reducible refine gate_dst (N := 6) rfl ?_); refine boxE HB 6 66 #[.int .i64 0, .int .i64 0, .int .i64 0] ?_; clear HB; intro gb121 w21 BK121 GW121 hg hb HB; have GE121 := GW121; clear hb hg; obtain ⟨hcz22_0, hcz22_1, hcz22_2, hfz22_0, hfz22_1, hfz22_2⟩ := b3 BK121) | ((with_reducible refine gate_store (t := 66) (p := 6) rfl ?_); refine stE 66 6 (((w21.setCell ⟨gb121, 0, none⟩ (.int .i64 ((rd_T66 l0 x9_1).f0))).setCell ⟨gb121, 1, none⟩ (.int .i64 ((rd_T66 l0 x9_1).f1))).setCell ⟨gb121, 2, none⟩ (.int .i64 ((rd_T66 l0 x9_1).f2))) ?_; intro w23 hw; replace BK121 := sps #[.int .i64 ((rd_T66 l0 x9_1).f0), .int .i64 ((rd_T66 l0 x9_1).f1), .int .i64 ((rd_T66 l0 x9_1).f2)] BK121 hw (.p (.p (.p .nil))); replace HB := bhw HB hw; clear hw; obtain ⟨hcz24_0, hcz24_1, hcz24_2, hfz24_0, hfz24_1, hfz24_2⟩ := b3 BK121; have p122 : 0 ≤ ((ji17) : Int) := ad; have q122 : (ji17) < (l0.length : Int) := ad; obtain ⟨ad122, e122, hx122_0, hx122_1, hx122_2⟩ := at_T66 HR0.out (ji17) p122 q122; obtain rfl : ad120 = ad122 := (by injection e122); replace hx122_0 := cb HB.out.cell hx122_0; replace hx122_1 := cb HB.out.cell hx122_1; replace hx122_2 := cb HB.out.cell hx122_2; replace p122 := eq_true p122; replace q122 := eq_true q122))
         repeat (go_quiet (fail); go_wp2_with (fail))
         go_ret2
         exact ⟨by rfl, bh HB.out⟩
        ·have H' := Aside0.mk H
         clear H
         have p120 : 0 ≤ (x9_1 : Int) := ad
         have q120 : x9_1 < (l0.length : Int) := ad
         obtain ⟨ad120, e120, hx120_0, hx120_1, hx120_2⟩ := at_T66 HR0.out x9_1 p120 q120
         cases e120
         replace hx120_0 := cb HB.out.cell hx120_0
         replace hx120_1 := cb HB.out.cell hx120_1
         replace hx120_2 := cb HB.out.cell hx120_2
         replace p120 := eq_true p120
         replace q120 := eq_true q120
         go_wp2_with (first | ((with_reducible refine gate_dst (N := 6) rfl ?_); refine boxE HB 6 66 #[.int .i64 0, .int .i64 0, .int .i64 0] ?_; clear HB; intro gb121 w25 BK121 GW121 hg hb HB; have GE121 := GW121; clear hb hg; obtain ⟨hcz26_0, hcz26_1, hcz26_2, hfz26_0, hfz26_1, hfz26_2⟩ := b3 BK121) | ((with_reducible refine gate_store (t := 66) (p := 6) rfl ?_); refine stE 66 6 (((w25.setCell ⟨gb121, 0, none⟩ (.int .i64 ((rd_T66 l0 x9_1).f0))).setCell ⟨gb121, 1, none⟩ (.int .i64 ((rd_T66 l0 x9_1).f1))).setCell ⟨gb121, 2, none⟩ (.int .i64 ((rd_T66 l0 x9_1).f2))) ?_; intro w27 hw; replace BK121 := sps #[.int .i64 ((rd_T66 l0 x9_1).f0), .int .i64 ((rd_T66 l0 x9_1).f1), .int .i64 ((rd_T66 l0 x9_1).f2)] BK121 hw (.p (.p (.p .nil))); replace HB := bhw HB hw; clear hw; obtain ⟨hcz28_0, hcz28_1, hcz28_2, hfz28_0, hfz28_1, hfz28_2⟩ := b3 BK121; have p122 : 0 ≤ ((ji17) : Int) := ad; have q122 : (ji17) < (l0.length : Int) := ad; obtain ⟨ad122, e122, hx122_0, hx122_1, hx122_2⟩ := at_T66 HR0.out (ji17) p122 q122; obtain rfl : ad120 = ad122 := (by injection e122); replace hx122_0 := cb HB.out.cell hx122_0; replace hx122_1 := cb HB.out.cell hx122_1; replace hx122_2 := cb HB.out.cell hx122_2; replace p122 := eq_true p122; replace q122 := eq_true q122))
         repeat (go_quiet (fail); go_wp2_with (fail))
         go_roundg k1
         case measure => have := HK1.out; omega
         case rel => exact ⟨(wrap64 (x4_1 + ((rd_T66 l0 x9_1).f2))), (wrap64 (x9_1 + 1)), (by rfl), (by rfl), (by exact H'), ⟨by have := HK1.out; omega⟩, ⟨bh HB.out⟩⟩
       ·have H' := Aside0.mk H
        clear H
        have p120 : 0 ≤ (x9_1 : Int) := ad
        have q120 : x9_1 < (l0.length : Int) := ad
        obtain ⟨ad120, e120, hx120_0, hx120_1, hx120_2⟩ := at_T66 HR0.out x9_1 p120 q120
        cases e120
        replace hx120_0 := cb HB.out.cell hx120_0
        replace hx120_1 := cb HB.out.cell hx120_1
        replace hx120_2 := cb HB.out.cell hx120_2
        replace p120 := eq_true p120
        replace q120 := eq_true q120
        go_wp2_with (first | ((with_reducible refine gate_dst (N := 6) rfl ?_); refine boxE HB 6 66 #[.int .i64 0, .int .i64 0, .int .i64 0] ?_; clear HB; intro gb121 w29 BK121 GW121 hg hb HB; have GE121 := GW121; clear hb hg; obtain ⟨hcz30_0, hcz30_1, hcz30_2, hfz30_0, hfz30_1, hfz30_2⟩ := b3 BK121) | ((with_reducible refine gate_store (t := 66) (p := 6) rfl ?_); refine stE 66 6 (((w29.setCell ⟨gb121, 0, none⟩ (.int .i64 ((rd_T66 l0 x9_1).f0))).setCell ⟨gb121, 1, none⟩ (.int .i64 ((rd_T66 l0 x9_1).f1))).setCell ⟨gb121, 2, none⟩ (.int .i64 ((rd_T66 l0 x9_1).f2))) ?_; intro w31 hw; replace BK121 := sps #[.int .i64 ((rd_T66 l0 x9_1).f0), .int .i64 ((rd_T66 l0 x9_1).f1), .int .i64 ((rd_T66 l0 x9_1).f2)] BK121 hw (.p (.p (.p .nil))); replace HB := bhw HB hw; clear hw; obtain ⟨hcz32_0, hcz32_1, hcz32_2, hfz32_0, hfz32_1, hfz32_2⟩ := b3 BK121))
        repeat (go_quiet (fail); go_wp2_with (fail))
        go_roundg k1
        case measure => have := HK1.out; omega
        case rel => exact ⟨(wrap64 (x4_1 + ((rd_T66 l0 x9_1).f2))), (wrap64 (x9_1 + 1)), (by rfl), (by rfl), H', ⟨by have := HK1.out; omega⟩, ⟨bh HB.out⟩⟩
    ·simp only [Option.some.injEq, Prod.mk.injEq] at H
     obtain ⟨rfl, rfl⟩ := H
     have p120 : 0 ≤ (x9_1 : Int) := ad
     have q120 : x9_1 < (l0.length : Int) := ad
     obtain ⟨ad120, e120, hx120_0, hx120_1, hx120_2⟩ := at_T66 HR0.out x9_1 p120 q120
     cases e120
     replace hx120_0 := cb HB.out.cell hx120_0
     replace hx120_1 := cb HB.out.cell hx120_1
     replace hx120_2 := cb HB.out.cell hx120_2
     replace p120 := eq_true p120
     replace q120 := eq_true q120
     go_wp2_with (first | ((with_reducible refine gate_dst (N := 6) rfl ?_); refine boxE HB 6 66 #[.int .i64 0, .int .i64 0, .int .i64 0] ?_; clear HB; intro gb121 w33 BK121 GW121 hg hb HB; have GE121 := GW121; clear hb hg; obtain ⟨hcz34_0, hcz34_1, hcz34_2, hfz34_0, hfz34_1, hfz34_2⟩ := b3 BK121) | ((with_reducible refine gate_store (t := 66) (p := 6) rfl ?_); refine stE 66 6 (((w33.setCell ⟨gb121, 0, none⟩ (.int .i64 ((rd_T66 l0 x9_1).f0))).setCell ⟨gb121, 1, none⟩ (.int .i64 ((rd_T66 l0 x9_1).f1))).setCell ⟨gb121, 2, none⟩ (.int .i64 ((rd_T66 l0 x9_1).f2))) ?_; intro w35 hw; replace BK121 := sps #[.int .i64 ((rd_T66 l0 x9_1).f0), .int .i64 ((rd_T66 l0 x9_1).f1), .int .i64 ((rd_T66 l0 x9_1).f2)] BK121 hw (.p (.p (.p .nil))); replace HB := bhw HB hw; clear hw; obtain ⟨hcz36_0, hcz36_1, hcz36_2, hfz36_0, hfz36_1, hfz36_2⟩ := b3 BK121))
     repeat (go_quiet (fail); go_wp2_with (fail))
     go_ret2
     exact ⟨er, bh HB.out⟩
   ·simp only [Option.some.injEq, Prod.mk.injEq] at H
    obtain ⟨rfl, rfl⟩ := H
    go_wp2
    repeat (go_quiet (fail))
    go_ret2
    exact ⟨er, bh HB.out⟩
/-! ### bits_Zig: function 79 -/
def bits_Zig.f (a0 : Int) : Option (Int) := some (wrap64 (Go.bits .xor .u64 (IntKind.u64.wrap ((IntKind.u64.wrap (a0)) * 2)) (IntKind.u64.wrap (a0 / 9223372036854775808))))
set_option maxHeartbeats 8000000 in
set_option maxRecDepth 100000 in
theorem bits_Zig.calls (a0 : Int) (r : Int) (w : World) (h : bits_Zig.f a0 = some r) :
  Calls Tryz.prog 79 #[.int .i64 a0] w fun e w' => e = .returned (.int .i64 r) ∧ Drawn0 w w' := by
 have H := h
 clear h
 unfold bits_Zig.f at H
 obtain rfl := Option.some.inj H
 go_enter Tryz.func79, Tryz.ntmps79
 go_wp2
 go_ret
 exact ⟨by rfl, by repeat (exact Drawn0.refl _)⟩
/-! ### vint_Put: function 46 (a contract of the session's own) -/
def vint_Put.loop : Nat → Int → List Int
  | 0, x => [x % 256]
  | d + 1, x => if 128 ≤ x then Go.bits .or .u8 (x % 256) 128 :: vint_Put.loop d (x / 128) else [x % 256]
def vint_Put.f (a0 : Int) : Option (ByteArray) := (bits_Zig.f a0).bind fun z => some (strOfNums (vint_Put.loop 9 (IntKind.u64.wrap z)))
theorem vint_Put.zero : (Tryz.prog.info? 123).map (fun i => (i.zero, i.size)) = some (some (.agg (arrI .u8 (List.replicate 10 0))), 10) := by kernel_rfl
set_option maxHeartbeats 1600000 in
theorem vint_Put.calls (a0 : Int) (r : ByteArray) (w : World) (h : vint_Put.f a0 = some r) :
    Calls Tryz.prog 46 #[.int .i64 a0] w fun e w' => e = .returned (.string r) ∧ Below w.heap.size w w' := by
 obtain ⟨z, hz, hr⟩ := Option.bind_eq_some_iff.1 h
 obtain rfl := Option.some.inj hr
 have A1 := Aside0.mk hz
 clear h hz hr
 go_enter Tryz.func46, Tryz.ntmps46
 go_wp2_with (first | ((with_reducible refine gate_dst (N := 3) rfl ?_); refine arr_alloc (w0 := w) w.heap.size rfl 123 rfl _ 10 vint_Put.zero (Below.refl _ _) (Nat.le_refl _) ?_; intro g w1 hg hb hs HB1 hbs1 hgr1) | ((with_reducible refine gate_callee (f := 79) rfl ?_); refine gL 7 Tryz.func79 #[.int .i64 a0] ?_; (with_reducible refine (bits_Zig.calls a0 z _ A1.out).mono ?_); rintro e w2 ⟨rfl, hd⟩; refine ⟨_, rfl, ?_⟩; have HB2 := Aside0.mk (below_then HB1 hbs1 hd.below); have HG2 := Aside0.mk (show w2.heap[g]? = _ from (hd.below.block g (blk_lt hg)).trans hg); clear hd))
 have HX := Aside0.mk hb
 clear hg hb hs HB1 hbs1 hgr1
 go_loopw [4, 5] (fun v4 v5 wr => ∃ (k d : Nat) (x kk : Int) (l : List Int), Aside0 (k + d = 9) ∧ Aside0 (l.length = 10) ∧ Aside0 (0 ≤ x ∧ x < 2 * 128 ^ d) ∧ Aside0 (kk = (k : Int)) ∧ Aside0 (l.take k ++ vint_Put.loop d x = vint_Put.loop 9 (IntKind.u64.wrap z)) ∧ v4 = .int .u64 x ∧ v5 = .int .i64 kk ∧ Aside0 (wr.heap[g]? = some (.cells (arrI .u8 l) 123 (0, 0))) ∧ Aside0 (Below w.heap.size w wr)) (fun _ v5 _ => 10 - (intOf v5).toNat)
 case atStart => exact ⟨0, 9, IntKind.u64.wrap z, 0, List.replicate 10 0, ⟨rfl⟩, ⟨rfl⟩, ⟨by have e : (2 : Int) * 128 ^ 9 = 18446744073709551616 := by decide
                                                                                            rw [e]; simp [IntKind.wrap, IntKind.bits, IntKind.signed]; omega⟩, ⟨rfl⟩, ⟨rfl⟩, by rfl, rfl, HG2, HB2⟩
 case round =>
   obtain ⟨k, d, x, kk, l, HKD, HLN, HXB, HKK, HT, rfl, rfl, HG, HB⟩ := hrel
   have hk0 : (0 : Int) ≤ kk := by have := HKK.out; omega
   have hk1 : kk < 10 := by have := HKK.out; have := HKD.out; omega
   have hc := arrI_cell HG.out kk.toNat (by rw [HLN.out]; omega)
   have hf : wr.frozen? ⟨g, kk.toNat, none⟩ = false := blk_frozen HG.out kk.toNat
   generalize l.getD kk.toNat 0 = old at hc
   by_cases hge : x ≥ 128
   ·go_wp2
    go_roundw
    case rel =>
      have hkk := HKK.out
      have hkd := HKD.out
      have hxb := HXB.out
      have hln := HLN.out
      obtain ⟨d', rfl⟩ : ∃ d', d = d' + 1 := by
        rcases d with _ | d'
        ·simp only [Int.pow_zero] at hxb; omega
        ·exact ⟨d', rfl⟩
      have hput := arrI_put HG.out kk.toNat (Go.bits .or .u8 (x % 256) 128)
      refine ⟨k + 1, d', x / 128, wrap64 (kk + 1), l.set kk.toNat (Go.bits .or .u8 (x % 256) 128), ⟨by omega⟩, ⟨by rw [List.length_set]; exact hln⟩, ⟨by omega, ?_⟩, ⟨by unfold wrap64; omega⟩, ⟨?_⟩, by rfl, by (unfold wrap64; go_num), ⟨by exact hput⟩, ⟨HB.out.setCell HX.out _⟩⟩
      ·rw [Int.pow_succ] at hxb
       have := hxb.2
       omega
      ·rw [← HT.out]
       have e : kk.toNat = k := by omega
       have h1 : k < (l.set k (Go.bits .or .u8 (x % 256) 128)).length := by rw [List.length_set]; omega
       rw [e, List.take_succ_eq_append_getElem h1, List.getElem_set_self, List.take_set_of_le (Nat.le_refl _)]
       simp only [vint_Put.loop, if_pos (show (128 : Int) ≤ x from hge), List.append_assoc, List.cons_append, List.nil_append]
    case measure => have := HKK.out; (simp [intOf]; omega)
   ·have hput := arrI_put HG.out kk.toNat (x % 256)
    have hll : (l.set kk.toNat (x % 256)).length = 10 := by rw [List.length_set]; exact HLN.out
    have hrd := arrI_reads hput (kk + 1).toNat (by rw [hll]; omega) (by omega)
    have hstr := Kd.C_string (P := Tryz.prog) (src := 85) (dst := 9) (e := 5) (c := 10) Tryz.underlying85 Tryz.underlying5 Tryz.underlying9 hrd
    have hsl := run_slice_arr (P := Tryz.prog) (W := wr.setCell ⟨g, kk.toNat, none⟩ (.int .u8 (x % 256))) Tryz.underlying123 (e := 5) (by kernel_rfl) g .i64 (kk + 1) (by omega) (by omega) (by omega)
    have HE : Aside0 ((l.set kk.toNat (x % 256)).take (kk + 1).toNat = vint_Put.loop 9 (IntKind.u64.wrap z)) := ⟨by
      have hkk := HKK.out
      have e : kk.toNat = k := by omega
      have e1 : (kk + 1).toNat = k + 1 := by omega
      have h1 : k < (l.set k (x % 256)).length := by rw [List.length_set, HLN.out]; have := HKD.out; omega
      have hlast : vint_Put.loop d x = [x % 256] := by
        cases d with
        | zero => rfl
        | succ d => simp only [vint_Put.loop, if_neg (show ¬ (128 : Int) ≤ x from hge)]
      rw [← HT.out, e, e1, List.take_succ_eq_append_getElem h1, List.getElem_set_self, List.take_set_of_le (Nat.le_refl _), hlast]⟩
    have HLL := Aside0.mk hput
    clear hput hll hrd
    go_wp2
    go_ret
    exact ⟨by rw [HE.out]; rfl, HB.out.setCell HX.out _⟩
end Go.Proofs.YtdgphlkbmplbpaaGreat.Print
end
section
namespace Go.Proofs.YtdgphlkbmplbpaaGreat.Print
open Go.RowKit Go.Proofs.YtdgphlkbmplbpaaGreatW.PrintWords Go.Proofs.YtdgphlkbmplbpaaGreatW.PrintLast Go.Proofs.YtdgphlkbmplbpaaGreatW.PrintMore
attribute [local go_sem] max2_int min2_int max_two min_two max_three min_three max_four min_four   -- for this text's walks alone
set_option linter.unusedVariables false
set_option linter.unusedSimpArgs false
/-! ### strings_Builder_WriteString: function 45 (a contract of the session's own) -/
def Tryz.laysWS_ren : Go.Shelf.Ren := ⟨fun | 166 => 45 | 240 => 78 | 276 => 114 | n => n, fun | 70 => 84 | 9 => 9 | 3 => 3 | 75 => 89 | 0 => 0 | 72 => 87 | 37 => 85 | 4 => 4 | 164 => 152 | 80 => 93 | 5 => 5 | 20 => 20 | n => n, fun | n => n⟩
theorem Tryz.laysWS : Go.Proofs.Lays.n166 Tryz.prog Tryz.laysWS_ren := {
  mixed := by kernel_rfl
  f166 := Tryz.func45.trans (congrArg some (by kernel_rfl))
  f240 := Tryz.func78.trans (congrArg some (by kernel_rfl))
  f276 := Tryz.func114.trans (congrArg some (by kernel_rfl))
  t0 := Tryz.underlying0
  a0 := Tryz.isAgg0
  z0 := Tryz.sizeOf0
  v0 := Tryz.zeroValue0
  t3 := Tryz.underlying3
  a3 := Tryz.isAgg3
  z3 := Tryz.sizeOf3
  v3 := Tryz.zeroValue3
  t4 := Tryz.underlying4
  a4 := Tryz.isAgg4
  z4 := Tryz.sizeOf4
  v4 := Tryz.zeroValue4
  t9 := Tryz.underlying9
  a9 := Tryz.isAgg9
  z9 := Tryz.sizeOf9
  v9 := Tryz.zeroValue9
  t20 := Tryz.underlying20
  a20 := Tryz.isAgg20
  z20 := Tryz.sizeOf20
  v20 := Tryz.zeroValue20
  t37 := Tryz.underlying85
  a37 := Tryz.isAgg85
  z37 := Tryz.sizeOf85
  v37 := Tryz.zeroValue85
  t70 := Tryz.underlying84
  a70 := Tryz.isAgg84
  z70 := Tryz.sizeOf84
  v70 := Tryz.zeroValue84
  t72 := Tryz.underlying87
  a72 := Tryz.isAgg87
  z72 := Tryz.sizeOf87
  v72 := Tryz.zeroValue87
  t75 := Tryz.underlying89
  a75 := Tryz.isAgg89
  z75 := Tryz.sizeOf89
  v75 := Tryz.zeroValue89
  t164 := Tryz.underlying152
  a164 := Tryz.isAgg152
  z164 := Tryz.sizeOf152
  v164 := Tryz.zeroValue152 }
theorem Tryz.extraWS : Builder.Extra Tryz.prog Tryz.laysWS_ren := {
  sizeBuilder := by kernel_rfl
  liesBuilder := by kernel_rfl
  t5 := Tryz.underlying5
  a5 := Tryz.isAgg5
  z5 := Tryz.sizeOf5
  v5 := Tryz.zeroValue5
  infoByte := by kernel_rfl
  cellsByte := by kernel_rfl
  sizeByte := by kernel_rfl
  neB5 := by decide }
def Bld (B b : Nat) (s : ByteArray) (w : World) : Prop := Lib.IsBuilderF 87 5 B b (Lib.strCells s) w
theorem strCells_app (s x : ByteArray) : Lib.strCells (s ++ x) = Lib.strCells s ++ Lib.strCells x := by simp [Lib.strCells]
theorem BldAt.grown {B b : Nat} {p : Value} {bs : List Value} {X Y : World} {row : Option Nat} (h : Lib.BuilderAtF 87 5 B b p bs X) (hg : X.grownBy Y row) (hb : some b ≠ row) (h5 : ∀ k c fz, X.heap[k]? = some (.cells c 5 fz) → some k ≠ row) : Lib.BuilderAtF 87 5 B b p bs Y := by
 have hl := h.lt
 obtain ⟨hB, v, hc, ho, hn⟩ := h
 refine ⟨hB, v, (hg.block b hl hb).trans hc, ho.kept hg ?_, hn⟩
 rcases ho.2 with ⟨rfl, _⟩ | ⟨g, cap, cur, fz, rfl, _, hh, _⟩
 ·exact .inl rfl
 ·exact .inr (fun e => h5 g _ _ hh (by simpa [Value.ownBlock] using e))
theorem Bld.grown {B b : Nat} {s : ByteArray} {X Y : World} {row : Option Nat} (h : Bld B b s X) (hg : X.grownBy Y row) (hb : some b ≠ row) (h5 : ∀ k c fz, X.heap[k]? = some (.cells c 5 fz) → some k ≠ row) : Bld B b s Y :=
  h.elim (fun h => .inl (BldAt.grown h hg hb h5)) (fun h => .inr (BldAt.grown h hg hb h5))
theorem Bld.lt {B b : Nat} {s : ByteArray} {X : World} (h : Bld B b s X) : b < X.heap.size := h.elim (fun h => h.lt) (fun h => h.lt)
theorem BldAt.below {B b : Nat} {p : Value} {bs : List Value} {X Y : World} (h : Lib.BuilderAtF 87 5 B b p bs X) (hb : Below X.heap.size X Y) : Lib.BuilderAtF 87 5 B b p bs Y := by
 have hl := h.lt
 obtain ⟨hB, v, hc, ho, hn⟩ := h
 refine ⟨hB, v, (hb.block b hl).trans hc, ⟨ho.1, ?_⟩, hn⟩
 rcases ho.2 with h2 | ⟨g, cap, cur, fz, rfl, h3, hh, h4⟩
 ·exact .inl h2
 ·exact .inr ⟨g, cap, cur, fz, rfl, h3, (hb.block g (Array.getElem?_eq_some_iff.1 hh).1).trans hh, h4⟩
theorem Bld.below {B b : Nat} {s : ByteArray} {X Y : World} (h : Bld B b s X) (hb : Below X.heap.size X Y) : Bld B b s Y := h.elim (fun h => .inl (BldAt.below h hb)) (fun h => .inr (BldAt.below h hb))
theorem Bld.set {B b g T : Nat} {s : ByteArray} {X : World} {cs : Array Value} {fr : Nat × Nat} (h : Bld B b s X) (hg : X.heap[g]? = some (.cells cs T fr)) (h1 : T ≠ 87) (h2 : T ≠ 5) (j : Nat) (u : Value) : Bld B b s (X.setCell ⟨g, j, none⟩ u) := by
 have hne : g ≠ b := by
   rintro rfl
   have : ∃ p v, X.heap[g]? = some (.cells #[p, v] 87 (0, 0)) := h.elim (fun h => by obtain ⟨_, v, hc, _⟩ := h; exact ⟨_, v, hc⟩) (fun h => by obtain ⟨_, v, hc, _⟩ := h; exact ⟨_, v, hc⟩)
   obtain ⟨p, v, hc⟩ := this
   rw [hc] at hg
   injection hg with hg
   injection hg with _ hg
   exact h1 hg.symm
 refine h.grown (row := some g) ⟨rfl, rfl, rfl, by simp [World.setCell], fun k _ hk => Below.heap_setCell _ _ _ _ (fun e => hk (by simp [e]))⟩ (fun e => hne (Option.some.inj e).symm) (fun k c fz hk e => ?_)
 have hkg : k = g := Option.some.inj e
 subst hkg
 rw [hk] at hg
 injection hg with hg
 injection hg with _ hg
 exact h2 hg.symm
theorem Bld.fresh {B b : Nat} {w : World} (hB : B ≤ b) (h : w.heap[b]? = some (.cells #[.pointer none, .slice none 0 0] 87 (0, 0))) : Bld B b ByteArray.empty w := .inl ⟨hB, _, h, World.ownsRowF_nil _ _ _ _, by simp [Value.ownBlock]⟩
theorem kept_blk {b g T : Nat} {w w1 : World} {cs : Array Value} {fr : Nat × Nat} (hk : Lib.OthersKept 5 (some b) w w1) (hb : w.heap[g]? = some (.cells cs T fr)) (hg : g ≠ b) (ht : T ≠ 5) : w1.heap[g]? = some (.cells cs T fr) :=
  hk g _ hb (fun e => hg (Option.some.inj e)) (fun c fz e => by injection e with _ e; exact ht e)
theorem strings_Builder_WriteString.calls (B b : Nat) (s x : ByteArray) (w : World) (h : Bld B b s w) (hl : s.size + x.size ≤ 140737488355328) (hB : B ≤ w.heap.size) :
    Calls Tryz.prog 45 #[.pointer (some ⟨b, 0, none⟩), .string x] w fun e w' => e = .returned (.tuple #[.int .i64 x.size, .nilIface]) ∧ Bld B b (s ++ x) w' ∧ Below B w w' ∧ Lib.OthersKept 5 (some b) w w' :=
  (Any.Builder_WriteString_k Tryz.laysWS Tryz.extraWS B b (Lib.strCells s) x w h (by rw [Lib.strCells_length]; exact hl) hB).mono fun e w' ⟨h1, h2, h3, h4⟩ => ⟨h1, .inr (by rw [strCells_app]; exact h2), h3, h4⟩
/-! ### strings_Builder_String: function 47 (a contract of the session's own) -/
def Tryz.laysST_ren : Go.Shelf.Ren := ⟨fun | 169 => 47 | n => n, fun | 70 => 84 | 9 => 9 | 0 => 0 | 72 => 87 | 37 => 85 | 127 => 126 | 3 => 3 | 5 => 5 | 20 => 20 | n => n, fun | n => n⟩
theorem Tryz.laysST : Go.Proofs.Lays.n169 Tryz.prog Tryz.laysST_ren := {
  mixed := by kernel_rfl
  f169 := Tryz.func47.trans (congrArg some (by kernel_rfl))
  t0 := Tryz.underlying0
  a0 := Tryz.isAgg0
  z0 := Tryz.sizeOf0
  v0 := Tryz.zeroValue0
  t3 := Tryz.underlying3
  a3 := Tryz.isAgg3
  z3 := Tryz.sizeOf3
  v3 := Tryz.zeroValue3
  t9 := Tryz.underlying9
  a9 := Tryz.isAgg9
  z9 := Tryz.sizeOf9
  v9 := Tryz.zeroValue9
  t37 := Tryz.underlying85
  a37 := Tryz.isAgg85
  z37 := Tryz.sizeOf85
  v37 := Tryz.zeroValue85
  t70 := Tryz.underlying84
  a70 := Tryz.isAgg84
  z70 := Tryz.sizeOf84
  v70 := Tryz.zeroValue84
  t72 := Tryz.underlying87
  a72 := Tryz.isAgg87
  z72 := Tryz.sizeOf87
  v72 := Tryz.zeroValue87
  t127 := Tryz.underlying126
  a127 := Tryz.isAgg126
  z127 := Tryz.sizeOf126
  v127 := Tryz.zeroValue126 }
theorem Tryz.extraST : Builder.Extra Tryz.prog Tryz.laysST_ren := {
  sizeBuilder := by kernel_rfl
  liesBuilder := by kernel_rfl
  t5 := Tryz.underlying5
  a5 := Tryz.isAgg5
  z5 := Tryz.sizeOf5
  v5 := Tryz.zeroValue5
  infoByte := by kernel_rfl
  cellsByte := by kernel_rfl
  sizeByte := by kernel_rfl
  neB5 := by decide }
theorem strings_Builder_String.calls (B b : Nat) (s : ByteArray) (w : World) (h : Bld B b s w) (hB : B ≤ w.heap.size) :
    Calls Tryz.prog 47 #[.pointer (some ⟨b, 0, none⟩)] w fun e w' => e = .returned (.string s) ∧ Below B w w' :=
  (Any.Builder_String_any_k Tryz.laysST Tryz.extraST B b s.data.toList w h hB).mono fun e w' ⟨h1, _, h3, _⟩ => ⟨h1, h3⟩
/-! ### runs_Put: function 33 (a contract of the session's own) -/
def runs_Put.l0 : Nat → List S66 → ByteArray → Int → Option ByteArray
  | 0, _, _, _ => none
  | k + 1, l0, s, i => if i < (l0.length : Int) then (if 0 ≤ i then ((vint_Put.f (rd_T66 l0 i).f0).bind fun x => ((vint_Put.f (rd_T66 l0 i).f2).bind fun y => if s.size + (x.size + y.size) ≤ 100000000000000 then runs_Put.l0 k l0 (s ++ x ++ y) (wrap64 (i + 1)) else none)) else none) else some s
def runs_Put.f (k : Nat) (l0 : List S66) : Option (ByteArray × Int) := (runs_count.f k l0).bind fun t => if t.2 = true then ((runs_Put.l0 k l0 ByteArray.empty 0).bind fun s => some (s, 0)) else some (ByteArray.empty, 1)
theorem runs_Put.l0_succ (k) (a0) (a1) (a2) : type_of% (@runs_Put.l0.eq_2 a0 a1 a2 k) := runs_Put.l0.eq_2 a0 a1 a2 k
set_option maxHeartbeats 8000000 in
set_option maxRecDepth 100000 in
theorem runs_Put.calls (k : Nat) (A0 : Option Addr) (c0 : Nat) (l0 : List S66) (r1 : ByteArray) (r2 : Int) (w : World) (hr0 : Kd.C k66 w A0 l0.length l0) (hc0 : l0.length ≤ c0) (h : runs_Put.f k l0 = some (r1, r2)) :
    Calls Tryz.prog 33 #[.slice A0 l0.length c0] w fun e w' => e = .returned (.tuple #[.string r1, .int .i64 r2]) ∧ Below w.heap.size w w' := by
 have hu := Tryz.underlying66
 have HR0 := Aside0.mk hr0
 have HC0 := Aside0.mk hc0
 clear hr0 hc0
 have HB := Aside0.mk (Below.refl w.heap.size w)
 obtain ⟨⟨t1, t⟩, A0_, H⟩ := Option.bind_eq_some_iff.mp h
 clear h
 have H0 := Aside0.mk A0_
 clear A0_
 cases t with
 | false =>
   simp only [Bool.false_eq_true, if_false, Option.some.injEq, Prod.mk.injEq] at H
   obtain ⟨rfl, rfl⟩ := H
   go_enter Tryz.func33, Tryz.ntmps33
   go_wp2_with (go_at_call 61; (with_reducible refine (runs_count.calls k _ _ l0 t1 false _ ?s1 ?s2 H0.out).mono ?_); (case s1 => exact Kd.C_below HR0.out HB.out); (case s2 => exact HC0.out); rintro e w1 ⟨rfl, hb⟩; replace HB := bsa HB hb; clear hb)
   go_ret2
   exact ⟨rfl, HB.out⟩
 | true =>
   rw [if_pos rfl] at H
   obtain ⟨s9, A2_, H⟩ := Option.bind_eq_some_iff.mp H
   simp only [Option.some.injEq, Prod.mk.injEq] at H
   obtain ⟨rfl, rfl⟩ := H
   have H' := Aside0.mk A2_
   clear A2_
   go_enter Tryz.func33, Tryz.ntmps33
   go_wp2_with (first | (go_at_call 61; (with_reducible refine (runs_count.calls k _ _ l0 t1 true _ ?s1 ?s2 H0.out).mono ?_); (case s1 => exact Kd.C_below HR0.out HB.out); (case s2 => exact HC0.out); rintro e w1 ⟨rfl, hb⟩; replace HB := bsa HB hb; clear hb) | ((with_reducible refine gate_dst (N := 6) rfl ?_); refine box_event ?hg (N := 6) ?hd (cs := #[.pointer none, .slice none 0 0]) (t := 87) ?hr ?_; (case hd => rfl); (case hg => rfl); (case hr => (go_simp; done)); intro gb hg w2 hbox hb; have HD := Aside0.mk (Bld.fresh (bz HB.out hg) hbox); replace HB := bsa HB hb; clear hb hbox hg))
   go_loopg [18] k (fun kq v18 w' => ∃ (i : Int) (s : ByteArray), v18 = .int .i64 i ∧ Aside0 (runs_Put.l0 kq l0 s i = some s9) ∧ Aside0 (kq ≤ k) ∧ Aside0 (Bld w.heap.size gb s w') ∧ Aside0 (Below w.heap.size w w'))
   case atStart => exact ⟨0, _, (by rfl), H', ⟨Nat.le_refl _⟩, HD, HB⟩
   case round =>
     clear H' HD HB
     obtain ⟨i, s, rfl, HA, HK1, HD, HB⟩ := hrel
     cases gk with
     | zero => exact absurd HA.out (by simp [runs_Put.l0])
     | succ k1 =>
       have H := HA.out
       clear HA
       rw [runs_Put.l0_succ] at H
       replace H := ifd H
       rcases H with ⟨-, c3b0, H⟩ | ⟨-, c3b0, H⟩
       ·replace H := ifn H
        obtain ⟨-, c4b0, H⟩ := H
        obtain ⟨x, A3_, H⟩ := Option.bind_eq_some_iff.mp H
        have H3 := Aside0.mk A3_
        obtain ⟨y, A4_, H⟩ := Option.bind_eq_some_iff.mp H
        have H4 := Aside0.mk A4_
        clear A3_ A4_
        by_cases q1 : s.size + (x.size + y.size) ≤ 100000000000000
        ·rw [if_pos q1] at H
         have LM := Aside0.mk q1
         clear q1
         have H' := Aside0.mk H
         clear H
         have p2 : 0 ≤ (i : Int) := ad
         have q2 : i < (l0.length : Int) := ad
         obtain ⟨ad, e2, hx0, hx1, hx2⟩ := at_T66 HR0.out i p2 q2
         cases e2
         replace hx0 := cb HB.out.cell hx0
         replace hx1 := cb HB.out.cell hx1
         replace hx2 := cb HB.out.cell hx2
         replace p2 := eq_true p2
         replace q2 := eq_true q2
         go_upto_region 8 with (((with_reducible refine gate_dst (N := 8) rfl ?_); refine box_event ?hg (N := 8) ?hd (cs := #[.int .i64 0, .int .i64 0, .int .i64 0]) (t := 66) ?hr ?_; (case hd => rfl); (case hg => rfl); (case hr => (go_simp; done)); intro gr hg w5 hbox hb; have BKr := Aside0.mk hbox; have GEr := bza HB hg; have NBr : gr ≠ gb := (by rw [hg]; exact (Nat.ne_of_lt HD.out.lt).symm); replace HD := Aside0.mk (HD.out.below hb); replace HB := bsa HB hb; clear hb hbox hg; obtain ⟨hcz0, hcz1, hcz2, hfz0, hfz1, hfz2⟩ := b3 BKr))
         have n0_ : Aside0 (Bld w.heap.size gb s (((w5.setCell ⟨gr, 0, none⟩ (.int .i64 (rd_T66 l0 i).f0)).setCell ⟨gr, 1, none⟩ (.int .i64 (rd_T66 l0 i).f1)).setCell ⟨gr, 2, none⟩ (.int .i64 (rd_T66 l0 i).f2))) := ⟨(Bld.set (Bld.set (Bld.set HD.out (BKr.out) (by decide) (by decide) 0 _) (blk_put (cs := #[.int .i64 0, .int .i64 0, .int .i64 0]) (BKr.out) 0 _ rfl) (by decide) (by decide) 1 _) (blk_put (cs := #[.int .i64 (rd_T66 l0 i).f0, .int .i64 0, .int .i64 0]) (blk_put (cs := #[.int .i64 0, .int .i64 0, .int .i64 0]) (BKr.out) 0 _ rfl) 1 _ rfl) (by decide) (by decide) 2 _)⟩
         have n1_ : Aside0 ((((w5.setCell ⟨gr, 0, none⟩ (.int .i64 (rd_T66 l0 i).f0)).setCell ⟨gr, 1, none⟩ (.int .i64 (rd_T66 l0 i).f1)).setCell ⟨gr, 2, none⟩ (.int .i64 (rd_T66 l0 i).f2)).heap[gr]? = some (.cells #[.int .i64 (rd_T66 l0 i).f0, .int .i64 (rd_T66 l0 i).f1, .int .i64 (rd_T66 l0 i).f2] 66 (0, 0))) := ⟨by refine blk_put (cs := #[.int .i64 (rd_T66 l0 i).f0, .int .i64 (rd_T66 l0 i).f1, .int .i64 0]) ?_ 2 _ rfl; refine blk_put (cs := #[.int .i64 (rd_T66 l0 i).f0, .int .i64 0, .int .i64 0]) ?_ 1 _ rfl; refine blk_put (cs := #[.int .i64 0, .int .i64 0, .int .i64 0]) ?_ 0 _ rfl; exact BKr.out⟩
         have n2_ : Aside0 (Below w.heap.size w (((w5.setCell ⟨gr, 0, none⟩ (.int .i64 (rd_T66 l0 i).f0)).setCell ⟨gr, 1, none⟩ (.int .i64 (rd_T66 l0 i).f1)).setCell ⟨gr, 2, none⟩ (.int .i64 (rd_T66 l0 i).f2))) := ⟨(below_set (below_set (below_set HB.out GEr.out) GEr.out) GEr.out)⟩
         clear HD BKr HB
         generalize (((w5.setCell ⟨gr, 0, none⟩ (.int .i64 (rd_T66 l0 i).f0)).setCell ⟨gr, 1, none⟩ (.int .i64 (rd_T66 l0 i).f1)).setCell ⟨gr, 2, none⟩ (.int .i64 (rd_T66 l0 i).f2)) = w6 at n0_ n1_ n2_ ⊢
         have HD := n0_
         have BKr := n1_
         have HB := n2_
         clear n0_ n1_ n2_
         obtain ⟨hc0_w6, hc1_w6, hc2_w6, -, -, -⟩ := b3 BKr
         go_wp2_with (first | (go_at_call 46; (with_reducible refine (vint_Put.calls (rd_T66 l0 i).f0 x _ H3.out).mono ?_); rintro e w7 ⟨rfl, hb⟩; replace HD := Aside0.mk (HD.out.below hb); replace HB := bsa HB hb; replace BKr := bba BKr hb; clear hb; obtain ⟨hc0_w7, hc1_w7, hc2_w7, -, -, -⟩ := b3 BKr) | (go_at_call 45; (with_reducible refine (strings_Builder_WriteString.calls w.heap.size gb _ x _ HD.out (by have := LM.out; omega) (below_size HB.out)).mono ?_); rintro e w8 ⟨rfl, hd, hb, hk⟩; replace BKr := Aside0.mk (kept_blk hk BKr.out NBr (by decide)); replace HD := Aside0.mk hd; replace HB := Aside0.mk (HB.out.trans hb); clear hd hb hk; obtain ⟨hc0_w8, hc1_w8, hc2_w8, -, -, -⟩ := b3 BKr) | (go_at_call 46; (with_reducible refine (vint_Put.calls (rd_T66 l0 i).f2 y _ H4.out).mono ?_); rintro e w9 ⟨rfl, hb⟩; replace HD := Aside0.mk (HD.out.below hb); replace HB := bsa HB hb; replace BKr := bba BKr hb; clear hb; obtain ⟨hc0_w9, hc1_w9, hc2_w9, -, -, -⟩ := b3 BKr) | (go_at_call 45; (with_reducible refine (strings_Builder_WriteString.calls w.heap.size gb _ y _ HD.out (by have := LM.out; rw [ByteArray.size_append]; omega) (below_size HB.out)).mono ?_); rintro e w10 ⟨rfl, hd, hb, hk⟩; replace BKr := Aside0.mk (kept_blk hk BKr.out NBr (by decide)); replace HD := Aside0.mk hd; replace HB := Aside0.mk (HB.out.trans hb); clear hd hb hk; obtain ⟨hc0_w10, hc1_w10, hc2_w10, -, -, -⟩ := b3 BKr))
         go_roundg k1
         case measure => have := HK1.out; omega
         case rel => exact ⟨wrap64 (i + 1), _, (by rfl), H', ⟨by have := HK1.out; omega⟩, HD, HB⟩
        ·rw [if_neg q1] at H
         exact absurd H (by simp)
       ·obtain rfl := Option.some.inj H
        go_wp2_with ((go_at_call 47; (with_reducible refine (strings_Builder_String.calls w.heap.size gb _ _ HD.out (below_size HB.out)).mono ?_); rintro e wS ⟨rfl, hb⟩; replace HB := Aside0.mk (HB.out.trans hb); clear hb))
        go_ret2
        exact ⟨rfl, HB.out⟩
/-! ### epoch_may: function 51 -/
def epoch_may.f (a0 : Int) : Option (Bool) := if a0 ≥ 1 then (some (decide (a0 ≤ 1099511627776))) else (some false)
set_option maxHeartbeats 8000000 in
set_option maxRecDepth 100000 in
theorem epoch_may.calls (a0 : Int) (r : Bool) (w : World) (h : epoch_may.f a0 = some r) :
  Calls Tryz.prog 51 #[.int .i64 a0] w fun e w' => e = .returned (.bool r) ∧ Drawn0 w w' := by
 have H := h
 clear h
 unfold epoch_may.f at H
 replace H := ifd H
 rcases H with ⟨-, c2b0, H⟩ | ⟨-, c2b0, H⟩
 ·obtain rfl := Option.some.inj H
  go_enter Tryz.func51, Tryz.ntmps51
  go_wp2
  go_ret
  exact ⟨by rfl, by repeat (exact Drawn0.refl _)⟩
 ·obtain rfl := Option.some.inj H
  go_enter Tryz.func51, Tryz.ntmps51
  go_wp2
  go_ret
  exact ⟨by rfl, by repeat (exact Drawn0.refl _)⟩
/-! ### epoch_good: function 34 -/
def epoch_good.l0 : Nat → Int → Int → List (S68) → Int → Int → Option (Bool)
 | 0, _, _, _, _, _ => none
 | k + 1, x1, x5, x8, x9, x10 => if x10 < x9 then (if 0 ≤ x10 then (if x10 < (x8.length : Int) then (if ((rd_T68 x8 x10).f0) ≤ x5 then (some false) else (if ((rd_T68 x8 x10).f0) ≥ x1 then (some false) else ((epoch_may.f ((rd_T68 x8 x10).f1)).bind fun t125 => (if t125 = true then (epoch_good.l0 k x1 ((rd_T68 x8 x10).f0) x8 x9 (wrap64 (x10 + 1))) else (some false))))) else (none)) else (none)) else (some true)
def epoch_good.f (k : Nat) (l0 : List (S68)) (a1 : Int) : Option (Bool) := epoch_good.l0 k a1 (-1) l0 (l0.length : Int) 0
theorem epoch_good.l0_succ (k) (a0) (a1) (a2) (a3) (a4) : type_of% (@epoch_good.l0.eq_2 a0 a1 a2 a3 a4 k) := epoch_good.l0.eq_2 a0 a1 a2 a3 a4 k
set_option maxHeartbeats 8000000 in
set_option maxRecDepth 100000 in
theorem epoch_good.calls (k : Nat) (A0 : Option Addr) (c0 : Nat) (l0 : List (S68)) (a1 : Int) (r : Bool) (w : World) (hr0 : Kd.C k68 w A0 l0.length l0) (hc0 : l0.length ≤ c0) (h : epoch_good.f k l0 a1 = some r) :
  Calls Tryz.prog 34 #[.slice A0 l0.length c0, .int .i64 a1] w fun e w' => e = .returned (.bool r) ∧ Below w.heap.size w w' := by
 have hu68 := Tryz.underlying68
 have HR0 := Aside0.mk hr0
 have HC0 := Aside0.mk hc0
 clear hr0 hc0
 have HB := Aside0.mk (Below.refl w.heap.size w)
 have H := h
 clear h
 unfold epoch_good.f at H
 have H' := Aside0.mk H
 clear H
 go_enter Tryz.func34, Tryz.ntmps34
 go_wp2
 go_loopg [5, 10] k (fun kq v5 v10 w' => ∃ (x5_1 : Int) (x10_1 : Int), v5 = .int .i64 x5_1 ∧ v10 = .int .i64 x10_1 ∧ Aside0 (epoch_good.l0 kq a1 x5_1 l0 (l0.length : Int) x10_1 = some r) ∧ Aside0 (kq ≤ k) ∧ Aside0 (Below w.heap.size w w'))
 case atStart => exact ⟨((-1)), (0), (by rfl), (by rfl), H', ⟨Nat.le_refl _⟩, ⟨bh HB.out⟩⟩
 case round =>
  clear H'
  obtain ⟨x5_1, x10_1, rfl, rfl, HA, HK1, HB⟩ := hrel
  cases gk with
  | zero => exact absurd HA.out (by simp [epoch_good.l0])
  | succ k1 =>
   have H := HA.out
   clear HA
   simp only [epoch_good.l0] at H
   replace H := ifd H
   rcases H with ⟨-, c3b0, H⟩ | ⟨-, c3b0, H⟩
   ·replace H := ifn H
    obtain ⟨-, c4b0, H⟩ := H
    replace H := ifn H
    obtain ⟨-, c5b0, H⟩ := H
    replace H := ifd H
    rcases H with ⟨-, c6b0, H⟩ | ⟨-, c6b0, H⟩
    ·obtain rfl := Option.some.inj H
     have p123 : 0 ≤ (x10_1 : Int) := ad
     have q123 : x10_1 < (l0.length : Int) := ad
     obtain ⟨ad123, e123, hx123_0, hx123_1⟩ := at_T68 HR0.out x10_1 p123 q123
     cases e123
     replace hx123_0 := cb HB.out.cell hx123_0
     replace hx123_1 := cb HB.out.cell hx123_1
     replace p123 := eq_true p123
     replace q123 := eq_true q123
     go_wp2_with (((with_reducible refine gate_dst (N := 7) rfl ?_); refine boxE HB 7 68 #[.int .i64 0, .int .i64 0] ?_; clear HB; intro gb124 w7 BK124 GW124 hg hb HB; have GE124 := GW124; clear hb hg; obtain ⟨hcz8_0, hcz8_1, hfz8_0, hfz8_1⟩ := b2 BK124))
     go_ret
     exact ⟨er, bh HB.out⟩
    ·replace H := ifd H
     rcases H with ⟨-, c9b0, H⟩ | ⟨-, c9b0, H⟩
     ·obtain rfl := Option.some.inj H
      have p123 : 0 ≤ (x10_1 : Int) := ad
      have q123 : x10_1 < (l0.length : Int) := ad
      obtain ⟨ad123, e123, hx123_0, hx123_1⟩ := at_T68 HR0.out x10_1 p123 q123
      cases e123
      replace hx123_0 := cb HB.out.cell hx123_0
      replace hx123_1 := cb HB.out.cell hx123_1
      replace p123 := eq_true p123
      replace q123 := eq_true q123
      go_wp2_with (((with_reducible refine gate_dst (N := 7) rfl ?_); refine boxE HB 7 68 #[.int .i64 0, .int .i64 0] ?_; clear HB; intro gb124 w10 BK124 GW124 hg hb HB; have GE124 := GW124; clear hb hg; obtain ⟨hcz11_0, hcz11_1, hfz11_0, hfz11_1⟩ := b2 BK124))
      go_ret
      exact ⟨er, bh HB.out⟩
     ·replace H := bd H
      obtain ⟨t125, A12, H⟩ := H
      replace H := ifb H
      rcases H with ⟨rfl, H⟩ | ⟨rfl, H⟩
      ·have H' := Aside0.mk H
       clear H
       have p123 : 0 ≤ (x10_1 : Int) := ad
       have q123 : x10_1 < (l0.length : Int) := ad
       obtain ⟨ad123, e123, hx123_0, hx123_1⟩ := at_T68 HR0.out x10_1 p123 q123
       cases e123
       replace hx123_0 := cb HB.out.cell hx123_0
       replace hx123_1 := cb HB.out.cell hx123_1
       replace p123 := eq_true p123
       replace q123 := eq_true q123
       go_wp2_with (first | ((with_reducible refine gate_dst (N := 7) rfl ?_); refine boxE HB 7 68 #[.int .i64 0, .int .i64 0] ?_; clear HB; intro gb124 w14 BK124 GW124 hg hb HB; have GE124 := GW124; clear hb hg; obtain ⟨hcz15_0, hcz15_1, hfz15_0, hfz15_1⟩ := b2 BK124) | (go_at_call 51; (with_reducible refine (epoch_may.calls ((rd_T68 l0 x10_1).f1) true _ A12.out).mono ?_); rintro e w' ⟨rfl, ⟨nd, rfl⟩⟩; clear A12))
       go_roundg k1
       case measure => have := HK1.out; omega
       case rel => exact ⟨((rd_T68 l0 x10_1).f0), (wrap64 (x10_1 + 1)), (by rfl), (by rfl), H', ⟨by have := HK1.out; omega⟩, ⟨bh HB.out⟩⟩
      ·obtain rfl := Option.some.inj H
       have p123 : 0 ≤ (x10_1 : Int) := ad
       have q123 : x10_1 < (l0.length : Int) := ad
       obtain ⟨ad123, e123, hx123_0, hx123_1⟩ := at_T68 HR0.out x10_1 p123 q123
       cases e123
       replace hx123_0 := cb HB.out.cell hx123_0
       replace hx123_1 := cb HB.out.cell hx123_1
       replace p123 := eq_true p123
       replace q123 := eq_true q123
       go_wp2_with (first | ((with_reducible refine gate_dst (N := 7) rfl ?_); refine boxE HB 7 68 #[.int .i64 0, .int .i64 0] ?_; clear HB; intro gb124 w16 BK124 GW124 hg hb HB; have GE124 := GW124; clear hb hg; obtain ⟨hcz17_0, hcz17_1, hfz17_0, hfz17_1⟩ := b2 BK124) | (go_at_call 51; (with_reducible refine (epoch_may.calls ((rd_T68 l0 x10_1).f1) false _ A12.out).mono ?_); rintro e w' ⟨rfl, ⟨nd, rfl⟩⟩; clear A12))
       go_ret
       exact ⟨er, bh HB.out⟩
   ·obtain rfl := Option.some.inj H
    go_wp2
    go_ret
    exact ⟨er, bh HB.out⟩
/-! ### span_May: function 62 -/
def span_May.l0 : Nat → Int → List (S70) → Int → Int → Option (Bool)
 | 0, _, _, _, _ => none
 | k + 1, x3, x6, x7, x8 => if x8 < x7 then (if 0 ≤ x8 then (if x8 < (x6.length : Int) then (if ((rd_T70 x6 x8).f0) ≤ x3 then (some false) else (if ((rd_T70 x6 x8).f0) ≥ ((rd_T70 x6 x8).f1) then (some false) else (if ((rd_T70 x6 x8).f1) > 65536 then (some false) else (span_May.l0 k ((rd_T70 x6 x8).f1) x6 x7 (wrap64 (x8 + 1)))))) else (none)) else (none)) else (some true)
def span_May.f (k : Nat) (l0 : List (S70)) : Option (Bool) := span_May.l0 k (-1) l0 (l0.length : Int) 0
theorem span_May.l0_succ (k) (a0) (a1) (a2) (a3) : type_of% (@span_May.l0.eq_2 a0 a1 a2 a3 k) := span_May.l0.eq_2 a0 a1 a2 a3 k
set_option maxHeartbeats 8000000 in
set_option maxRecDepth 100000 in
theorem span_May.calls (k : Nat) (A0 : Option Addr) (c0 : Nat) (l0 : List (S70)) (r : Bool) (w : World) (hr0 : Kd.C k70 w A0 l0.length l0) (hc0 : l0.length ≤ c0) (h : span_May.f k l0 = some r) :
  Calls Tryz.prog 62 #[.slice A0 l0.length c0] w fun e w' => e = .returned (.bool r) ∧ Below w.heap.size w w' := by
 have hu70 := Tryz.underlying70
 have HR0 := Aside0.mk hr0
 have HC0 := Aside0.mk hc0
 clear hr0 hc0
 have HB := Aside0.mk (Below.refl w.heap.size w)
 have H := h
 clear h
 unfold span_May.f at H
 have H' := Aside0.mk H
 clear H
 go_enter Tryz.func62, Tryz.ntmps62
 go_wp2
 go_loopg [3, 8] k (fun kq v3 v8 w' => ∃ (x3_1 : Int) (x8_1 : Int), v3 = .int .i64 x3_1 ∧ v8 = .int .i64 x8_1 ∧ Aside0 (span_May.l0 kq x3_1 l0 (l0.length : Int) x8_1 = some r) ∧ Aside0 (kq ≤ k) ∧ Aside0 (Below w.heap.size w w'))
 case atStart => exact ⟨((-1)), (0), (by rfl), (by rfl), H', ⟨Nat.le_refl _⟩, ⟨bh HB.out⟩⟩
 case round =>
  clear H'
  obtain ⟨x3_1, x8_1, rfl, rfl, HA, HK1, HB⟩ := hrel
  cases gk with
  | zero => exact absurd HA.out (by simp [span_May.l0])
  | succ k1 =>
   have H := HA.out
   clear HA
   simp only [span_May.l0] at H
   replace H := ifd H
   rcases H with ⟨-, c2b0, H⟩ | ⟨-, c2b0, H⟩
   ·replace H := ifn H
    obtain ⟨-, c3b0, H⟩ := H
    replace H := ifn H
    obtain ⟨-, c4b0, H⟩ := H
    replace H := ifd H
    rcases H with ⟨-, c5b0, H⟩ | ⟨-, c5b0, H⟩
    ·obtain rfl := Option.some.inj H
     have p126 : 0 ≤ (x8_1 : Int) := ad
     have q126 : x8_1 < (l0.length : Int) := ad
     obtain ⟨ad126, e126, hx126_0, hx126_1⟩ := at_T70 HR0.out x8_1 p126 q126
     cases e126
     replace hx126_0 := cb HB.out.cell hx126_0
     replace hx126_1 := cb HB.out.cell hx126_1
     replace p126 := eq_true p126
     replace q126 := eq_true q126
     go_wp2_with (((with_reducible refine gate_dst (N := 5) rfl ?_); refine boxE HB 5 70 #[.int .i64 0, .int .i64 0] ?_; clear HB; intro gb127 w6 BK127 GW127 hg hb HB; have GE127 := GW127; clear hb hg; obtain ⟨hcz7_0, hcz7_1, hfz7_0, hfz7_1⟩ := b2 BK127))
     go_ret
     exact ⟨er, bh HB.out⟩
    ·replace H := ifd H
     rcases H with ⟨-, c8b0, H⟩ | ⟨-, c8b0, H⟩
     ·obtain rfl := Option.some.inj H
      have p126 : 0 ≤ (x8_1 : Int) := ad
      have q126 : x8_1 < (l0.length : Int) := ad
      obtain ⟨ad126, e126, hx126_0, hx126_1⟩ := at_T70 HR0.out x8_1 p126 q126
      cases e126
      replace hx126_0 := cb HB.out.cell hx126_0
      replace hx126_1 := cb HB.out.cell hx126_1
      replace p126 := eq_true p126
      replace q126 := eq_true q126
      go_wp2_with (((with_reducible refine gate_dst (N := 5) rfl ?_); refine boxE HB 5 70 #[.int .i64 0, .int .i64 0] ?_; clear HB; intro gb127 w9 BK127 GW127 hg hb HB; have GE127 := GW127; clear hb hg; obtain ⟨hcz10_0, hcz10_1, hfz10_0, hfz10_1⟩ := b2 BK127))
      go_ret
      exact ⟨er, bh HB.out⟩
     ·replace H := ifd H
      rcases H with ⟨-, c11b0, H⟩ | ⟨-, c11b0, H⟩
      ·obtain rfl := Option.some.inj H
       have p126 : 0 ≤ (x8_1 : Int) := ad
       have q126 : x8_1 < (l0.length : Int) := ad
       obtain ⟨ad126, e126, hx126_0, hx126_1⟩ := at_T70 HR0.out x8_1 p126 q126
       cases e126
       replace hx126_0 := cb HB.out.cell hx126_0
       replace hx126_1 := cb HB.out.cell hx126_1
       replace p126 := eq_true p126
       replace q126 := eq_true q126
       go_wp2_with (((with_reducible refine gate_dst (N := 5) rfl ?_); refine boxE HB 5 70 #[.int .i64 0, .int .i64 0] ?_; clear HB; intro gb127 w12 BK127 GW127 hg hb HB; have GE127 := GW127; clear hb hg; obtain ⟨hcz13_0, hcz13_1, hfz13_0, hfz13_1⟩ := b2 BK127))
       go_ret
       exact ⟨er, bh HB.out⟩
      ·have H' := Aside0.mk H
       clear H
       have p126 : 0 ≤ (x8_1 : Int) := ad
       have q126 : x8_1 < (l0.length : Int) := ad
       obtain ⟨ad126, e126, hx126_0, hx126_1⟩ := at_T70 HR0.out x8_1 p126 q126
       cases e126
       replace hx126_0 := cb HB.out.cell hx126_0
       replace hx126_1 := cb HB.out.cell hx126_1
       replace p126 := eq_true p126
       replace q126 := eq_true q126
       go_wp2_with (((with_reducible refine gate_dst (N := 5) rfl ?_); refine boxE HB 5 70 #[.int .i64 0, .int .i64 0] ?_; clear HB; intro gb127 w14 BK127 GW127 hg hb HB; have GE127 := GW127; clear hb hg; obtain ⟨hcz15_0, hcz15_1, hfz15_0, hfz15_1⟩ := b2 BK127))
       go_roundg k1
       case measure => have := HK1.out; omega
       case rel => exact ⟨((rd_T70 l0 x8_1).f1), (wrap64 (x8_1 + 1)), (by rfl), (by rfl), H', ⟨by have := HK1.out; omega⟩, ⟨bh HB.out⟩⟩
   ·obtain rfl := Option.some.inj H
    go_wp2
    go_ret
    exact ⟨er, bh HB.out⟩
/-! ### span_Count: function 89 -/
def span_Count.l0 : Nat → Int → List (S70) → Int → Int → Option (Int)
 | 0, _, _, _, _ => none
 | k + 1, x3, x8, x9, x10 => if x10 < x9 then (if 0 ≤ x10 then (if x10 < (x8.length : Int) then (span_Count.l0 k (wrap64 (x3 + (wrap64 (((rd_T70 x8 x10).f1) - ((rd_T70 x8 x10).f0))))) x8 x9 (wrap64 (x10 + 1))) else (none)) else (none)) else (some x3)
def span_Count.f (k : Nat) (l0 : List (S70)) : Option (Int) := (span_May.f k l0).bind fun t128 => (if t128 = true then (span_Count.l0 k 0 l0 (l0.length : Int) 0) else (some 0))
theorem span_Count.l0_succ (k) (a0) (a1) (a2) (a3) : type_of% (@span_Count.l0.eq_2 a0 a1 a2 a3 k) := span_Count.l0.eq_2 a0 a1 a2 a3 k
set_option maxHeartbeats 8000000 in
set_option maxRecDepth 100000 in
theorem span_Count.calls (k : Nat) (A0 : Option Addr) (c0 : Nat) (l0 : List (S70)) (r : Int) (w : World) (hr0 : Kd.C k70 w A0 l0.length l0) (hc0 : l0.length ≤ c0) (h : span_Count.f k l0 = some r) :
  Calls Tryz.prog 89 #[.slice A0 l0.length c0] w fun e w' => e = .returned (.int .i64 r) ∧ Below w.heap.size w w' := by
 have hu70 := Tryz.underlying70
 have HR0 := Aside0.mk hr0
 have HC0 := Aside0.mk hc0
 clear hr0 hc0
 have HB := Aside0.mk (Below.refl w.heap.size w)
 have H := h
 clear h
 unfold span_Count.f at H
 replace H := bd H
 obtain ⟨t128, A2, H⟩ := H
 replace H := ifb H
 rcases H with ⟨rfl, H⟩ | ⟨rfl, H⟩
 ·have H' := Aside0.mk H
  clear H
  go_enter Tryz.func89, Tryz.ntmps89
  go_wp2_with (((with_reducible refine gate_callee (f := 62) rfl ?_); refine gL 7 Tryz.func62 #[.slice A0 l0.length c0] ?_; (with_reducible refine (span_May.calls k _ _ l0 true _ ?side1 ?side2 A2.out).mono ?_); (case side1 => exact cx HR0.out); (case side2 => exact HC0.out); rintro e w4 ⟨rfl, hb⟩; refine ⟨_, rfl, ?_⟩; replace HB := bsa HB hb; clear hb))
  go_loopg [3, 10] k (fun kq v3 v10 w' => ∃ (x3_1 : Int) (x10_1 : Int), v3 = .int .i64 x3_1 ∧ v10 = .int .i64 x10_1 ∧ Aside0 (span_Count.l0 kq x3_1 l0 (l0.length : Int) x10_1 = some r) ∧ Aside0 (kq ≤ k) ∧ Aside0 (Below w.heap.size w w'))
  case atStart => exact ⟨(0), (0), (by rfl), (by rfl), H', ⟨Nat.le_refl _⟩, ⟨bh HB.out⟩⟩
  case round =>
   clear H'
   obtain ⟨x3_1, x10_1, rfl, rfl, HA, HK1, HB⟩ := hrel
   cases gk with
   | zero => exact absurd HA.out (by simp [span_Count.l0])
   | succ k1 =>
    have H := HA.out
    clear HA
    simp only [span_Count.l0] at H
    replace H := ifd H
    rcases H with ⟨-, c5b0, H⟩ | ⟨-, c5b0, H⟩
    ·replace H := ifn H
     obtain ⟨-, c6b0, H⟩ := H
     replace H := ifn H
     obtain ⟨-, c7b0, H⟩ := H
     have H' := Aside0.mk H
     clear H
     have p129 : 0 ≤ (x10_1 : Int) := ad
     have q129 : x10_1 < (l0.length : Int) := ad
     obtain ⟨ad129, e129, hx129_0, hx129_1⟩ := at_T70 HR0.out x10_1 p129 q129
     cases e129
     replace hx129_0 := cb HB.out.cell hx129_0
     replace hx129_1 := cb HB.out.cell hx129_1
     replace p129 := eq_true p129
     replace q129 := eq_true q129
     go_wp2_with (((with_reducible refine gate_dst (N := 5) rfl ?_); refine boxE HB 5 70 #[.int .i64 0, .int .i64 0] ?_; clear HB; intro gb130 w8 BK130 GW130 hg hb HB; have GE130 := GW130; clear hb hg; obtain ⟨hcz9_0, hcz9_1, hfz9_0, hfz9_1⟩ := b2 BK130))
     go_roundg k1
     case measure => have := HK1.out; omega
     case rel => exact ⟨(wrap64 (x3_1 + (wrap64 (((rd_T70 l0 x10_1).f1) - ((rd_T70 l0 x10_1).f0))))), (wrap64 (x10_1 + 1)), (by rfl), (by rfl), H', ⟨by have := HK1.out; omega⟩, ⟨bh HB.out⟩⟩
    ·obtain rfl := Option.some.inj H
     go_wp2
     go_ret
     exact ⟨er, bh HB.out⟩
 ·obtain rfl := Option.some.inj H
  go_enter Tryz.func89, Tryz.ntmps89
  go_wp2_with (((with_reducible refine gate_callee (f := 62) rfl ?_); refine gL 7 Tryz.func62 #[.slice A0 l0.length c0] ?_; (with_reducible refine (span_May.calls k _ _ l0 false _ ?side1 ?side2 A2.out).mono ?_); (case side1 => exact cx HR0.out); (case side2 => exact HC0.out); rintro e w10 ⟨rfl, hb⟩; refine ⟨_, rfl, ?_⟩; replace HB := bsa HB hb; clear hb))
  go_ret
  exact ⟨er, bh HB.out⟩
/-! ### poslist_costs: function 63 -/
def poslist_costs.f (k : Nat) (l0 : List (S70)) : Option (Int × Int × Int × Int) := if (wrap64 ((l0.length : Int) - 1)) ≥ 0 then (if 0 ≤ (wrap64 ((l0.length : Int) - 1)) then (if (wrap64 ((l0.length : Int) - 1)) < (l0.length : Int) then ((span_Count.f k l0).bind fun t134 => (some (0, wrap64 (8 * (l0.length : Int)), wrap64 (8 * (wrap64 ((wrap64 (Int.tdiv (wrap64 (((rd_T70 l0 (wrap64 ((l0.length : Int) - 1))).f1) - 1)) 64)) + 1))), wrap64 (2 * t134)))) else (none)) else (none)) else ((span_Count.f k l0).bind fun t135 => (some (0, wrap64 (8 * (l0.length : Int)), 0, wrap64 (2 * t135))))
set_option maxHeartbeats 8000000 in
set_option maxRecDepth 100000 in
theorem poslist_costs.calls (k : Nat) (A0 : Option Addr) (c0 : Nat) (l0 : List (S70)) (r1 : Int) (r2 : Int) (r3 : Int) (r4 : Int) (w : World) (hr0 : Kd.C k70 w A0 l0.length l0) (hc0 : l0.length ≤ c0) (h : poslist_costs.f k l0 = some (r1, r2, r3, r4)) :
  Calls Tryz.prog 63 #[.slice A0 l0.length c0] w fun e w' => e = .returned (.agg #[.int .i64 r1, .int .i64 r2, .int .i64 r3, .int .i64 r4]) ∧ Below w.heap.size w w' := by
 have hu110 := Tryz.underlying110
 have HR0 := Aside0.mk hr0
 have HC0 := Aside0.mk hc0
 clear hr0 hc0
 have HB := Aside0.mk (Below.refl w.heap.size w)
 have H := h
 clear h
 unfold poslist_costs.f at H
 replace H := ifd H
 rcases H with ⟨-, c2b0, H⟩ | ⟨-, c2b0, H⟩
 ·obtain ⟨ji3, hji3⟩ : ∃ j_ : Int, (wrap64 ((l0.length : Int) - 1)) = j_ := ⟨_, rfl⟩
  replace H : (if 0 ≤ (ji3) then (if (ji3) < (l0.length : Int) then ((span_Count.f k l0).bind fun t134 => (some (0, wrap64 (8 * (l0.length : Int)), wrap64 (8 * (wrap64 ((wrap64 (Int.tdiv (wrap64 (((rd_T70 l0 (ji3)).f1) - 1)) 64)) + 1))), wrap64 (2 * t134)))) else (none)) else (none)) = some (r1, r2, r3, r4) := by (rw [hji3] at H; exact H)
  (rw [hji3] at c2b0)
  have hji3w : (IntKind.i64.wrap ((l0.length : Int) - 1)) = ji3 := (i64_w _).trans hji3
  replace H := ifn H
  obtain ⟨-, c4b0, H⟩ := H
  replace H := ifn H
  obtain ⟨-, c5b0, H⟩ := H
  replace H := bd H
  obtain ⟨t134, A6, H⟩ := H
  simp only [Option.some.injEq, Prod.mk.injEq] at H
  obtain ⟨rfl, rfl, rfl, rfl⟩ := H
  go_enter Tryz.func63, Tryz.ntmps63
  go_wp2_with (first | ((with_reducible refine gate_dst (N := 2) rfl ?_); refine boxE HB 2 110 #[.int .i64 0, .int .i64 0, .int .i64 0, .int .i64 0] ?_; clear HB; intro gb131 w7 BK131 GW131 hg hb HB; have GE131 := GW131; clear hb hg) | ((with_reducible refine gate_dst (N := 3) rfl ?_); refine boxE HB 3 110 #[.int .i64 0, .int .i64 0, .int .i64 0, .int .i64 0] ?_; clear HB; intro gb132 w8 BK132 GW132 hg hb HB; have GE132 := GW132; have NB131_132 := bna BK131 hg; have NB132_131 := bma BK131 hg; replace BK131 := bba BK131 hb; clear hb hg; have hnb9 := NB132_131.out; have hnc9 := NB131_132.out; obtain ⟨hcz10_0, hcz10_1, hcz10_2, hcz10_3, hfz10_0, hfz10_1, hfz10_2, hfz10_3⟩ := b4 BK132; have p133 : 0 ≤ ((ji3) : Int) := ad; have q133 : (ji3) < (l0.length : Int) := ad; obtain ⟨ad133, e133, hx133_0, hx133_1⟩ := at_T70 HR0.out (ji3) p133 q133; cases e133; have hn133_0 : ad133.block ≠ gb132 := Nat.ne_of_lt (Nat.lt_of_lt_of_le (by have := World.block_lt_of_cell? _ _ hx133_0; rwa [add_block] at this) GW132.out); replace hx133_0 := cb HB.out.cell hx133_0; replace hx133_1 := cb HB.out.cell hx133_1; replace hx133_0 := (cell_far (p := ⟨gb132, 1, none⟩) (by (rw [add_block]; exact hn133_0)) (.int .i64 (wrap64 (8 * (l0.length : Int))))).trans hx133_0; replace hx133_1 := (cell_far (p := ⟨gb132, 1, none⟩) (by (rw [add_block]; exact hn133_0)) (.int .i64 (wrap64 (8 * (l0.length : Int))))).trans hx133_1; clear hn133_0; replace p133 := eq_true p133; replace q133 := eq_true q133) | ((with_reducible refine gate_callee (f := 89) rfl ?_); refine gL 25 Tryz.func89 #[.slice (some ad133) l0.length c0] ?_; (with_reducible refine (span_Count.calls k _ _ l0 t134 _ ?side1 ?side2 A6.out).mono ?_); (case side1 => exact Kd.C_below HR0.out (bh HB.out)); (case side2 => exact HC0.out); rintro e w11 ⟨rfl, hb⟩; refine ⟨_, rfl, ?_⟩; replace BK131 := Aside0.mk (blk_below (g := gb131) (o := .cells #[.int .i64 0, .int .i64 0, .int .i64 0, .int .i64 0] 110 (0, 0)) (bx BK131.out) hb); replace BK132 := Aside0.mk (blk_below (g := gb132) (o := .cells #[.int .i64 0, .int .i64 (wrap64 (8 * (l0.length : Int))), .int .i64 (wrap64 (8 * (wrap64 ((wrap64 (Int.tdiv (wrap64 (((rd_T70 l0 (ji3)).f1) - 1)) 64)) + 1)))), .int .i64 0] 110 (0, 0)) (by refine blk_put (cs := #[.int .i64 0, .int .i64 (wrap64 (8 * (l0.length : Int))), .int .i64 0, .int .i64 0]) ?_ 2 _ rfl; refine blk_put (cs := #[.int .i64 0, .int .i64 0, .int .i64 0, .int .i64 0]) ?_ 1 _ rfl; exact BK132.out) hb); replace HB := bsa HB hb; clear hb; obtain ⟨hcz12_0, hcz12_1, hcz12_2, hcz12_3, hfz12_0, hfz12_1, hfz12_2, hfz12_3⟩ := b4 BK132; obtain ⟨hcz13_0, hcz13_1, hcz13_2, hcz13_3, hfz13_0, hfz13_1, hfz13_2, hfz13_3⟩ := b4 BK131) | ((with_reducible refine gate_store (t := 110) (p := 2) rfl ?_); refine stE 110 2 (((((w11.setCell ⟨gb132, 3, none⟩ (.int .i64 (wrap64 (2 * t134)))).setCell ⟨gb131, 0, none⟩ (.int .i64 0)).setCell ⟨gb131, 1, none⟩ (.int .i64 (wrap64 (8 * (l0.length : Int))))).setCell ⟨gb131, 2, none⟩ (.int .i64 (wrap64 (8 * (wrap64 ((wrap64 (Int.tdiv (wrap64 (((rd_T70 l0 (ji3)).f1) - 1)) 64)) + 1)))))).setCell ⟨gb131, 3, none⟩ (.int .i64 (wrap64 (2 * t134)))) ?_; intro w14 hw; replace BK131 := sps #[.int .i64 0, .int .i64 (wrap64 (8 * (l0.length : Int))), .int .i64 (wrap64 (8 * (wrap64 ((wrap64 (Int.tdiv (wrap64 (((rd_T70 l0 (ji3)).f1) - 1)) 64)) + 1)))), .int .i64 (wrap64 (2 * t134))] BK131 hw (.p (.p (.p (.p (.f NB131_132 .nil))))); replace BK132 := sps #[.int .i64 0, .int .i64 (wrap64 (8 * (l0.length : Int))), .int .i64 (wrap64 (8 * (wrap64 ((wrap64 (Int.tdiv (wrap64 (((rd_T70 l0 (ji3)).f1) - 1)) 64)) + 1)))), .int .i64 (wrap64 (2 * t134))] BK132 hw (.f NB132_131 (.f NB132_131 (.f NB132_131 (.f NB132_131 (.p .nil))))); replace HB := bhw HB hw; clear hw))
  refine bodyPost_ret (results_cell_row rfl _ _ gb131 110 #[.int .i64 0, .int .i64 (wrap64 (8 * (l0.length : Int))), .int .i64 (wrap64 (8 * (wrap64 ((wrap64 (Int.tdiv (wrap64 (((rd_T70 l0 (ji3)).f1) - 1)) 64)) + 1)))), .int .i64 (wrap64 (2 * t134))] (0, 0) _ rfl (bx BK131.out) Tryz.underlying110 rfl (by kernel_rfl)) rfl ?_
  exact ⟨by rfl, bh HB.out⟩
 ·replace H := bd H
  obtain ⟨t135, A15, H⟩ := H
  simp only [Option.some.injEq, Prod.mk.injEq] at H
  obtain ⟨rfl, rfl, rfl, rfl⟩ := H
  go_enter Tryz.func63, Tryz.ntmps63
  go_wp2_with (first | ((with_reducible refine gate_dst (N := 2) rfl ?_); refine boxE HB 2 110 #[.int .i64 0, .int .i64 0, .int .i64 0, .int .i64 0] ?_; clear HB; intro gb131 w16 BK131 GW131 hg hb HB; have GE131 := GW131; clear hb hg) | ((with_reducible refine gate_dst (N := 3) rfl ?_); refine boxE HB 3 110 #[.int .i64 0, .int .i64 0, .int .i64 0, .int .i64 0] ?_; clear HB; intro gb132 w17 BK132 GW132 hg hb HB; have GE132 := GW132; have NB131_132 := bna BK131 hg; have NB132_131 := bma BK131 hg; replace BK131 := bba BK131 hb; clear hb hg; have hnb18 := NB132_131.out; have hnc18 := NB131_132.out; obtain ⟨hcz19_0, hcz19_1, hcz19_2, hcz19_3, hfz19_0, hfz19_1, hfz19_2, hfz19_3⟩ := b4 BK132) | ((with_reducible refine gate_callee (f := 89) rfl ?_); refine gL 25 Tryz.func89 #[.slice A0 l0.length c0] ?_; (with_reducible refine (span_Count.calls k _ _ l0 t135 _ ?side1 ?side2 A15.out).mono ?_); (case side1 => exact Kd.C_below HR0.out (bh HB.out)); (case side2 => exact HC0.out); rintro e w20 ⟨rfl, hb⟩; refine ⟨_, rfl, ?_⟩; replace BK131 := Aside0.mk (blk_below (g := gb131) (o := .cells #[.int .i64 0, .int .i64 0, .int .i64 0, .int .i64 0] 110 (0, 0)) (bx BK131.out) hb); replace BK132 := Aside0.mk (blk_below (g := gb132) (o := .cells #[.int .i64 0, .int .i64 (wrap64 (8 * (l0.length : Int))), .int .i64 0, .int .i64 0] 110 (0, 0)) (by refine blk_put (cs := #[.int .i64 0, .int .i64 0, .int .i64 0, .int .i64 0]) ?_ 1 _ rfl; exact BK132.out) hb); replace HB := bsa HB hb; clear hb; obtain ⟨hcz21_0, hcz21_1, hcz21_2, hcz21_3, hfz21_0, hfz21_1, hfz21_2, hfz21_3⟩ := b4 BK132; obtain ⟨hcz22_0, hcz22_1, hcz22_2, hcz22_3, hfz22_0, hfz22_1, hfz22_2, hfz22_3⟩ := b4 BK131) | ((with_reducible refine gate_store (t := 110) (p := 2) rfl ?_); refine stE 110 2 (((((w20.setCell ⟨gb132, 3, none⟩ (.int .i64 (wrap64 (2 * t135)))).setCell ⟨gb131, 0, none⟩ (.int .i64 0)).setCell ⟨gb131, 1, none⟩ (.int .i64 (wrap64 (8 * (l0.length : Int))))).setCell ⟨gb131, 2, none⟩ (.int .i64 0)).setCell ⟨gb131, 3, none⟩ (.int .i64 (wrap64 (2 * t135)))) ?_; intro w23 hw; replace BK131 := sps #[.int .i64 0, .int .i64 (wrap64 (8 * (l0.length : Int))), .int .i64 0, .int .i64 (wrap64 (2 * t135))] BK131 hw (.p (.p (.p (.p (.f NB131_132 .nil))))); replace BK132 := sps #[.int .i64 0, .int .i64 (wrap64 (8 * (l0.length : Int))), .int .i64 0, .int .i64 (wrap64 (2 * t135))] BK132 hw (.f NB132_131 (.f NB132_131 (.f NB132_131 (.f NB132_131 (.p .nil))))); replace HB := bhw HB hw; clear hw))
  refine bodyPost_ret (results_cell_row rfl _ _ gb131 110 #[.int .i64 0, .int .i64 (wrap64 (8 * (l0.length : Int))), .int .i64 0, .int .i64 (wrap64 (2 * t135))] (0, 0) _ rfl (bx BK131.out) Tryz.underlying110 rfl (by kernel_rfl)) rfl ?_
  exact ⟨er, bh HB.out⟩
/-! ### api_Span_44: function 44 (a contract of the session's own) -/
def api_Span_44.f (l0 : List S70) : Option (List S70) := if l0.length ≤ 2000000000000 then some l0 else none
set_option maxHeartbeats 4000000 in
set_option maxRecDepth 100000 in
theorem api_Span_44.calls (A0 : Option Addr) (c0 : Nat) (l0 : List S70) (r : List S70) (w : World) (hr0 : k70.C w A0 l0.length l0) (hc0 : l0.length ≤ c0) (h : api_Span_44.f l0 = some r) :
    Calls Tryz.prog 44 #[.slice A0 l0.length c0] w fun e w' => ∃ v0_ : Value, e = .returned v0_ ∧ k70.R 70 w' w.heap.size (fun _ => True) v0_ r ∧ Below w.heap.size w w' := by
 have hl : l0.length ≤ 2000000000000 := by
   unfold api_Span_44.f at h
   split at h
   ·assumption
   ·exact absurd h (by simp)
 obtain rfl : l0 = r := by
   unfold api_Span_44.f at h
   rw [if_pos hl] at h
   exact Option.some.inj h
 have HR := Aside0.mk hr0
 have HC := Aside0.mk hc0
 have HL := Aside0.mk hl
 clear hr0 hc0 hl h
 go_enter Tryz.func44, Tryz.ntmps44
 rcases A0 with _ | ad
 ·have h0 : l0 = [] := by
    have := HR.out.2.2
    rcases l0 with _ | ⟨x, l⟩
    ·rfl
    ·obtain ⟨ad, he, _⟩ := this (by simp)
     exact absurd he (by simp)
  subst h0
  have hE := Go.Lib.run_eql_slice_nil_nil (P := Tryz.prog) w (t := 26) (e := 70) 0 c0 Tryz.underlying26
  go_wp2
  go_ret
  exact ⟨_, rfl, Kd.R_nil _ _ _ _ _, Below.refl _ _⟩
 ·have hE := Go.Lib.run_eql_slice_some_nil (P := Tryz.prog) w (t := 26) (e := 70) ad l0.length c0 Tryz.underlying26
  go_wp2_with (first | ((with_reducible refine gate_dst (N := 5) rfl ?_); refine Kd.R_lit k70 (w0 := w) w.heap.size 70 rfl (N := 5) rfl (xs := []) (inner := []) (ok := fun _ => True) (okp := fun _ => True) (by (go_simp; done)) (Reps.none _ _) (fun _ _ => trivial) trivial (Below.refl _ _) (Nat.le_refl _) (by simp) ?_; intro v5 w1 ho5 hb hg_ hnew_; have HO5 := Aside0.mk ho5; have HB := Aside0.mk hb; clear ho5 hb hg_ hnew_; obtain ⟨Ao5, co5, eo5⟩ := Kd.R_slice HO5.out; subst eo5) | ((with_reducible refine gate_builtin (b := .append) (xs := #[.tmp 5, .tmp 6]) rfl ?_); at_builtin; refine Kd.R_append_rows k70 (w0 := w) w.heap.size rfl (.tmp 5) (.tmp 6) 26 70 _ _ rfl Tryz.underlying26 info70 rfl (by decide) (by omega) _ [] l0 _ _ _ (fun _ => True) (fun _ => False) rfl rfl HO5.out (Kd.C_below HR.out HB.out) (fun _ _ h => h) (fun _ h => h.elim) (fun _ _ => trivial) HB.out (below_size HB.out) (by have := HL.out; simp; omega) ?_; intro v7 w2 ho7 hb7 hg_ hat_; have HO7 := Aside0.mk ho7; have HB7 := Aside0.mk hb7; clear ho7 hb7 hg_ hat_))
  go_ret
  exact ⟨_, rfl, by simpa using HO7.out, HB7.out⟩
/-! ### bits_placed: function 121 -/
def bits_placed.f (a0 : Int) (a1 : Int) : Option (Bool) := if a0 ≥ 0 then (if a0 < 64 then (some (decide (a1 ≥ 1))) else (some false)) else (some false)
set_option maxHeartbeats 8000000 in
set_option maxRecDepth 100000 in
theorem bits_placed.calls (a0 : Int) (a1 : Int) (r : Bool) (w : World) (h : bits_placed.f a0 a1 = some r) :
  Calls Tryz.prog 121 #[.int .i64 a0, .int .i64 a1] w fun e w' => e = .returned (.bool r) ∧ Drawn0 w w' := by
 have H := h
 clear h
 unfold bits_placed.f at H
 replace H := ifd H
 rcases H with ⟨-, c3b0, H⟩ | ⟨-, c3b0, H⟩
 ·replace H := ifd H
  rcases H with ⟨-, c4b0, H⟩ | ⟨-, c4b0, H⟩
  ·obtain rfl := Option.some.inj H
   go_enter Tryz.func121, Tryz.ntmps121
   go_wp2
   go_ret
   exact ⟨by rfl, by repeat (exact Drawn0.refl _)⟩
  ·obtain rfl := Option.some.inj H
   go_enter Tryz.func121, Tryz.ntmps121
   go_wp2
   go_ret
   exact ⟨by rfl, by repeat (exact Drawn0.refl _)⟩
 ·obtain rfl := Option.some.inj H
  go_enter Tryz.func121, Tryz.ntmps121
  go_wp2
  go_ret
  exact ⟨by rfl, by repeat (exact Drawn0.refl _)⟩
end Go.Proofs.YtdgphlkbmplbpaaGreat.Print
end
section
namespace Go.Proofs.YtdgphlkbmplbpaaGreat.Print
open Go.RowKit Go.Proofs.YtdgphlkbmplbpaaGreatW.PrintWords Go.Proofs.YtdgphlkbmplbpaaGreatW.PrintLast Go.Proofs.YtdgphlkbmplbpaaGreatW.PrintMore
attribute [local go_sem] max2_int min2_int max_two min_two max_three min_three max_four min_four   -- for this text's walks alone
set_option linter.unusedVariables false
set_option linter.unusedSimpArgs false
/-! ### bits_Mask: function 122 -/
def bits_Mask.f (a0 : Int) : Option (Int) := if a0 ≤ 0 then (some 0) else (if a0 ≥ 64 then (some (-1)) else (if 0 ≤ a0 then (some (wrap64 (IntKind.u64.wrap ((shl .u64 1 a0) - 1)))) else (none)))
set_option maxHeartbeats 8000000 in
set_option maxRecDepth 100000 in
theorem bits_Mask.calls (a0 : Int) (r : Int) (w : World) (h : bits_Mask.f a0 = some r) :
  Calls Tryz.prog 122 #[.int .i64 a0] w fun e w' => e = .returned (.int .i64 r) ∧ Drawn0 w w' := by
 have H := h
 clear h
 unfold bits_Mask.f at H
 replace H := ifd H
 rcases H with ⟨-, c2b0, H⟩ | ⟨-, c2b0, H⟩
 ·obtain rfl := Option.some.inj H
  go_enter Tryz.func122, Tryz.ntmps122
  go_wp2
  go_ret
  exact ⟨by rfl, by repeat (exact Drawn0.refl _)⟩
 ·replace H := ifd H
  rcases H with ⟨-, c3b0, H⟩ | ⟨-, c3b0, H⟩
  ·obtain rfl := Option.some.inj H
   go_enter Tryz.func122, Tryz.ntmps122
   go_wp2
   go_ret
   exact ⟨by rfl, by repeat (exact Drawn0.refl _)⟩
  ·replace H := ifn H
   obtain ⟨c4, -, H⟩ := H
   have c4b0 := eq_true c4
   have c4b1 : decide (0 ≤ a0) = true := decide_eq_true c4
   clear c4
   obtain ⟨ji5, hji5⟩ : ∃ j_ : Int, (shl .u64 1 a0) = j_ := ⟨_, rfl⟩
   replace H : (some (wrap64 (IntKind.u64.wrap ((ji5) - 1)))) = some r := by (rw [hji5] at H; exact H)
   have hji5_ : (IntKind.u64.wrap (1 * 2 ^ min a0.toNat 64)) = ji5 := hji5
   have hji5z : a0 ≤ 64 → (IntKind.u64.wrap (1 * 2 ^ a0.toNat)) = ji5 := shl_small hji5
   have hji5u : (IntKind.u64.wrap (2 ^ min a0.toNat 64)) = ji5 := by have h_ := hji5_; rw [Int.one_mul] at h_; exact h_
   have hji5v : a0 ≤ 64 → (IntKind.u64.wrap (2 ^ a0.toNat)) = ji5 := fun hle_ => by have h_ := hji5z hle_; rw [Int.one_mul] at h_; exact h_
   obtain rfl := Option.some.inj H
   go_enter Tryz.func122, Tryz.ntmps122
   go_wp2
   go_ret
   exact ⟨by rfl, by repeat (exact Drawn0.refl _)⟩
/-! ### bits_With: function 141 -/
def bits_With.f (a0 : Int) (a1 : Int) (a2 : Int) (a3 : Int) : Option (Int) := (bits_placed.f a1 a2).bind fun t136 => (if t136 = true then ((bits_Mask.f a2).bind fun t137 => (if 0 ≤ a1 then (some (wrap64 (Go.bits .or .u64 (Go.bits .andNot .u64 (IntKind.u64.wrap (a0)) (shl .u64 (IntKind.u64.wrap (t137)) a1)) (Go.bits .and .u64 (shl .u64 (IntKind.u64.wrap (a3)) a1) (shl .u64 (IntKind.u64.wrap (t137)) a1))))) else (none))) else (some a0))
set_option maxHeartbeats 8000000 in
set_option maxRecDepth 100000 in
theorem bits_With.calls (a0 : Int) (a1 : Int) (a2 : Int) (a3 : Int) (r : Int) (w : World) (h : bits_With.f a0 a1 a2 a3 = some r) :
  Calls Tryz.prog 141 #[.int .i64 a0, .int .i64 a1, .int .i64 a2, .int .i64 a3] w fun e w' => e = .returned (.int .i64 r) ∧ Drawn0 w w' := by
 have H := h
 clear h
 unfold bits_With.f at H
 replace H := bd H
 obtain ⟨t136, A5, H⟩ := H
 replace H := ifb H
 rcases H with ⟨rfl, H⟩ | ⟨rfl, H⟩
 ·replace H := bd H
  obtain ⟨t137, A7, H⟩ := H
  replace H := ifn H
  obtain ⟨c8, -, H⟩ := H
  have c8b0 := eq_true c8
  have c8b1 : decide (0 ≤ a1) = true := decide_eq_true c8
  clear c8
  obtain ⟨ji9, hji9⟩ : ∃ j_ : Int, (shl .u64 (IntKind.u64.wrap (t137)) a1) = j_ := ⟨_, rfl⟩
  replace H : (some (wrap64 (Go.bits .or .u64 (Go.bits .andNot .u64 (IntKind.u64.wrap (a0)) (ji9)) (Go.bits .and .u64 (shl .u64 (IntKind.u64.wrap (a3)) a1) (ji9))))) = some r := by (rw [hji9] at H; exact H)
  have hji9_ : (IntKind.u64.wrap ((IntKind.u64.wrap (t137)) * 2 ^ min a1.toNat 64)) = ji9 := hji9
  have hji9z : a1 ≤ 64 → (IntKind.u64.wrap ((IntKind.u64.wrap (t137)) * 2 ^ a1.toNat)) = ji9 := shl_small hji9
  have c10b0 := eq_true (of_decide_eq_true (by assumption) : 0 ≤ a1)
  obtain ⟨ji11, hji11⟩ : ∃ j_ : Int, (shl .u64 (IntKind.u64.wrap (a3)) a1) = j_ := ⟨_, rfl⟩
  replace H : (some (wrap64 (Go.bits .or .u64 (Go.bits .andNot .u64 (IntKind.u64.wrap (a0)) (ji9)) (Go.bits .and .u64 (ji11) (ji9))))) = some r := by (rw [hji11] at H; exact H)
  have hji11_ : (IntKind.u64.wrap ((IntKind.u64.wrap (a3)) * 2 ^ min a1.toNat 64)) = ji11 := hji11
  have hji11z : a1 ≤ 64 → (IntKind.u64.wrap ((IntKind.u64.wrap (a3)) * 2 ^ a1.toNat)) = ji11 := shl_small hji11
  obtain rfl := Option.some.inj H
  go_enter Tryz.func141, Tryz.ntmps141
  go_wp2_with (first | ((with_reducible refine gate_callee (f := 121) rfl ?_); refine gL 12 Tryz.func121 #[.int .i64 a1, .int .i64 a2] ?_; (with_reducible refine (bits_placed.calls a1 a2 true _ A5.out).mono ?_); rintro e w' ⟨rfl, ⟨nd, rfl⟩⟩; refine ⟨_, rfl, ?_⟩) | ((with_reducible refine gate_callee (f := 122) rfl ?_); refine gL 16 Tryz.func122 #[.int .i64 a2] ?_; (with_reducible refine (bits_Mask.calls a2 t137 _ A7.out).mono ?_); rintro e w' ⟨rfl, ⟨nd, rfl⟩⟩; refine ⟨_, rfl, ?_⟩))
  go_ret
  exact ⟨by rfl, by repeat (first | exact Drawn0.refl _ | apply Drawn0.step)⟩
 ·obtain rfl := Option.some.inj H
  go_enter Tryz.func141, Tryz.ntmps141
  go_wp2_with (((with_reducible refine gate_callee (f := 121) rfl ?_); refine gL 12 Tryz.func121 #[.int .i64 a1, .int .i64 a2] ?_; (with_reducible refine (bits_placed.calls a1 a2 false _ A5.out).mono ?_); rintro e w' ⟨rfl, ⟨nd, rfl⟩⟩; refine ⟨_, rfl, ?_⟩))
  go_ret
  exact ⟨by rfl, by repeat (first | exact Drawn0.refl _ | apply Drawn0.step)⟩
/-! ### words_fills: function 125 -/
def words_fills.l0 : Nat → List Int → Int → Int → Option (List Int)
 | 0, _, _, _ => none
 | k + 1, x0, x1, x2 => if x1 < x2 then (if 0 ≤ (x1 / 64) then (if (x1 / 64) < (x0.length : Int) then ((bits_With.f (rd x0 (x1 / 64)) (Go.bits .and .i64 x1 63) (mn (wrap64 (64 - (Go.bits .and .i64 x1 63))) (wrap64 (x2 - x1))) (-1)).bind fun t139 => (words_fills.l0 k (x0.set ((x1 / 64) : Int).toNat t139) (wrap64 (x1 + (mn (wrap64 (64 - (Go.bits .and .i64 x1 63))) (wrap64 (x2 - x1))))) x2)) else (none)) else (none)) else (some x0)
def words_fills.f (k : Nat) (l0 : List Int) (a1 : Int) (a2 : Int) : Option (List Int) := words_fills.l0 k l0 a1 a2
theorem words_fills.l0_succ (k) (a0) (a1) (a2) : type_of% (@words_fills.l0.eq_2 a0 a1 a2 k) := words_fills.l0.eq_2 a0 a1 a2 k
set_option maxHeartbeats 8000000 in
set_option maxRecDepth 100000 in
theorem words_fills.calls (k : Nat) (P0_ : Nat → Prop) (u9000_ : Value) (l0 : List Int) (a1 : Int) (a2 : Int) (r : List Int) (w0 w : World) (hB : Below w0.heap.size w0 w) (ho0 : Kd.R (Kd.int .i64) 3 w w0.heap.size P0_ u9000_ l0) (h : words_fills.f k l0 a1 a2 = some r) :
  Calls Tryz.prog 125 #[u9000_, .int .i64 a1, .int .i64 a2] w fun e w' => e = .returned (.tuple #[]) ∧ Kd.R (Kd.int .i64) 3 w' w0.heap.size (fun k_ => (P0_ k_ ∨ w.heap.size ≤ k_)) u9000_ r ∧ Below w0.heap.size w0 w' ∧ Kept w w' (fun k_ => P0_ k_) := by
 have HO0 := Aside0.mk (show Kd.R (Kd.int .i64) 3 w w0.heap.size (fun k_ => (P0_ k_ ∨ w.heap.size ≤ k_)) u9000_ l0 from Kd.R_mono ho0 (fun k_ hk => (.inl hk)))
 have HK := Aside0.mk (Kept.refl w (fun k_ => P0_ k_))
 have HW0 := Aside0.mk hB.size
 have HB := Aside0.mk hB
 clear hB
 have H := h
 clear h
 unfold words_fills.f at H
 have H' := Aside0.mk H
 clear H
 go_enter Tryz.func125, Tryz.ntmps125
 go_wp2
 go_loopg [1] k (fun kq v1 w' => ∃ (x0_1 : List Int) (x1_1 : Int), v1 = .int .i64 x1_1 ∧ Aside0 (words_fills.l0 kq x0_1 x1_1 a2 = some r) ∧ Aside0 (kq ≤ k) ∧ Aside0 (Kd.R (Kd.int .i64) 3 w' w0.heap.size (fun k_ => (P0_ k_ ∨ w.heap.size ≤ k_)) u9000_ x0_1) ∧ Aside0 (Kept w w' (fun k_ => P0_ k_)) ∧ Aside0 (Below w0.heap.size w0 w'))
 case atStart => exact ⟨(l0), (a1), (by rfl), H', ⟨Nat.le_refl _⟩, ⟨by exact HO0.out⟩, ⟨by repeat ((with_reducible exact HK.out))⟩, ⟨bh HB.out⟩⟩
 case round =>
  clear H'
  obtain ⟨x0_1, x1_1, rfl, HA, HK1, HO_0, HK, HB⟩ := hrel
  cases gk with
  | zero => exact absurd HA.out (by simp [words_fills.l0])
  | succ k1 =>
   have H := HA.out
   clear HA
   simp only [words_fills.l0] at H
   replace H := ifd H
   rcases H with ⟨-, c4b0, H⟩ | ⟨-, c4b0, H⟩
   ·obtain ⟨ji5, hji5⟩ : ∃ j_ : Int, (mn (wrap64 (64 - (Go.bits .and .i64 x1_1 63))) (wrap64 (a2 - x1_1))) = j_ := ⟨_, rfl⟩
    replace H : (if 0 ≤ (x1_1 / 64) then (if (x1_1 / 64) < (x0_1.length : Int) then ((bits_With.f (rd x0_1 (x1_1 / 64)) (Go.bits .and .i64 x1_1 63) (ji5) (-1)).bind fun t139 => (words_fills.l0 k1 (x0_1.set ((x1_1 / 64) : Int).toNat t139) (wrap64 (x1_1 + (ji5))) a2)) else (none)) else (none)) = some r := by (rw [hji5] at H; exact H)
    have hji5_ : (if (wrap64 (a2 - x1_1)) < (wrap64 (64 - (Go.bits .and .i64 x1_1 63))) then (wrap64 (a2 - x1_1)) else (wrap64 (64 - (Go.bits .and .i64 x1_1 63)))) = ji5 := hji5
    obtain ⟨ji6, hji6⟩ : ∃ j_ : Int, (x1_1 / 64) = j_ := ⟨_, rfl⟩
    replace H : (if 0 ≤ (ji6) then (if (ji6) < (x0_1.length : Int) then ((bits_With.f (rd x0_1 (ji6)) (Go.bits .and .i64 x1_1 63) (ji5) (-1)).bind fun t139 => (words_fills.l0 k1 (x0_1.set ((ji6) : Int).toNat t139) (wrap64 (x1_1 + (ji5))) a2)) else (none)) else (none)) = some r := by (rw [hji6] at H; exact H)
    replace H := ifn H
    obtain ⟨-, c7b0, H⟩ := H
    replace H := ifn H
    obtain ⟨-, c8b0, H⟩ := H
    replace H := bd H
    obtain ⟨t139, A9, H⟩ := H
    obtain ⟨y140, hy140⟩ : ∃ y_ : List Int, y_ = (x0_1.set ((ji6) : Int).toNat t139) := ⟨_, rfl⟩
    replace H : (words_fills.l0 k1 y140 (wrap64 (x1_1 + (ji5))) a2) = some r := by (rw [hy140]; with_reducible exact H)
    have Ny140 := Aside0.mk hy140
    clear hy140
    have H' := Aside0.mk H
    clear H
    obtain ⟨Ao11, co11, eo11⟩ := Kd.R_slice HO_0.out
    subst eo11
    have p138 : 0 ≤ ((ji6) : Int) := ad
    have q138 : (ji6) < (x0_1.length : Int) := ad
    obtain ⟨ad138, e138, hx138_0⟩ := Kd.at_int (Kd.R_reads' HO_0.out).2.2 (ji6) p138 q138
    cases e138
    replace p138 := eq_true p138
    replace q138 := eq_true q138
    go_wp2_with (first | ((with_reducible refine gate_callee (f := 141) rfl ?_); refine gL 29 Tryz.func141 #[.int .i64 (rd x0_1 (ji6)), .int .i64 (Go.bits .and .i64 x1_1 63), .int .i64 ji5, .int .i64 (-1)] ?_; (with_reducible refine (bits_With.calls (rd x0_1 (ji6)) (Go.bits .and .i64 x1_1 63) ji5 (-1) t139 _ A9.out).mono ?_); rintro e w' ⟨rfl, ⟨nd, rfl⟩⟩; refine ⟨_, rfl, ?_⟩; ((rw [drewN_self wr]; generalize hq_ : World.drewN wr _ = wr; have n0_ : Aside0 (Kd.R (Kd.int .i64) 3 wr w0.heap.size (fun k_ => (P0_ k_ ∨ w.heap.size ≤ k_)) (.slice (some ad138) x0_1.length co11) x0_1) := ⟨by rw [← hq_]; exact (rx HO_0.out)⟩; have n1_ : Aside0 (Kept w wr (fun k_ => P0_ k_)) := ⟨by rw [← hq_]; exact (by repeat ((with_reducible first | exact HK.out | apply Kept.drewN)))⟩; have n2_ : Aside0 (Below w0.heap.size w0 wr) := ⟨by rw [← hq_]; exact (bh HB.out)⟩; clear HO_0 HK HB hq_; have HO_0 := n0_; have HK := n1_; have HB := n2_; clear n0_ n1_ n2_)); have p10 : 0 ≤ ((ji6) : Int) := ad; have q10 : ((ji6) : Int) < ((x0_1.length : Int) : Int) := ad; obtain ⟨go10, co10, eo10, gb10, gl10, cl10, HG10⟩ := Kd.R_form HO_0.out (by omega); (cases eo10); have GB10 := Aside0.mk gb10; have GG10 := Aside0.mk HG10; clear gb10 gl10 HG10; have HMgo10 := Aside0.mk (show (P0_ go10 ∨ w.heap.size ≤ go10) from (HO_0.out.1 _ rfl)); (simp only [add_plain] at hx138_0); obtain ⟨hx10_0, hf10_0⟩ := Kd.R_celln 0 HO_0.out ((ji6) : Int) p10 q10; replace p10 := eq_true p10; replace q10 := eq_true q10; obtain ⟨hy12_, hz12_⟩ := Kd.R_celln 0 HO_0.out ((ji6) : Int) (of_decide_eq_true (by assumption)) (of_decide_eq_true (by assumption)); have HP12 := Kd.R_putg HO_0.out ((ji6) : Int) t139) | ((with_reducible refine gate_store (t := 3) (p := 30) rfl ?_); refine stE 3 30 (wr.setCell ⟨go10, ((ji6) : Int).toNat, none⟩ (.int .i64 t139)) ?_; intro w13 hw; have hg : wr.grownBy w13 (some go10) := (by rw [hw]; exact HP12.2); have hp_ : Kd.R (Kd.int .i64) 3 w13 w0.heap.size (fun k_ => (P0_ k_ ∨ w.heap.size ≤ k_)) (.slice (some ⟨go10, 0, none⟩) x0_1.length co11) y140 := (by rw [hw, Ny140.out]; exact HP12.1); clear HP12; replace HB := Aside0.mk ((by rw [hw]; exact below_set (HB.out) GB10.out : Below w0.heap.size w0 w13)); replace HK := Aside0.mk (Kept.of_grown (S := (fun k_ => P0_ k_)) hg (by repeat ((with_reducible exact HK.out))) (fun k_ e_ => (HO_0.out.1 k_ e_))); replace HO_0 := Aside0.mk (hp_); clear hg hw hp_))
    go_roundg k1
    case measure => have := HK1.out; omega
    case rel => exact ⟨(y140), (wrap64 (x1_1 + (ji5))), (by rfl), (by exact H'), ⟨by have := HK1.out; omega⟩, ⟨by exact HO_0.out⟩, ⟨by repeat ((with_reducible exact HK.out))⟩, ⟨bh HB.out⟩⟩
   ·obtain rfl := Option.some.inj H
    go_wp2
    go_end0
    exact ⟨er, by exact HO_0.out, bh HB.out, by repeat ((with_reducible exact HK.out))⟩
/-! ### words_Of: function 103 -/
def words_Of.l0 : Nat → List Int → List (S70) → Int → Int → Option (List Int × Int)
 | 0, _, _, _, _ => none
 | k + 1, x4, x24, x25, x26 => if x26 < x25 then (if 0 ≤ x26 then (if x26 < (x24.length : Int) then ((words_fills.f k x4 ((rd_T70 x24 x26).f0) ((rd_T70 x24 x26).f1)).bind fun t148 => (words_Of.l0 k t148 x24 x25 (wrap64 (x26 + 1)))) else (none)) else (none)) else (some (x4, 0))
def words_Of.f (k : Nat) (l0 : List (S70)) : Option (List Int × Int) := (span_May.f k l0).bind fun t141 => (if t141 = true then (if (l0.length : Int) = 0 then (some (([] : List Int), 0)) else (if 0 ≤ (wrap64 ((l0.length : Int) - 1)) then (if (wrap64 ((l0.length : Int) - 1)) < (l0.length : Int) then (if 0 ≤ ((wrap64 ((wrap64 (((rd_T70 l0 (wrap64 ((l0.length : Int) - 1))).f1) + 64)) - 1)) / 64) then (if ((wrap64 ((wrap64 (((rd_T70 l0 (wrap64 ((l0.length : Int) - 1))).f1) + 64)) - 1)) / 64 : Int).toNat ≤ 35184372088832 then (words_Of.l0 k (List.replicate ((wrap64 ((wrap64 (((rd_T70 l0 (wrap64 ((l0.length : Int) - 1))).f1) + 64)) - 1)) / 64 : Int).toNat 0) l0 (l0.length : Int) 0) else (none)) else (none)) else (none)) else (none))) else (some (([] : List Int), 1)))
theorem words_Of.l0_succ (k) (a0) (a1) (a2) (a3) : type_of% (@words_Of.l0.eq_2 a0 a1 a2 a3 k) := words_Of.l0.eq_2 a0 a1 a2 a3 k
set_option maxHeartbeats 8000000 in
set_option maxRecDepth 100000 in
theorem words_Of.calls (k : Nat) (A0 : Option Addr) (c0 : Nat) (l0 : List (S70)) (r1 : List Int) (r2 : Int) (w : World) (hr0 : Kd.C k70 w A0 l0.length l0) (hc0 : l0.length ≤ c0) (h : words_Of.f k l0 = some (r1, r2)) :
  Calls Tryz.prog 103 #[.slice A0 l0.length c0] w fun e w' => ∃ v0_ : Value, e = .returned (.tuple #[v0_, .int .i64 r2]) ∧ Kd.R (Kd.int .i64) 3 w' w.heap.size (fun _ => True) v0_ r1 ∧ Below w.heap.size w w' := by
 have hu70 := Tryz.underlying70
 have HR0 := Aside0.mk hr0
 have HC0 := Aside0.mk hc0
 clear hr0 hc0
 have HB := Aside0.mk (Below.refl w.heap.size w)
 have H := h
 clear h
 unfold words_Of.f at H
 replace H := bd H
 obtain ⟨t141, A2, H⟩ := H
 replace H := ifb H
 rcases H with ⟨rfl, H⟩ | ⟨rfl, H⟩
 ·replace H := ife H
  rcases H with ⟨-, c4b0, c4b1, H⟩ | ⟨c4, c4b0, c4b1, H⟩
  ·simp only [Option.some.injEq, Prod.mk.injEq] at H
   obtain ⟨rfl, rfl⟩ := H
   go_enter Tryz.func103, Tryz.ntmps103
   go_wp2_with (((with_reducible refine gate_callee (f := 62) rfl ?_); refine gL 8 Tryz.func62 #[.slice A0 l0.length c0] ?_; (with_reducible refine (span_May.calls k _ _ l0 true _ ?side1 ?side2 A2.out).mono ?_); (case side1 => exact cx HR0.out); (case side2 => exact HC0.out); rintro e w5 ⟨rfl, hb⟩; refine ⟨_, rfl, ?_⟩; replace HB := bsa HB hb; clear hb))
   go_ret2
   exact ⟨_, er, nl, bh HB.out⟩
  ·have c4b2 : ¬ (l0 = []) := fun h_ => c4 (by rw [h_]; rfl)
   obtain ⟨ji6, hji6⟩ : ∃ j_ : Int, (wrap64 ((l0.length : Int) - 1)) = j_ := ⟨_, rfl⟩
   replace H : (if 0 ≤ (ji6) then (if (ji6) < (l0.length : Int) then (if 0 ≤ ((wrap64 ((wrap64 (((rd_T70 l0 (ji6)).f1) + 64)) - 1)) / 64) then (if ((wrap64 ((wrap64 (((rd_T70 l0 (ji6)).f1) + 64)) - 1)) / 64 : Int).toNat ≤ 35184372088832 then (words_Of.l0 k (List.replicate ((wrap64 ((wrap64 (((rd_T70 l0 (ji6)).f1) + 64)) - 1)) / 64 : Int).toNat 0) l0 (l0.length : Int) 0) else (none)) else (none)) else (none)) else (none)) = some (r1, r2) := by (rw [hji6] at H; exact H)
   have hji6w : (IntKind.i64.wrap ((l0.length : Int) - 1)) = ji6 := (i64_w _).trans hji6
   replace H := ifn H
   obtain ⟨-, c7b0, H⟩ := H
   replace H := ifn H
   obtain ⟨-, c8b0, H⟩ := H
   obtain ⟨ji9, hji9⟩ : ∃ j_ : Int, ((wrap64 ((wrap64 (((rd_T70 l0 (ji6)).f1) + 64)) - 1)) / 64) = j_ := ⟨_, rfl⟩
   replace H : (if 0 ≤ (ji9) then (if (ji9 : Int).toNat ≤ 35184372088832 then (words_Of.l0 k (List.replicate (ji9 : Int).toNat 0) l0 (l0.length : Int) 0) else (none)) else (none)) = some (r1, r2) := by (rw [hji9] at H; exact H)
   replace H := ifn H
   obtain ⟨c10, -, H⟩ := H
   have c10b0 := eq_true c10
   have c10b1 : decide (0 ≤ (ji9)) = true := decide_eq_true c10
   clear c10
   replace H := ifn H
   obtain ⟨c11, -, H⟩ := H
   have c11b0 := eq_true c11
   have c11b1 : decide ((ji9 : Int).toNat ≤ 35184372088832) = true := decide_eq_true c11
   clear c11
   obtain ⟨y143, hy143⟩ : ∃ y_ : List Int, y_ = (List.replicate (ji9 : Int).toNat 0) := ⟨_, rfl⟩
   replace H : (words_Of.l0 k y143 l0 (l0.length : Int) 0) = some (r1, r2) := by (rw [hy143]; with_reducible exact H)
   have Ny143 := Aside0.mk hy143
   clear hy143
   have H' := Aside0.mk H
   clear H
   go_enter Tryz.func103, Tryz.ntmps103
   go_wp2_with (first | ((with_reducible refine gate_callee (f := 62) rfl ?_); refine gL 8 Tryz.func62 #[.slice A0 l0.length c0] ?_; (with_reducible refine (span_May.calls k _ _ l0 true _ ?side1 ?side2 A2.out).mono ?_); (case side1 => exact cx HR0.out); (case side2 => exact HC0.out); rintro e w12 ⟨rfl, hb⟩; refine ⟨_, rfl, ?_⟩; replace HB := bsa HB hb; clear hb; have p142 : 0 ≤ ((ji6) : Int) := ad; have q142 : (ji6) < (l0.length : Int) := ad; obtain ⟨ad142, e142, hx142_0, hx142_1⟩ := at_T70 HR0.out (ji6) p142 q142; cases e142; replace hx142_0 := cb HB.out.cell hx142_0; replace hx142_1 := cb HB.out.cell hx142_1; replace p142 := eq_true p142; replace q142 := eq_true q142) | ((with_reducible refine gate_dst (N := 23) rfl ?_); refine Kd.R_make (Kd.int .i64) _ 3 rfl (N := 23) rfl 27 _ _ rfl ji9 (by rfl) (by rfl) Tryz.underlying27 (.int .i64 0) 8 info3 rfl (by decide) (by omega) 0 (ok := fun _ => True) (okp := fun _ => True) rfl (fun _ hk => hk) trivial (of_decide_eq_true (by assumption)) (Nat.le_trans (Nat.mul_le_mul_right _ (of_decide_eq_true (by assumption) : ji9.toNat ≤ 35184372088832)) (by omega)) (Below.refl _ _) (Nat.le_refl _) ?_; intro v144 w13 ho14 hb hg_ hnew_; clear hg_ hnew_; (rw [← Ny143.out] at ho14); have HO145 := Aside0.mk (Kd.R_lower ho14 (below_size (bh HB.out))); replace HB := bsa HB hb; clear hb ho14))
   go_loopg [26] k (fun kq v26 w' => ∃ (x4_1 : List Int) (x26_1 : Int), v26 = .int .i64 x26_1 ∧ Aside0 (words_Of.l0 kq x4_1 l0 (l0.length : Int) x26_1 = some (r1, r2)) ∧ Aside0 (kq ≤ k) ∧ Aside0 (Kd.R (Kd.int .i64) 3 w' w.heap.size (fun _ => True) v144 x4_1) ∧ Aside0 (Below w.heap.size w w'))
   case atStart => exact ⟨(y143), (0), (by rfl), H', ⟨Nat.le_refl _⟩, ⟨by exact HO145.out⟩, ⟨bh HB.out⟩⟩
   case round =>
    clear H' c4 c4b0 c4b1 c4b2 c7b0 c8b0 c10b0 c10b1 c11b0 c11b1 hx142_0 hx142_1 p142 q142
    obtain ⟨x4_1, x26_1, rfl, HA, HK1, HO_4, HB⟩ := hrel
    cases gk with
    | zero => exact absurd HA.out (by simp [words_Of.l0])
    | succ k1 =>
     have H := HA.out
     clear HA
     simp only [words_Of.l0] at H
     replace H := ifd H
     rcases H with ⟨-, c15b0, H⟩ | ⟨-, c15b0, H⟩
     ·replace H := ifn H
      obtain ⟨-, c16b0, H⟩ := H
      replace H := ifn H
      obtain ⟨-, c17b0, H⟩ := H
      replace H := bd H
      obtain ⟨t148, A18, H⟩ := H
      have H' := Aside0.mk H
      clear H
      have p146 : 0 ≤ (x26_1 : Int) := ad
      have q146 : x26_1 < (l0.length : Int) := ad
      obtain ⟨ad146, e146, hx146_0, hx146_1⟩ := at_T70 HR0.out x26_1 p146 q146
      obtain rfl : ad142 = ad146 := (by injection e146)
      replace hx146_0 := cb HB.out.cell hx146_0
      replace hx146_1 := cb HB.out.cell hx146_1
      replace p146 := eq_true p146
      replace q146 := eq_true q146
      go_wp2_with (first | ((with_reducible refine gate_dst (N := 6) rfl ?_); refine box_event ?hg (N := 6) ?hd (cs := #[.int .i64 0, .int .i64 0]) (t := 70) ?hr ?_; (case hd => rfl); (case hg => rfl); (case hr => (go_simp; done)); intro gb147 hg w19 hbox hb; replace HO_4 := rba HO_4 hb; have BK147 := Aside0.mk (hbox); have GW147 := bza HB hg; have GE147 := bza HB hg; replace HB := bsa HB hb; clear hb hbox hg; obtain ⟨hcz20_0, hcz20_1, hfz20_0, hfz20_1⟩ := b2 BK147) | ((with_reducible refine gate_store (t := 70) (p := 6) rfl ?_); refine stE 70 6 ((w19.setCell ⟨gb147, 0, none⟩ (.int .i64 ((rd_T70 l0 x26_1).f0))).setCell ⟨gb147, 1, none⟩ (.int .i64 ((rd_T70 l0 x26_1).f1))) ?_; intro w21 hw; replace HO_4 := rsm (fun _ => True) HO_4 hw (fun _ hk => trivial); replace BK147 := sps #[.int .i64 ((rd_T70 l0 x26_1).f0), .int .i64 ((rd_T70 l0 x26_1).f1)] BK147 hw (.p (.p .nil)); replace HB := bhw HB hw; clear hw; obtain ⟨hcz22_0, hcz22_1, hfz22_0, hfz22_1⟩ := b2 BK147; obtain ⟨Ao23, co23, eo23⟩ := Kd.R_slice HO_4.out; subst eo23) | ((with_reducible refine gate_callee (f := 125) rfl ?_); refine gL 35 Tryz.func125 #[.slice Ao23 x4_1.length co23, .int .i64 ((rd_T70 l0 x26_1).f0), .int .i64 ((rd_T70 l0 x26_1).f1)] ?_; (with_reducible refine (words_fills.calls k1 (fun k_ => some k_ = (.slice Ao23 x4_1.length co23 : Value).ownBlock) (.slice Ao23 x4_1.length co23) x4_1 ((rd_T70 l0 x26_1).f0) ((rd_T70 l0 x26_1).f1) t148 w _ ?side1 ?side2 A18.out).mono ?_); (case side1 => repeat ((with_reducible exact HB.out))); (case side2 => exact Kd.R_tight rfl HO_4.out); rintro e w24 ⟨rfl, hy0, hb, hkp⟩; refine ⟨_, rfl, ?_⟩; replace BK147 := Aside0.mk (blk_kept (bx BK147.out) hkp (fun hs_ => (fun e_ => (Kd.R_ne HO_4.out BK147.out (by decide)) e_) hs_)); replace HO_4 := Aside0.mk (Kd.R_reok rfl hy0 (fun k_ e_ => HO_4.out.1 k_ e_)); replace HB := Aside0.mk (hb); clear hb hkp hy0))
      go_roundg k1
      case measure => have := HK1.out; omega
      case rel => exact ⟨(t148), (wrap64 (x26_1 + 1)), (by rfl), (by exact H'), ⟨by have := HK1.out; omega⟩, ⟨by exact HO_4.out⟩, ⟨bh HB.out⟩⟩
     ·simp only [Option.some.injEq, Prod.mk.injEq] at H
      obtain ⟨rfl, rfl⟩ := H
      go_wp2
      go_ret2
      exact ⟨_, by rfl, by exact HO_4.out, bh HB.out⟩
 ·simp only [Option.some.injEq, Prod.mk.injEq] at H
  obtain ⟨rfl, rfl⟩ := H
  go_enter Tryz.func103, Tryz.ntmps103
  go_wp2_with (((with_reducible refine gate_callee (f := 62) rfl ?_); refine gL 8 Tryz.func62 #[.slice A0 l0.length c0] ?_; (with_reducible refine (span_May.calls k _ _ l0 false _ ?side1 ?side2 A2.out).mono ?_); (case side1 => exact cx HR0.out); (case side2 => exact HC0.out); rintro e w25 ⟨rfl, hb⟩; refine ⟨_, rfl, ?_⟩; replace HB := bsa HB hb; clear hb))
  go_ret2
  exact ⟨_, er, nl, bh HB.out⟩
/-! ### span_Places: function 104 -/
mutual
def span_Places.l0 : Nat → List Int → List (S70) → Int → Int → Option (List Int × Int)
 | 0, _, _, _, _ => none
 | k + 1, x4, x14, x15, x16 => if x16 < x15 then (if 0 ≤ x16 then (if x16 < (x14.length : Int) then (span_Places.l1 k x4 ((rd_T70 x14 x16).f0) x14 x15 x16 ((rd_T70 x14 x16).f0) ((rd_T70 x14 x16).f1)) else (none)) else (none)) else (some (x4, 0))
def span_Places.l1 : Nat → List Int → Int → List (S70) → Int → Int → Int → Int → Option (List Int × Int)
 | 0, _, _, _, _, _, _, _ => none
 | k + 1, x4, x7, x14, x15, x16, x156000, x156001 => if x7 < x156001 then (if x4.length < 17592186044416 then (span_Places.l1 k (x4 ++ [x7]) (wrap64 (x7 + 1)) x14 x15 x16 x156000 x156001) else (none)) else (span_Places.l0 k x4 x14 x15 (wrap64 (x16 + 1)))
end
def span_Places.f (k : Nat) (l0 : List (S70)) : Option (List Int × Int) := (span_May.f k l0).bind fun t149 => (if t149 = true then ((span_Count.f k l0).bind fun t150 => (if 0 ≤ t150 then (if (t150 : Int).toNat ≤ 35184372088832 then (span_Places.l0 k (([] : List Int)) l0 (l0.length : Int) 0) else (none)) else (none))) else (some (([] : List Int), 1)))
theorem span_Places.l0_succ (k) (a0) (a1) (a2) (a3) : type_of% (@span_Places.l0.eq_2 a0 a1 a2 a3 k) := span_Places.l0.eq_2 a0 a1 a2 a3 k
theorem span_Places.l1_succ (k) (a0) (a1) (a2) (a3) (a4) (a5) (a6) : type_of% (@span_Places.l1.eq_2 a0 a1 a2 a3 a4 a5 a6 k) := span_Places.l1.eq_2 a0 a1 a2 a3 a4 a5 a6 k
set_option maxHeartbeats 8000000 in
set_option maxRecDepth 100000 in
theorem span_Places.calls (k : Nat) (A0 : Option Addr) (c0 : Nat) (l0 : List (S70)) (r1 : List Int) (r2 : Int) (w : World) (hr0 : Kd.C k70 w A0 l0.length l0) (hc0 : l0.length ≤ c0) (h : span_Places.f k l0 = some (r1, r2)) :
  Calls Tryz.prog 104 #[.slice A0 l0.length c0] w fun e w' => ∃ v0_ : Value, e = .returned (.tuple #[v0_, .int .i64 r2]) ∧ Kd.R (Kd.int .i64) 3 w' w.heap.size (fun _ => True) v0_ r1 ∧ Below w.heap.size w w' := by
 have hu70 := Tryz.underlying70
 have HR0 := Aside0.mk hr0
 have HC0 := Aside0.mk hc0
 clear hr0 hc0
 have HB := Aside0.mk (Below.refl w.heap.size w)
 have H := h
 clear h
 unfold span_Places.f at H
 replace H := bd H
 obtain ⟨t149, A2, H⟩ := H
 replace H := ifb H
 rcases H with ⟨rfl, H⟩ | ⟨rfl, H⟩
 ·replace H := bd H
  obtain ⟨t150, A4, H⟩ := H
  replace H := ifn H
  obtain ⟨c5, -, H⟩ := H
  have c5b0 := eq_true c5
  have c5b1 : decide (0 ≤ t150) = true := decide_eq_true c5
  clear c5
  replace H := ifn H
  obtain ⟨c6, -, H⟩ := H
  have c6b0 := eq_true c6
  have c6b1 : decide ((t150 : Int).toNat ≤ 35184372088832) = true := decide_eq_true c6
  clear c6
  obtain ⟨y151, hy151⟩ : ∃ y_ : List Int, y_ = (([] : List Int)) := ⟨_, rfl⟩
  replace H : (span_Places.l0 k y151 l0 (l0.length : Int) 0) = some (r1, r2) := by (rw [hy151]; with_reducible exact H)
  have Ny151 := Aside0.mk hy151
  clear hy151
  have H' := Aside0.mk H
  clear H
  go_enter Tryz.func104, Tryz.ntmps104
  go_wp2_with (first | ((with_reducible refine gate_callee (f := 62) rfl ?_); refine gL 9 Tryz.func62 #[.slice A0 l0.length c0] ?_; (with_reducible refine (span_May.calls k _ _ l0 true _ ?side1 ?side2 A2.out).mono ?_); (case side1 => exact cx HR0.out); (case side2 => exact HC0.out); rintro e w7 ⟨rfl, hb⟩; refine ⟨_, rfl, ?_⟩; replace HB := bsa HB hb; clear hb) | ((with_reducible refine gate_callee (f := 89) rfl ?_); refine gL 12 Tryz.func89 #[.slice A0 l0.length c0] ?_; (with_reducible refine (span_Count.calls k _ _ l0 t150 _ ?side1 ?side2 A4.out).mono ?_); (case side1 => exact cx (Kd.C_below HR0.out HB.out)); (case side2 => exact HC0.out); rintro e w8 ⟨rfl, hb⟩; refine ⟨_, rfl, ?_⟩; replace HB := bsa HB hb; clear hb) | ((with_reducible refine gate_dst (N := 13) rfl ?_); refine Kd.R_make0 (Kd.int .i64) _ 3 rfl (N := 13) rfl 27 _ _ rfl t150 rfl rfl Tryz.underlying27 (.int .i64 0) 8 info3 rfl (by decide) (by omega) 0 (ok := fun _ => True) (okp := fun _ => True) rfl (fun _ hk => hk) trivial (of_decide_eq_true (by assumption)) (Nat.le_trans (Nat.mul_le_mul_right _ (of_decide_eq_true (by assumption) : t150.toNat ≤ 35184372088832)) (by omega)) (Below.refl _ _) (Nat.le_refl _) ?_; intro v152 w9 ho10 hb hg_ hnew_; clear hg_ hnew_; (rw [← Ny151.out] at ho10); have HO153 := Aside0.mk (Kd.R_lower ho10 (below_size (bh HB.out))); replace HB := bsa HB hb; clear hb ho10))
  go_loopg [4, 16] k (fun kq v4 v16 w' => ∃ (x4_1 : List Int) (x16_1 : Int), v16 = .int .i64 x16_1 ∧ Aside0 (span_Places.l0 kq x4_1 l0 (l0.length : Int) x16_1 = some (r1, r2)) ∧ Aside0 (kq ≤ k) ∧ Aside0 (Kd.R (Kd.int .i64) 3 w' w.heap.size (fun _ => True) v4 x4_1) ∧ Aside0 (Below w.heap.size w w'))
  case atStart => exact ⟨(y151), (0), (by rfl), H', ⟨Nat.le_refl _⟩, ⟨by exact HO153.out⟩, ⟨bh HB.out⟩⟩
  case round =>
   clear H' c5b0 c5b1 c6b0 c6b1
   obtain ⟨x4_1, x16_1, rfl, HA, HK1, HO_4, HB⟩ := hrel
   cases gk with
   | zero => exact absurd HA.out (by simp [span_Places.l0])
   | succ k1 =>
    have H := HA.out
    clear HA
    simp only [span_Places.l0] at H
    replace H := ifd H
    rcases H with ⟨-, c11b0, H⟩ | ⟨-, c11b0, H⟩
    ·replace H := ifn H
     obtain ⟨-, c12b0, H⟩ := H
     replace H := ifn H
     obtain ⟨-, c13b0, H⟩ := H
     have H' := Aside0.mk H
     clear H
     have p154 : 0 ≤ (x16_1 : Int) := ad
     have q154 : x16_1 < (l0.length : Int) := ad
     obtain ⟨ad154, e154, hx154_0, hx154_1⟩ := at_T70 HR0.out x16_1 p154 q154
     cases e154
     replace hx154_0 := cb HB.out.cell hx154_0
     replace hx154_1 := cb HB.out.cell hx154_1
     replace p154 := eq_true p154
     replace q154 := eq_true q154
     go_wp2_with (((with_reducible refine gate_dst (N := 6) rfl ?_); refine box_event ?hg (N := 6) ?hd (cs := #[.int .i64 0, .int .i64 0]) (t := 70) ?hr ?_; (case hd => rfl); (case hg => rfl); (case hr => (go_simp; done)); intro gb155 hg w14 hbox hb; replace HO_4 := rba HO_4 hb; have BK155 := Aside0.mk (hbox); have GW155 := bza HB hg; have GE155 := bza HB hg; replace HB := bsa HB hb; clear hb hbox hg; obtain ⟨hcz15_0, hcz15_1, hfz15_0, hfz15_1⟩ := b2 BK155))
     go_loopg [4, 7] k1 (fun kq v4 v7 w' => ∃ (x4_2 : List Int) (x7_2 : Int), v7 = .int .i64 x7_2 ∧ Aside0 (span_Places.l1 kq x4_2 x7_2 l0 (l0.length : Int) x16_1 ((rd_T70 l0 x16_1).f0) ((rd_T70 l0 x16_1).f1) = some (r1, r2)) ∧ Aside0 (kq ≤ k1) ∧ Aside0 (Kd.R (Kd.int .i64) 3 w' w.heap.size (fun _ => True) v4 x4_2) ∧ Aside0 (w'.heap[gb155]? = some (.cells #[.int .i64 ((rd_T70 l0 x16_1).f0), .int .i64 ((rd_T70 l0 x16_1).f1)] 70 (0, 0))) ∧ Aside0 (Below w.heap.size w w'))
     case atStart => exact ⟨(x4_1), ((rd_T70 l0 x16_1).f0), (by rfl), H', ⟨Nat.le_refl _⟩, ⟨by exact Kd.R_mono (Kd.R_far (p := ⟨gb155, 1, none⟩) (Kd.R_far (p := ⟨gb155, 0, none⟩) (Kd.R_types HO_4.out BK155.out (by decide)) (fun _ hk => hk.2) (.int .i64 ((rd_T70 l0 x16_1).f0))) (fun _ hk => hk.2) (.int .i64 ((rd_T70 l0 x16_1).f1))) (fun _ hk => trivial)⟩, ⟨by refine blk_put (cs := #[.int .i64 ((rd_T70 l0 x16_1).f0), .int .i64 0]) ?_ 1 _ rfl; refine blk_put (cs := #[.int .i64 0, .int .i64 0]) ?_ 0 _ rfl; exact BK155.out⟩, ⟨bh HB.out⟩⟩
     case round =>
      clear H' c11b0 c12b0 c13b0 hcz15_0 hcz15_1 hfz15_0 hfz15_1 hx154_0 hx154_1 p154 q154
      obtain ⟨x4_2, x7_2, rfl, HA, HK2, HO_4, BK155, HB⟩ := hrel
      cases gk with
      | zero => exact absurd HA.out (by simp [span_Places.l1])
      | succ k2 =>
       have H := HA.out
       clear HA
       simp only [span_Places.l1] at H
       replace H := ifd H
       rcases H with ⟨-, c16b0, H⟩ | ⟨-, c16b0, H⟩
       ·replace H := ifn H
        obtain ⟨c17, -, H⟩ := H
        have LMc17 := Aside0.mk c17
        clear c17
        obtain ⟨y156, hy156⟩ : ∃ y_ : List Int, y_ = (x4_2 ++ [x7_2]) := ⟨_, rfl⟩
        replace H : (span_Places.l1 k2 y156 (wrap64 (x7_2 + 1)) l0 (l0.length : Int) x16_1 ((rd_T70 l0 x16_1).f0) ((rd_T70 l0 x16_1).f1)) = some (r1, r2) := by (rw [hy156]; with_reducible exact H)
        have Ny156 := Aside0.mk hy156
        clear hy156
        have H' := Aside0.mk H
        clear H
        obtain ⟨hcz18_0, hcz18_1, hfz18_0, hfz18_1⟩ := b2 BK155
        go_wp2_with (((with_reducible refine gate_builtin (b := .append) (xs := #[.tmp 28, .tmp 30]) rfl ?_); at_builtin; refine Kd.R_append (Kd.int .i64) (w0 := w) w.heap.size rfl (.tmp 28) (.tmp 30) 27 3 (.int .i64 0) 8 rfl Tryz.underlying27 info3 rfl (by decide) (by omega) u4 x4_2 x7_2 [.int .i64 x7_2] (fun _ => True) (fun _ => False) rfl rfl ?aP (fun _ hk => hk.elim) ?aF ?aO ?aB ?aS ?aL ?_; (case aP => exact rfl); (case aB => exact (bh HB.out)); (case aF => exact (fun _ _ => trivial)); (case aO => exact (rx HO_4.out)); (case aS => exact (below_size (bh HB.out))); (case aL => have := LMc17.out; omega); intro v157 w19 ho hb hg hat; rw [← Ny156.out] at ho; have n0_ := Aside0.mk (blk_grown (g := gb155) (o := .cells #[.int .i64 ((rd_T70 l0 x16_1).f0), .int .i64 ((rd_T70 l0 x16_1).f1)] 70 (0, 0)) (bx BK155.out) hg (Kd.R_ne HO_4.out BK155.out (by decide))); have n1_ := Aside0.mk (hb); have n2_ := Aside0.mk (ho); clear BK155 HB HO_4; have BK155 := n0_; have HB := n1_; have HO158 := n2_; clear n0_ n1_ n2_ ho hb hg hat))
        go_roundg k2
        case measure => have := HK1.out; have := HK2.out; omega
        case rel => exact ⟨(y156), (wrap64 (x7_2 + 1)), (by rfl), H', ⟨by have := HK1.out; have := HK2.out; omega⟩, ⟨by exact HO158.out⟩, ⟨bx BK155.out⟩, ⟨bh HB.out⟩⟩
       ·have H' := Aside0.mk H
        clear H
        obtain ⟨hcz20_0, hcz20_1, hfz20_0, hfz20_1⟩ := b2 BK155
        go_wp2
        go_roundg k2
        case measure => have := HK1.out; have := HK2.out; omega
        case rel => exact ⟨(x4_2), (wrap64 (x16_1 + 1)), (by rfl), H', ⟨by have := HK1.out; have := HK2.out; omega⟩, ⟨by exact HO_4.out⟩, ⟨bh HB.out⟩⟩
    ·simp only [Option.some.injEq, Prod.mk.injEq] at H
     obtain ⟨rfl, rfl⟩ := H
     go_wp2
     go_ret2
     exact ⟨_, er, by exact HO_4.out, bh HB.out⟩
 ·simp only [Option.some.injEq, Prod.mk.injEq] at H
  obtain ⟨rfl, rfl⟩ := H
  go_enter Tryz.func104, Tryz.ntmps104
  go_wp2_with (((with_reducible refine gate_callee (f := 62) rfl ?_); refine gL 9 Tryz.func62 #[.slice A0 l0.length c0] ?_; (with_reducible refine (span_May.calls k _ _ l0 false _ ?side1 ?side2 A2.out).mono ?_); (case side1 => exact cx HR0.out); (case side2 => exact HC0.out); rintro e w21 ⟨rfl, hb⟩; refine ⟨_, rfl, ?_⟩; replace HB := bsa HB hb; clear hb))
  go_ret2
  exact ⟨_, er, nl, bh HB.out⟩
/-! ### poslist_Of: function 64 -/
def poslist_Of.f (k : Nat) (l0 : List (S70)) (a1 : Int) : Option (Int × (List (S70)) × List Int × List Int × Int) := (span_May.f k l0).bind fun t160 => (if t160 = true then (if a1 = 1 then ((api_Span_44.f l0).bind fun t162 => (some (a1, t162, ([] : List Int), ([] : List Int), 0))) else (if a1 = 2 then ((words_Of.f k l0).bind fun bt165 => (some (a1, ([] : List (S70)), bt165.1, ([] : List Int), 0))) else (if a1 = 3 then ((span_Places.f k l0).bind fun bt169 => (some (a1, ([] : List (S70)), ([] : List Int), bt169.1, 0))) else (some (0, ([] : List (S70)), ([] : List Int), ([] : List Int), 1))))) else (some (0, ([] : List (S70)), ([] : List Int), ([] : List Int), 1)))
set_option maxHeartbeats 8000000 in
set_option maxRecDepth 100000 in
theorem poslist_Of.calls (k : Nat) (A0 : Option Addr) (c0 : Nat) (l0 : List (S70)) (a1 : Int) (r1 : Int) (r2 : List (S70)) (r3 : List Int) (r4 : List Int) (r5 : Int) (w : World) (hr0 : Kd.C k70 w A0 l0.length l0) (hc0 : l0.length ≤ c0) (h : poslist_Of.f k l0 a1 = some (r1, r2, r3, r4, r5)) :
  Calls Tryz.prog 64 #[.slice A0 l0.length c0, .int .i64 a1] w fun e w' => ∃ v1_ v2_ v3_ : Value, e = .returned (.tuple #[.agg #[.int .i64 r1, v1_, v2_, v3_], .int .i64 r5]) ∧ Kd.R k70 70 w' w.heap.size (fun _ => True) v1_ r2 ∧ Kd.R (Kd.int .i64) 3 w' w.heap.size (fun k_ => some k_ ≠ (v3_ : Value).ownBlock) v2_ r3 ∧ Kd.R (Kd.int .i64) 3 w' w.heap.size (fun k_ => some k_ ≠ (v2_ : Value).ownBlock) v3_ r4 ∧ Below w.heap.size w w' := by
 have hu29 := Tryz.underlying29
 have HR0 := Aside0.mk hr0
 have HC0 := Aside0.mk hc0
 clear hr0 hc0
 have HB := Aside0.mk (Below.refl w.heap.size w)
 have H := h
 clear h
 unfold poslist_Of.f at H
 replace H := bd H
 obtain ⟨t160, A3, H⟩ := H
 replace H := ifb H
 rcases H with ⟨rfl, H⟩ | ⟨rfl, H⟩
 ·replace H := ife H
  rcases H with ⟨-, c5b0, c5b1, H⟩ | ⟨c5, c5b0, c5b1, H⟩
  ·replace H := bd H
   obtain ⟨t162, A6, H⟩ := H
   simp only [Option.some.injEq, Prod.mk.injEq] at H
   obtain ⟨rfl, rfl, rfl, rfl, rfl⟩ := H
   go_enter Tryz.func64, Tryz.ntmps64
   go_wp2_with (first | ((with_reducible refine gate_dst (N := 4) rfl ?_); refine boxE HB 4 29 #[.int .i64 0, .slice none 0 0, .slice none 0 0, .slice none 0 0] ?_; clear HB; intro gb159 w7 BK159 GW159 hg hb HB; have GE159 := GW159; clear hb hg) | ((with_reducible refine gate_callee (f := 62) rfl ?_); refine gL 8 Tryz.func62 #[.slice A0 l0.length c0] ?_; (with_reducible refine (span_May.calls k _ _ l0 true _ ?side1 ?side2 A3.out).mono ?_); (case side1 => exact cx (Kd.C_below HR0.out HB.out)); (case side2 => exact HC0.out); rintro e w8 ⟨rfl, hb⟩; refine ⟨_, rfl, ?_⟩; replace BK159 := bba BK159 hb; replace HB := bsa HB hb; clear hb) | ((with_reducible refine gate_dst (N := 6) rfl ?_); refine boxE HB 6 29 #[.int .i64 0, .slice none 0 0, .slice none 0 0, .slice none 0 0] ?_; clear HB; intro gb161 w9 BK161 GW161 hg hb HB; have GE161 := GW161; have NB159_161 := bna BK159 hg; have NB161_159 := bma BK159 hg; replace BK159 := bba BK159 hb; clear hb hg; have hnb10 := NB161_159.out; have hnc10 := NB159_161.out; obtain ⟨hcz11_0, hcz11_1, hcz11_2, hcz11_3, hfz11_0, hfz11_1, hfz11_2, hfz11_3⟩ := b4 BK161) | ((with_reducible refine gate_store (t := 29) (p := 6) rfl ?_); refine stE 29 6 ((((w9.setCell ⟨gb161, 0, none⟩ (.int .i64 a1)).setCell ⟨gb161, 1, none⟩ (.slice none 0 0)).setCell ⟨gb161, 2, none⟩ (.slice none 0 0)).setCell ⟨gb161, 3, none⟩ (.slice none 0 0)) ?_; intro w12 hw; have n0_ : Aside0 (w12.heap[gb159]? = some (.cells #[.int .i64 0, .slice none 0 0, .slice none 0 0, .slice none 0 0] 29 (0, 0))) := ⟨(by rw [hw]; exact (bx BK159.out))⟩; have n1_ := sps #[.int .i64 a1, .slice none 0 0, .slice none 0 0, .slice none 0 0] BK161 hw (.p (.p (.p (.p .nil)))); have n2_ := bhw HB hw; clear hw BK159 BK161 HB; have BK159 := n0_; have BK161 := n1_; have HB := n2_; clear n0_ n1_ n2_) | ((with_reducible refine gate_callee (f := 44) rfl ?_); refine gL 18 Tryz.func44 #[.slice A0 l0.length c0] ?_; (with_reducible refine (api_Span_44.calls _ _ l0 t162 _ ?side1 ?side2 A6.out).mono ?_); (case side1 => exact cx (Kd.C_below HR0.out HB.out)); (case side2 => exact HC0.out); rintro e w13 ⟨v163, rfl, ho0, hb⟩; refine ⟨_, rfl, ?_⟩; have HO164 := Aside0.mk (Kd.R_lower ho0 (below_size (bh HB.out))); replace BK159 := bba BK159 hb; replace BK161 := bba BK161 hb; replace HB := bsa HB hb; clear hb ho0; obtain ⟨Ao14, co14, eo14⟩ := Kd.R_slice HO164.out; subst eo14; obtain ⟨hcz15_0, hcz15_1, hcz15_2, hcz15_3, hfz15_0, hfz15_1, hfz15_2, hfz15_3⟩ := b4 BK161; obtain ⟨hcz16_0, hcz16_1, hcz16_2, hcz16_3, hfz16_0, hfz16_1, hfz16_2, hfz16_3⟩ := b4 BK159) | ((with_reducible refine gate_store (t := 29) (p := 4) rfl ?_); refine stE 29 4 (((((w13.setCell ⟨gb161, 1, none⟩ (.slice Ao14 t162.length co14)).setCell ⟨gb159, 0, none⟩ (.int .i64 a1)).setCell ⟨gb159, 1, none⟩ (.slice Ao14 t162.length co14)).setCell ⟨gb159, 2, none⟩ (.slice none 0 0)).setCell ⟨gb159, 3, none⟩ (.slice none 0 0)) ?_; intro w17 hw; replace HO164 := rsm (fun _ => True) HO164 hw (fun _ hk => trivial); replace BK159 := sps #[.int .i64 a1, .slice Ao14 t162.length co14, .slice none 0 0, .slice none 0 0] BK159 hw (.p (.p (.p (.p (.f NB159_161 .nil))))); replace BK161 := sps #[.int .i64 a1, .slice Ao14 t162.length co14, .slice none 0 0, .slice none 0 0] BK161 hw (.f NB161_159 (.f NB161_159 (.f NB161_159 (.f NB161_159 (.p .nil))))); replace HB := bhw HB hw; clear hw))
   refine bodyPost_ret (results_ct rfl _ _ gb159 29 #[.int .i64 a1, .slice Ao14 t162.length co14, .slice none 0 0, .slice none 0 0] (0, 0) _ rfl (bx BK159.out) Tryz.underlying29 rfl (by kernel_rfl)) rfl ?_
   exact ⟨_, _, _, er, by exact HO164.out, nl, nl, bh HB.out⟩
  ·replace H := ife H
   rcases H with ⟨-, c18b0, c18b1, H⟩ | ⟨c18, c18b0, c18b1, H⟩
   ·replace H := bd H
    obtain ⟨⟨t165, t166⟩, A19, H⟩ := H
    dsimp only at H
    simp only [Option.some.injEq, Prod.mk.injEq] at H
    obtain ⟨rfl, rfl, rfl, rfl, rfl⟩ := H
    go_enter Tryz.func64, Tryz.ntmps64
    go_wp2_with (first | ((with_reducible refine gate_dst (N := 4) rfl ?_); refine boxE HB 4 29 #[.int .i64 0, .slice none 0 0, .slice none 0 0, .slice none 0 0] ?_; clear HB; intro gb159 w20 BK159 GW159 hg hb HB; have GE159 := GW159; clear hb hg) | ((with_reducible refine gate_callee (f := 62) rfl ?_); refine gL 8 Tryz.func62 #[.slice A0 l0.length c0] ?_; (with_reducible refine (span_May.calls k _ _ l0 true _ ?side1 ?side2 A3.out).mono ?_); (case side1 => exact cx (Kd.C_below HR0.out HB.out)); (case side2 => exact HC0.out); rintro e w21 ⟨rfl, hb⟩; refine ⟨_, rfl, ?_⟩; replace BK159 := bba BK159 hb; replace HB := bsa HB hb; clear hb) | ((with_reducible refine gate_dst (N := 6) rfl ?_); refine boxE HB 6 29 #[.int .i64 0, .slice none 0 0, .slice none 0 0, .slice none 0 0] ?_; clear HB; intro gb161 w22 BK161 GW161 hg hb HB; have GE161 := GW161; have NB159_161 := bna BK159 hg; have NB161_159 := bma BK159 hg; replace BK159 := bba BK159 hb; clear hb hg; have hnb23 := NB161_159.out; have hnc23 := NB159_161.out; obtain ⟨hcz24_0, hcz24_1, hcz24_2, hcz24_3, hfz24_0, hfz24_1, hfz24_2, hfz24_3⟩ := b4 BK161) | ((with_reducible refine gate_store (t := 29) (p := 6) rfl ?_); refine stE 29 6 ((((w22.setCell ⟨gb161, 0, none⟩ (.int .i64 a1)).setCell ⟨gb161, 1, none⟩ (.slice none 0 0)).setCell ⟨gb161, 2, none⟩ (.slice none 0 0)).setCell ⟨gb161, 3, none⟩ (.slice none 0 0)) ?_; intro w25 hw; have n0_ : Aside0 (w25.heap[gb159]? = some (.cells #[.int .i64 0, .slice none 0 0, .slice none 0 0, .slice none 0 0] 29 (0, 0))) := ⟨(by rw [hw]; exact (bx BK159.out))⟩; have n1_ := sps #[.int .i64 a1, .slice none 0 0, .slice none 0 0, .slice none 0 0] BK161 hw (.p (.p (.p (.p .nil)))); have n2_ := bhw HB hw; clear hw BK159 BK161 HB; have BK159 := n0_; have BK161 := n1_; have HB := n2_; clear n0_ n1_ n2_) | ((with_reducible refine gate_callee (f := 103) rfl ?_); refine gL 24 Tryz.func103 #[.slice A0 l0.length c0] ?_; (with_reducible refine (words_Of.calls k _ _ l0 t165 t166 _ ?side1 ?side2 A19.out).mono ?_); (case side1 => exact cx (Kd.C_below HR0.out HB.out)); (case side2 => exact HC0.out); rintro e w26 ⟨v167, rfl, ho0, hb⟩; refine ⟨_, rfl, ?_⟩; have HO168 := Aside0.mk (Kd.R_lower ho0 (below_size (bh HB.out))); replace BK159 := bba BK159 hb; replace BK161 := bba BK161 hb; replace HB := bsa HB hb; clear hb ho0; obtain ⟨Ao27, co27, eo27⟩ := Kd.R_slice HO168.out; subst eo27; obtain ⟨hcz28_0, hcz28_1, hcz28_2, hcz28_3, hfz28_0, hfz28_1, hfz28_2, hfz28_3⟩ := b4 BK161; obtain ⟨hcz29_0, hcz29_1, hcz29_2, hcz29_3, hfz29_0, hfz29_1, hfz29_2, hfz29_3⟩ := b4 BK159) | ((with_reducible refine gate_store (t := 29) (p := 4) rfl ?_); refine stE 29 4 (((((w26.setCell ⟨gb161, 2, none⟩ (.slice Ao27 t165.length co27)).setCell ⟨gb159, 0, none⟩ (.int .i64 a1)).setCell ⟨gb159, 1, none⟩ (.slice none 0 0)).setCell ⟨gb159, 2, none⟩ (.slice Ao27 t165.length co27)).setCell ⟨gb159, 3, none⟩ (.slice none 0 0)) ?_; intro w30 hw; replace HO168 := rsm (fun _ => True) HO168 hw (fun _ hk => trivial); replace BK159 := sps #[.int .i64 a1, .slice none 0 0, .slice Ao27 t165.length co27, .slice none 0 0] BK159 hw (.p (.p (.p (.p (.f NB159_161 .nil))))); replace BK161 := sps #[.int .i64 a1, .slice none 0 0, .slice Ao27 t165.length co27, .slice none 0 0] BK161 hw (.f NB161_159 (.f NB161_159 (.f NB161_159 (.f NB161_159 (.p .nil))))); replace HB := bhw HB hw; clear hw))
    refine bodyPost_ret (results_ct rfl _ _ gb159 29 #[.int .i64 a1, .slice none 0 0, .slice Ao27 t165.length co27, .slice none 0 0] (0, 0) _ rfl (bx BK159.out) Tryz.underlying29 rfl (by kernel_rfl)) rfl ?_
    exact ⟨_, _, _, er, nl, by exact Kd.R_mono HO168.out (fun _ hk => (by simp [Value.ownBlock])), nl, bh HB.out⟩
   ·replace H := ife H
    rcases H with ⟨-, c31b0, c31b1, H⟩ | ⟨c31, c31b0, c31b1, H⟩
    ·replace H := bd H
     obtain ⟨⟨t169, t170⟩, A32, H⟩ := H
     dsimp only at H
     simp only [Option.some.injEq, Prod.mk.injEq] at H
     obtain ⟨rfl, rfl, rfl, rfl, rfl⟩ := H
     go_enter Tryz.func64, Tryz.ntmps64
     go_wp2_with (first | ((with_reducible refine gate_dst (N := 4) rfl ?_); refine boxE HB 4 29 #[.int .i64 0, .slice none 0 0, .slice none 0 0, .slice none 0 0] ?_; clear HB; intro gb159 w33 BK159 GW159 hg hb HB; have GE159 := GW159; clear hb hg) | ((with_reducible refine gate_callee (f := 62) rfl ?_); refine gL 8 Tryz.func62 #[.slice A0 l0.length c0] ?_; (with_reducible refine (span_May.calls k _ _ l0 true _ ?side1 ?side2 A3.out).mono ?_); (case side1 => exact cx (Kd.C_below HR0.out HB.out)); (case side2 => exact HC0.out); rintro e w34 ⟨rfl, hb⟩; refine ⟨_, rfl, ?_⟩; replace BK159 := bba BK159 hb; replace HB := bsa HB hb; clear hb) | ((with_reducible refine gate_dst (N := 6) rfl ?_); refine boxE HB 6 29 #[.int .i64 0, .slice none 0 0, .slice none 0 0, .slice none 0 0] ?_; clear HB; intro gb161 w35 BK161 GW161 hg hb HB; have GE161 := GW161; have NB159_161 := bna BK159 hg; have NB161_159 := bma BK159 hg; replace BK159 := bba BK159 hb; clear hb hg; have hnb36 := NB161_159.out; have hnc36 := NB159_161.out; obtain ⟨hcz37_0, hcz37_1, hcz37_2, hcz37_3, hfz37_0, hfz37_1, hfz37_2, hfz37_3⟩ := b4 BK161) | ((with_reducible refine gate_store (t := 29) (p := 6) rfl ?_); refine stE 29 6 ((((w35.setCell ⟨gb161, 0, none⟩ (.int .i64 a1)).setCell ⟨gb161, 1, none⟩ (.slice none 0 0)).setCell ⟨gb161, 2, none⟩ (.slice none 0 0)).setCell ⟨gb161, 3, none⟩ (.slice none 0 0)) ?_; intro w38 hw; have n0_ : Aside0 (w38.heap[gb159]? = some (.cells #[.int .i64 0, .slice none 0 0, .slice none 0 0, .slice none 0 0] 29 (0, 0))) := ⟨(by rw [hw]; exact (bx BK159.out))⟩; have n1_ := sps #[.int .i64 a1, .slice none 0 0, .slice none 0 0, .slice none 0 0] BK161 hw (.p (.p (.p (.p .nil)))); have n2_ := bhw HB hw; clear hw BK159 BK161 HB; have BK159 := n0_; have BK161 := n1_; have HB := n2_; clear n0_ n1_ n2_) | ((with_reducible refine gate_callee (f := 104) rfl ?_); refine gL 32 Tryz.func104 #[.slice A0 l0.length c0] ?_; (with_reducible refine (span_Places.calls k _ _ l0 t169 t170 _ ?side1 ?side2 A32.out).mono ?_); (case side1 => exact cx (Kd.C_below HR0.out HB.out)); (case side2 => exact HC0.out); rintro e w39 ⟨v171, rfl, ho0, hb⟩; refine ⟨_, rfl, ?_⟩; have HO172 := Aside0.mk (Kd.R_lower ho0 (below_size (bh HB.out))); replace BK159 := bba BK159 hb; replace BK161 := bba BK161 hb; replace HB := bsa HB hb; clear hb ho0; obtain ⟨Ao40, co40, eo40⟩ := Kd.R_slice HO172.out; subst eo40; obtain ⟨hcz41_0, hcz41_1, hcz41_2, hcz41_3, hfz41_0, hfz41_1, hfz41_2, hfz41_3⟩ := b4 BK161; obtain ⟨hcz42_0, hcz42_1, hcz42_2, hcz42_3, hfz42_0, hfz42_1, hfz42_2, hfz42_3⟩ := b4 BK159) | ((with_reducible refine gate_store (t := 29) (p := 4) rfl ?_); refine stE 29 4 (((((w39.setCell ⟨gb161, 3, none⟩ (.slice Ao40 t169.length co40)).setCell ⟨gb159, 0, none⟩ (.int .i64 a1)).setCell ⟨gb159, 1, none⟩ (.slice none 0 0)).setCell ⟨gb159, 2, none⟩ (.slice none 0 0)).setCell ⟨gb159, 3, none⟩ (.slice Ao40 t169.length co40)) ?_; intro w43 hw; replace HO172 := rsm (fun _ => True) HO172 hw (fun _ hk => trivial); replace BK159 := sps #[.int .i64 a1, .slice none 0 0, .slice none 0 0, .slice Ao40 t169.length co40] BK159 hw (.p (.p (.p (.p (.f NB159_161 .nil))))); replace BK161 := sps #[.int .i64 a1, .slice none 0 0, .slice none 0 0, .slice Ao40 t169.length co40] BK161 hw (.f NB161_159 (.f NB161_159 (.f NB161_159 (.f NB161_159 (.p .nil))))); replace HB := bhw HB hw; clear hw))
     refine bodyPost_ret (results_ct rfl _ _ gb159 29 #[.int .i64 a1, .slice none 0 0, .slice none 0 0, .slice Ao40 t169.length co40] (0, 0) _ rfl (bx BK159.out) Tryz.underlying29 rfl (by kernel_rfl)) rfl ?_
     exact ⟨_, _, _, er, nl, nl, by exact Kd.R_mono HO172.out (fun _ hk => (by simp [Value.ownBlock])), bh HB.out⟩
    ·simp only [Option.some.injEq, Prod.mk.injEq] at H
     obtain ⟨rfl, rfl, rfl, rfl, rfl⟩ := H
     go_enter Tryz.func64, Tryz.ntmps64
     go_wp2_with (first | ((with_reducible refine gate_dst (N := 4) rfl ?_); refine boxE HB 4 29 #[.int .i64 0, .slice none 0 0, .slice none 0 0, .slice none 0 0] ?_; clear HB; intro gb159 w44 BK159 GW159 hg hb HB; have GE159 := GW159; clear hb hg) | ((with_reducible refine gate_callee (f := 62) rfl ?_); refine gL 8 Tryz.func62 #[.slice A0 l0.length c0] ?_; (with_reducible refine (span_May.calls k _ _ l0 true _ ?side1 ?side2 A3.out).mono ?_); (case side1 => exact cx (Kd.C_below HR0.out HB.out)); (case side2 => exact HC0.out); rintro e w45 ⟨rfl, hb⟩; refine ⟨_, rfl, ?_⟩; replace BK159 := bba BK159 hb; replace HB := bsa HB hb; clear hb) | ((with_reducible refine gate_dst (N := 6) rfl ?_); refine boxE HB 6 29 #[.int .i64 0, .slice none 0 0, .slice none 0 0, .slice none 0 0] ?_; clear HB; intro gb161 w46 BK161 GW161 hg hb HB; have GE161 := GW161; have NB159_161 := bna BK159 hg; have NB161_159 := bma BK159 hg; replace BK159 := bba BK159 hb; clear hb hg; have hnb47 := NB161_159.out; have hnc47 := NB159_161.out; obtain ⟨hcz48_0, hcz48_1, hcz48_2, hcz48_3, hfz48_0, hfz48_1, hfz48_2, hfz48_3⟩ := b4 BK161) | ((with_reducible refine gate_store (t := 29) (p := 6) rfl ?_); refine stE 29 6 ((((w46.setCell ⟨gb161, 0, none⟩ (.int .i64 a1)).setCell ⟨gb161, 1, none⟩ (.slice none 0 0)).setCell ⟨gb161, 2, none⟩ (.slice none 0 0)).setCell ⟨gb161, 3, none⟩ (.slice none 0 0)) ?_; intro w49 hw; have n0_ : Aside0 (w49.heap[gb159]? = some (.cells #[.int .i64 0, .slice none 0 0, .slice none 0 0, .slice none 0 0] 29 (0, 0))) := ⟨(by rw [hw]; exact (bx BK159.out))⟩; have n1_ := sps #[.int .i64 a1, .slice none 0 0, .slice none 0 0, .slice none 0 0] BK161 hw (.p (.p (.p (.p .nil)))); have n2_ := bhw HB hw; clear hw BK159 BK161 HB; have BK159 := n0_; have BK161 := n1_; have HB := n2_; clear n0_ n1_ n2_; obtain ⟨hcz50_0, hcz50_1, hcz50_2, hcz50_3, hfz50_0, hfz50_1, hfz50_2, hfz50_3⟩ := b4 BK159) | ((with_reducible refine gate_store (t := 29) (p := 4) rfl ?_); refine stE 29 4 ((((w49.setCell ⟨gb159, 0, none⟩ (.int .i64 0)).setCell ⟨gb159, 1, none⟩ (.slice none 0 0)).setCell ⟨gb159, 2, none⟩ (.slice none 0 0)).setCell ⟨gb159, 3, none⟩ (.slice none 0 0)) ?_; intro w51 hw; have n0_ := sps #[.int .i64 0, .slice none 0 0, .slice none 0 0, .slice none 0 0] BK159 hw (.p (.p (.p (.p .nil)))); have n1_ : Aside0 (w51.heap[gb161]? = some (.cells #[.int .i64 a1, .slice none 0 0, .slice none 0 0, .slice none 0 0] 29 (0, 0))) := ⟨(by rw [hw]; exact (bx BK161.out))⟩; have n2_ := bhw HB hw; clear hw BK159 BK161 HB; have BK159 := n0_; have BK161 := n1_; have HB := n2_; clear n0_ n1_ n2_))
     refine bodyPost_ret (results_ct rfl _ _ gb159 29 #[.int .i64 0, .slice none 0 0, .slice none 0 0, .slice none 0 0] (0, 0) _ rfl (bx BK159.out) Tryz.underlying29 rfl (by kernel_rfl)) rfl ?_
     exact ⟨_, _, _, er, nl, nl, nl, bh HB.out⟩
 ·simp only [Option.some.injEq, Prod.mk.injEq] at H
  obtain ⟨rfl, rfl, rfl, rfl, rfl⟩ := H
  go_enter Tryz.func64, Tryz.ntmps64
  go_wp2_with (first | ((with_reducible refine gate_dst (N := 4) rfl ?_); refine boxE HB 4 29 #[.int .i64 0, .slice none 0 0, .slice none 0 0, .slice none 0 0] ?_; clear HB; intro gb159 w52 BK159 GW159 hg hb HB; have GE159 := GW159; clear hb hg) | ((with_reducible refine gate_callee (f := 62) rfl ?_); refine gL 8 Tryz.func62 #[.slice A0 l0.length c0] ?_; (with_reducible refine (span_May.calls k _ _ l0 false _ ?side1 ?side2 A3.out).mono ?_); (case side1 => exact cx (Kd.C_below HR0.out HB.out)); (case side2 => exact HC0.out); rintro e w53 ⟨rfl, hb⟩; refine ⟨_, rfl, ?_⟩; replace BK159 := bba BK159 hb; replace HB := bsa HB hb; clear hb; obtain ⟨hcz54_0, hcz54_1, hcz54_2, hcz54_3, hfz54_0, hfz54_1, hfz54_2, hfz54_3⟩ := b4 BK159) | ((with_reducible refine gate_store (t := 29) (p := 4) rfl ?_); refine stE 29 4 ((((w53.setCell ⟨gb159, 0, none⟩ (.int .i64 0)).setCell ⟨gb159, 1, none⟩ (.slice none 0 0)).setCell ⟨gb159, 2, none⟩ (.slice none 0 0)).setCell ⟨gb159, 3, none⟩ (.slice none 0 0)) ?_; intro w55 hw; replace BK159 := sps #[.int .i64 0, .slice none 0 0, .slice none 0 0, .slice none 0 0] BK159 hw (.p (.p (.p (.p .nil)))); replace HB := bhw HB hw; clear hw))
  refine bodyPost_ret (results_ct rfl _ _ gb159 29 #[.int .i64 0, .slice none 0 0, .slice none 0 0, .slice none 0 0] (0, 0) _ rfl (bx BK159.out) Tryz.underlying29 rfl (by kernel_rfl)) rfl ?_
  exact ⟨_, _, _, er, nl, nl, nl, bh HB.out⟩
end Go.Proofs.YtdgphlkbmplbpaaGreat.Print
end
section
namespace Go.Proofs.YtdgphlkbmplbpaaGreat.Print
open Go.RowKit Go.Proofs.YtdgphlkbmplbpaaGreatW.PrintWords Go.Proofs.YtdgphlkbmplbpaaGreatW.PrintLast Go.Proofs.YtdgphlkbmplbpaaGreatW.PrintMore
attribute [local go_sem] max2_int min2_int max_two min_two max_three min_three max_four min_four   -- for this text's walks alone
set_option linter.unusedVariables false
set_option linter.unusedSimpArgs false
/-! ### poslist_Best: function 35 (a contract of the session's own) -/
def poslist_Best.b1 (c1 c2 : Int) : Int := if c2 < c1 then 2 else 1
def poslist_Best.b2 (c1 c2 c3 : Int) : Int := if c2 < c1 then (if c3 < c2 then 3 else 2) else (if c3 < c1 then 3 else 1)
def poslist_Best.f (k : Nat) (l0 : List S70) : Option (Int × (List (S70)) × List Int × List Int × Int) := (span_May.f k l0).bind fun a => if a = true then ((poslist_costs.f k l0).bind fun c => poslist_Of.f k l0 (poslist_Best.b2 c.2.1 c.2.2.1 c.2.2.2)) else some (0, ([] : List (S70)), ([] : List Int), ([] : List Int), 1)
set_option maxHeartbeats 8000000 in
set_option maxRecDepth 100000 in
theorem poslist_Best.calls (k : Nat) (A0 : Option Addr) (c0 : Nat) (l0 : List (S70)) (r1 : Int) (r2 : List (S70)) (r3 : List Int) (r4 : List Int) (r5 : Int) (w : World) (hr0 : Kd.C k70 w A0 l0.length l0) (hc0 : l0.length ≤ c0) (h : poslist_Best.f k l0 = some (r1, r2, r3, r4, r5)) :
    Calls Tryz.prog 35 #[.slice A0 l0.length c0] w fun e w' => ∃ v1_ v2_ v3_ : Value, e = .returned (.tuple #[.agg #[.int .i64 r1, v1_, v2_, v3_], .int .i64 r5]) ∧ Kd.R k70 70 w' w.heap.size (fun _ => True) v1_ r2 ∧ Kd.R (Kd.int .i64) 3 w' w.heap.size (fun k_ => some k_ ≠ (v3_ : Value).ownBlock) v2_ r3 ∧ Kd.R (Kd.int .i64) 3 w' w.heap.size (fun k_ => some k_ ≠ (v2_ : Value).ownBlock) v3_ r4 ∧ Below w.heap.size w w' := by
 have hu27 := Tryz.underlying29
 have hu67 := Tryz.underlying110
 have HR0 := Aside0.mk hr0
 have HC0 := Aside0.mk hc0
 clear hr0 hc0
 have HB := Aside0.mk (Below.refl w.heap.size w)
 obtain ⟨a, A1_, H⟩ := Option.bind_eq_some_iff.mp (show ((span_May.f k l0).bind fun a => if a = true then ((poslist_costs.f k l0).bind fun c => poslist_Of.f k l0 (poslist_Best.b2 c.2.1 c.2.2.1 c.2.2.2)) else some (0, ([] : List (S70)), ([] : List Int), ([] : List Int), 1)) = some (r1, r2, r3, r4, r5) from h)
 clear h
 have H1 := Aside0.mk A1_
 clear A1_
 cases a with
 | false =>
   simp only [Bool.false_eq_true, if_false, Option.some.injEq, Prod.mk.injEq] at H
   obtain ⟨rfl, rfl, rfl, rfl, rfl⟩ := H
   go_enter Tryz.func35, Tryz.ntmps35
   go_wp2_with (first | ((with_reducible refine gate_dst (N := 2) rfl ?_); refine box_event ?hg (N := 2) ?hd (cs := #[.int .i64 0, .slice none 0 0, .slice none 0 0, .slice none 0 0]) (t := 29) ?hr ?_; (case hd => rfl); (case hg => rfl); (case hr => (go_simp; done)); intro g2 hg w2 hbox hb; have n0_ := Aside0.mk (below_step HB.out hb); have n1_ := Aside0.mk (hbox); have n2_ := Aside0.mk ((by rw [hg]; exact below_size HB.out : w.heap.size ≤ g2)); clear HB; have HB := n0_; have BK2 := n1_; have GE2 := n2_; clear n0_ n1_ n2_ hb hbox hg) | (go_at_call 62; (with_reducible refine (span_May.calls k _ _ l0 false _ ?side1 ?side2 H1.out).mono ?_); (case side1 => exact (Kd.C_below HR0.out HB.out)); (case side2 => exact HC0.out); rintro e w3 ⟨rfl, hb⟩; have n0_ := Aside0.mk (below_step HB.out hb); have n1_ := Aside0.mk (blk_below BK2.out hb); clear HB BK2; have HB := n0_; have BK2 := n1_; clear n0_ n1_ hb; obtain ⟨hc20, hc21, hc22, hc23, hf20, hf21, hf22, hf23⟩ := b4 BK2))
   refine bodyPost_ret (results_ct rfl _ _ g2 29 #[.int .i64 0, .slice none 0 0, .slice none 0 0, .slice none 0 0] (0, 0) _ rfl (by refine blk_put (cs := #[.int .i64 0, .slice none 0 0, .slice none 0 0, .slice none 0 0]) ?_ 3 _ rfl; refine blk_put (cs := #[.int .i64 0, .slice none 0 0, .slice none 0 0, .slice none 0 0]) ?_ 2 _ rfl; refine blk_put (cs := #[.int .i64 0, .slice none 0 0, .slice none 0 0, .slice none 0 0]) ?_ 1 _ rfl; refine blk_put (cs := #[.int .i64 0, .slice none 0 0, .slice none 0 0, .slice none 0 0]) ?_ 0 _ rfl; exact BK2.out) Tryz.underlying29 rfl (by kernel_rfl)) rfl ?_
   exact ⟨_, _, _, rfl, Kd.R_nil _ _ _ _ _, Kd.R_nil _ _ _ _ _, Kd.R_nil _ _ _ _ _, bh HB.out⟩
 | true =>
   rw [if_pos rfl] at H
   obtain ⟨⟨z0, z1, z2, z3⟩, A2_, H⟩ := Option.bind_eq_some_iff.mp H
   have H2 := Aside0.mk A2_
   clear A2_
   dsimp only at H
   have H3 := Aside0.mk H
   clear H
   go_enter Tryz.func35, Tryz.ntmps35
   go_wp2_with (first | ((with_reducible refine gate_dst (N := 2) rfl ?_); refine box_event ?hg (N := 2) ?hd (cs := #[.int .i64 0, .slice none 0 0, .slice none 0 0, .slice none 0 0]) (t := 29) ?hr ?_; (case hd => rfl); (case hg => rfl); (case hr => (go_simp; done)); intro g2 hg w2 hbox hb; have n0_ := Aside0.mk (below_step HB.out hb); have n1_ := Aside0.mk (hbox); have n2_ := Aside0.mk ((by rw [hg]; exact below_size HB.out : w.heap.size ≤ g2)); clear HB; have HB := n0_; have BK2 := n1_; have GE2 := n2_; clear n0_ n1_ n2_ hb hbox hg) | (go_at_call 62; (with_reducible refine (span_May.calls k _ _ l0 true _ ?side1 ?side2 H1.out).mono ?_); (case side1 => exact (Kd.C_below HR0.out HB.out)); (case side2 => exact HC0.out); rintro e w3 ⟨rfl, hb⟩; have n0_ := Aside0.mk (below_step HB.out hb); have n1_ := Aside0.mk (blk_below BK2.out hb); clear HB BK2; have HB := n0_; have BK2 := n1_; clear n0_ n1_ hb) | (go_at_call 63; (with_reducible refine (poslist_costs.calls k _ _ l0 _ _ _ _ _ ?side1 ?side2 H2.out).mono ?_); (case side1 => exact (Kd.C_below HR0.out HB.out)); (case side2 => exact HC0.out); rintro e w4 ⟨rfl, hb⟩; have n0_ := Aside0.mk (below_step HB.out hb); have n1_ := Aside0.mk (blk_below BK2.out hb); clear HB BK2; have HB := n0_; have BK2 := n1_; clear n0_ n1_ hb) | ((with_reducible refine gate_dst (N := 4) rfl ?_); refine box_event ?hg (N := 4) ?hd (cs := #[.int .i64 0, .int .i64 0, .int .i64 0, .int .i64 0]) (t := 110) ?hr ?_; (case hd => rfl); (case hg => rfl); (case hr => (go_simp; done)); intro g4 hg w5 hbox hb; have n0_ := Aside0.mk (below_step HB.out hb); have n1_ := Aside0.mk (blk_below BK2.out hb); have n2_ := Aside0.mk (hbox); have n3_ := Aside0.mk ((by rw [hg]; exact below_size HB.out : w.heap.size ≤ g4)); have n4_ := Aside0.mk ((by rw [hg]; exact Nat.ne_of_lt (blk_lt BK2.out) : g2 ≠ g4)); have n5_ := Aside0.mk ((by rw [hg]; exact (Nat.ne_of_lt (blk_lt BK2.out)).symm : g4 ≠ g2)); clear HB BK2; have HB := n0_; have BK2 := n1_; have BK4 := n2_; have GE4 := n3_; have NB24 := n4_; have NB42 := n5_; clear n0_ n1_ n2_ n3_ n4_ n5_ hb hbox hg; obtain ⟨hc40, hc41, hc42, hc43, hf40, hf41, hf42, hf43⟩ := b4 BK4))
   go_loopg [5, 6] 3 (fun kq v5 v6 w' => ∃ (b f : Int), v5 = .int .i64 b ∧ v6 = .int .i64 f ∧ Aside0 ((kq = 3 ∧ f = 2 ∧ b = 1) ∨ (kq = 2 ∧ f = 3 ∧ b = poslist_Best.b1 z1 z2) ∨ (kq = 1 ∧ f = 4 ∧ b = poslist_Best.b2 z1 z2 z3)) ∧ Aside0 (w'.heap[g2]? = some (.cells #[.int .i64 0, .slice none 0 0, .slice none 0 0, .slice none 0 0] 29 (0, 0))) ∧ Aside0 (w'.heap[g4]? = some (.cells #[.int .i64 z0, .int .i64 z1, .int .i64 z2, .int .i64 z3] 110 (0, 0))) ∧ Aside0 (Below w.heap.size w w'))
   case atStart => exact ⟨1, 2, rfl, rfl, ⟨.inl ⟨rfl, rfl, rfl⟩⟩, ⟨bx BK2.out⟩, ⟨by refine blk_put (cs := #[.int .i64 z0, .int .i64 z1, .int .i64 z2, .int .i64 0]) ?_ 3 _ rfl; refine blk_put (cs := #[.int .i64 z0, .int .i64 z1, .int .i64 0, .int .i64 0]) ?_ 2 _ rfl; refine blk_put (cs := #[.int .i64 z0, .int .i64 0, .int .i64 0, .int .i64 0]) ?_ 1 _ rfl; refine blk_put (cs := #[.int .i64 0, .int .i64 0, .int .i64 0, .int .i64 0]) ?_ 0 _ rfl; exact BK4.out⟩, ⟨bh HB.out⟩⟩
   case round =>
     clear BK2 BK4 HB
     obtain ⟨b, f, rfl, rfl, HD, BK2, BK4, HB⟩ := hrel
     have hd := HD.out
     clear HD
     obtain ⟨hc40, hc41, hc42, hc43, -, -, -, -⟩ := b4 BK4
     rcases hd with ⟨rfl, rfl, rfl⟩ | ⟨rfl, rfl, rfl⟩ | ⟨rfl, rfl, rfl⟩
     ·by_cases q : z2 < z1
      ·have qb : decide (z2 < z1) = true := decide_eq_true q
       go_wp2
       go_region
       go_wp2
       go_roundg 2
       case measure => omega
       case rel => exact ⟨2, 3, rfl, rfl, ⟨.inr (.inl ⟨rfl, rfl, by rw [poslist_Best.b1, if_pos q]⟩)⟩, ⟨bx BK2.out⟩, ⟨bx BK4.out⟩, ⟨bh HB.out⟩⟩
      ·have qb : decide (z2 < z1) = false := decide_eq_false q
       go_wp2
       go_region
       go_wp2
       go_roundg 2
       case measure => omega
       case rel => exact ⟨1, 3, rfl, rfl, ⟨.inr (.inl ⟨rfl, rfl, by rw [poslist_Best.b1, if_neg (by omega)]⟩)⟩, ⟨bx BK2.out⟩, ⟨bx BK4.out⟩, ⟨bh HB.out⟩⟩
     ·by_cases q : z2 < z1
      ·have e1 : poslist_Best.b1 z1 z2 = 2 := by rw [poslist_Best.b1, if_pos q]
       by_cases p : z3 < z2
       ·have pb : decide (z3 < z2) = true := decide_eq_true p
        rw [e1]
        go_wp2
        go_region
        go_wp2
        go_roundg 1
        case measure => omega
        case rel => exact ⟨3, 4, rfl, rfl, ⟨.inr (.inr ⟨rfl, rfl, by rw [poslist_Best.b2, if_pos q, if_pos p]⟩)⟩, ⟨bx BK2.out⟩, ⟨bx BK4.out⟩, ⟨bh HB.out⟩⟩
       ·have pb : decide (z3 < z2) = false := decide_eq_false p
        rw [e1]
        go_wp2
        go_region
        go_wp2
        go_roundg 1
        case measure => omega
        case rel => exact ⟨2, 4, rfl, rfl, ⟨.inr (.inr ⟨rfl, rfl, by rw [poslist_Best.b2, if_pos q, if_neg (by omega)]⟩)⟩, ⟨bx BK2.out⟩, ⟨bx BK4.out⟩, ⟨bh HB.out⟩⟩
      ·have e1 : poslist_Best.b1 z1 z2 = 1 := by rw [poslist_Best.b1, if_neg (by omega)]
       by_cases p : z3 < z1
       ·have pb : decide (z3 < z1) = true := decide_eq_true p
        rw [e1]
        go_wp2
        go_region
        go_wp2
        go_roundg 1
        case measure => omega
        case rel => exact ⟨3, 4, rfl, rfl, ⟨.inr (.inr ⟨rfl, rfl, by rw [poslist_Best.b2, if_neg (by omega), if_pos p]⟩)⟩, ⟨bx BK2.out⟩, ⟨bx BK4.out⟩, ⟨bh HB.out⟩⟩
       ·have pb : decide (z3 < z1) = false := decide_eq_false p
        rw [e1]
        go_wp2
        go_region
        go_wp2
        go_roundg 1
        case measure => omega
        case rel => exact ⟨1, 4, rfl, rfl, ⟨.inr (.inr ⟨rfl, rfl, by rw [poslist_Best.b2, if_neg (by omega), if_neg (by omega)]⟩)⟩, ⟨bx BK2.out⟩, ⟨bx BK4.out⟩, ⟨bh HB.out⟩⟩
     ·generalize poslist_Best.b2 z1 z2 z3 = bb at H3
      go_wp2_with ((go_at_call 64; (with_reducible refine (poslist_Of.calls k _ _ l0 bb r1 r2 r3 r4 r5 _ ?side1 ?side2 H3.out).mono ?_); (case side1 => exact (Kd.C_below HR0.out HB.out)); (case side2 => exact HC0.out); have hlt2 := blk_lt BK2.out; have HB0 := HB; rintro e w6 ⟨v1, v2, v3, rfl, hv1, hv2, hv3, hb⟩; have n0_ := Aside0.mk (below_step HB.out hb); have n1_ := Aside0.mk (blk_below BK2.out hb); clear HB BK2; have HB := n0_; have BK2 := n1_; clear n0_ n1_ hb; obtain ⟨Av1, cv1, rfl⟩ := Kd.R_slice hv1; obtain ⟨Av2, cv2, rfl⟩ := Kd.R_slice hv2; obtain ⟨Av3, cv3, rfl⟩ := Kd.R_slice hv3; obtain ⟨hc20, hc21, hc22, hc23, hf20, hf21, hf22, hf23⟩ := b4 BK2))
      refine bodyPost_ret (results_ct rfl _ _ g2 29 #[.int .i64 r1, .slice Av1 r2.length cv1, .slice Av2 r3.length cv2, .slice Av3 r4.length cv3] (0, 0) _ rfl (by refine blk_put (cs := #[.int .i64 r1, .slice Av1 r2.length cv1, .slice Av2 r3.length cv2, .slice none 0 0]) ?_ 3 _ rfl; refine blk_put (cs := #[.int .i64 r1, .slice Av1 r2.length cv1, .slice none 0 0, .slice none 0 0]) ?_ 2 _ rfl; refine blk_put (cs := #[.int .i64 r1, .slice none 0 0, .slice none 0 0, .slice none 0 0]) ?_ 1 _ rfl; refine blk_put (cs := #[.int .i64 0, .slice none 0 0, .slice none 0 0, .slice none 0 0]) ?_ 0 _ rfl; exact BK2.out) Tryz.underlying29 rfl (by kernel_rfl)) rfl ?_
      have hw_ := below_size HB0.out
      exact ⟨_, _, _, rfl, Kd.R_lower (XR.R_far (XR.R_far (XR.R_far (XR.R_far hv1 hlt2) hlt2) hlt2) hlt2) hw_, Kd.R_lower (XR.R_far (XR.R_far (XR.R_far (XR.R_far hv2 hlt2) hlt2) hlt2) hlt2) hw_, Kd.R_lower (XR.R_far (XR.R_far (XR.R_far (XR.R_far hv3 hlt2) hlt2) hlt2) hlt2) hw_, bh HB.out⟩
/-! ### span_Of_1: function 74 -/
def span_Of_1.f (a0 : Int) : Option (Bool) := if a0 < 0 then (some true) else (some (decide (a0 ≥ 65536)))
set_option maxHeartbeats 8000000 in
set_option maxRecDepth 100000 in
theorem span_Of_1.calls (a0 : Int) (r : Bool) (w : World) (h : span_Of_1.f a0 = some r) :
  Calls Tryz.prog 74 #[.int .i64 a0] w fun e w' => e = .returned (.bool r) ∧ Drawn0 w w' := by
 have H := h
 clear h
 unfold span_Of_1.f at H
 replace H := ifd H
 rcases H with ⟨-, c2b0, H⟩ | ⟨-, c2b0, H⟩
 ·obtain rfl := Option.some.inj H
  go_enter Tryz.func74, Tryz.ntmps74
  go_wp2
  go_ret
  exact ⟨by rfl, by repeat (exact Drawn0.refl _)⟩
 ·obtain rfl := Option.some.inj H
  go_enter Tryz.func74, Tryz.ntmps74
  go_wp2
  go_ret
  exact ⟨by rfl, by repeat (exact Drawn0.refl _)⟩
/-! ### slices_IndexFunc_int_int_fn74: function 111 -/
def slices_IndexFunc_int_int_fn74.l0 : Nat → List Int → Int → Int → Option (Int)
 | 0, _, _, _ => none
 | k + 1, x0, x7, x8 => if x8 < x7 then (if 0 ≤ x8 then (if x8 < (x0.length : Int) then ((span_Of_1.f (rd x0 x8)).bind fun t174 => (if t174 = true then (some x8) else (slices_IndexFunc_int_int_fn74.l0 k x0 x7 (wrap64 (x8 + 1))))) else (none)) else (none)) else (some (-1))
def slices_IndexFunc_int_int_fn74.f (k : Nat) (l0 : List Int)  : Option (Int) := slices_IndexFunc_int_int_fn74.l0 k l0 (l0.length : Int) 0
theorem slices_IndexFunc_int_int_fn74.l0_succ (k) (a0) (a1) (a2) : type_of% (@slices_IndexFunc_int_int_fn74.l0.eq_2 a0 a1 a2 k) := slices_IndexFunc_int_int_fn74.l0.eq_2 a0 a1 a2 k
set_option maxHeartbeats 8000000 in
set_option maxRecDepth 100000 in
theorem slices_IndexFunc_int_int_fn74.calls (k : Nat) (A0 : Option Addr) (c0 : Nat) (l0 : List Int)  (r : Int) (w : World) (hr0 : Kd.C (Kd.int .i64) w A0 l0.length l0) (hc0 : l0.length ≤ c0) (h : slices_IndexFunc_int_int_fn74.f k l0 = some r) :
  Calls Tryz.prog 111 #[.slice A0 l0.length c0, .func (.func 74) #[] #[]] w fun e w' => e = .returned (.int .i64 r) ∧ Below w.heap.size w w' := by
 have HR0 := Aside0.mk hr0
 have HC0 := Aside0.mk hc0
 clear hr0 hc0
 have HB := Aside0.mk (Below.refl w.heap.size w)
 have H := h
 clear h
 unfold slices_IndexFunc_int_int_fn74.f at H
 have H' := Aside0.mk H
 clear H
 go_enter Tryz.func111, Tryz.ntmps111
 go_wp2
 go_loopg [8] k (fun kq v8 w' => ∃ (x8_1 : Int), v8 = .int .i64 x8_1 ∧ Aside0 (slices_IndexFunc_int_int_fn74.l0 kq l0 (l0.length : Int) x8_1 = some r) ∧ Aside0 (kq ≤ k) ∧ Aside0 (Below w.heap.size w w'))
 case atStart => exact ⟨(0), (by rfl), H', ⟨Nat.le_refl _⟩, ⟨bh HB.out⟩⟩
 case round =>
  clear H'
  obtain ⟨x8_1, rfl, HA, HK1, HB⟩ := hrel
  cases gk with
  | zero => exact absurd HA.out (by simp [slices_IndexFunc_int_int_fn74.l0])
  | succ k1 =>
   have H := HA.out
   clear HA
   simp only [slices_IndexFunc_int_int_fn74.l0] at H
   replace H := ifd H
   rcases H with ⟨-, c3b0, H⟩ | ⟨-, c3b0, H⟩
   ·replace H := ifn H
    obtain ⟨-, c4b0, H⟩ := H
    replace H := ifn H
    obtain ⟨-, c5b0, H⟩ := H
    replace H := bd H
    obtain ⟨t174, A6, H⟩ := H
    replace H := ifb H
    rcases H with ⟨rfl, H⟩ | ⟨rfl, H⟩
    ·obtain rfl := Option.some.inj H
     have p173 : 0 ≤ (x8_1 : Int) := ad
     have q173 : x8_1 < (l0.length : Int) := ad
     obtain ⟨ad173, e173, hx173_0⟩ := Kd.at_int HR0.out x8_1 p173 q173
     cases e173
     replace hx173_0 := cb HB.out.cell hx173_0
     replace p173 := eq_true p173
     replace q173 := eq_true q173
     go_wp2_with (((with_reducible refine gate_list ?_); refine gate_value rfl ?_; refine goesV_ (some 16) rfl rfl Tryz.func74 (by kernel_rfl) rfl #[.int .i64 (rd l0 x8_1)] rfl (by rfl) (by (simp only [List.map_toArray, List.map_cons, List.map_nil]); rfl) ?_; (with_reducible refine (span_Of_1.calls (rd l0 x8_1) true _ A6.out).mono ?_); rintro e w' ⟨rfl, ⟨nd, rfl⟩⟩; refine ⟨_, rfl, ?_⟩))
     go_ret
     exact ⟨er, bh HB.out⟩
    ·have H' := Aside0.mk H
     clear H
     have p173 : 0 ≤ (x8_1 : Int) := ad
     have q173 : x8_1 < (l0.length : Int) := ad
     obtain ⟨ad173, e173, hx173_0⟩ := Kd.at_int HR0.out x8_1 p173 q173
     cases e173
     replace hx173_0 := cb HB.out.cell hx173_0
     replace p173 := eq_true p173
     replace q173 := eq_true q173
     go_wp2_with (((with_reducible refine gate_list ?_); refine gate_value rfl ?_; refine goesV_ (some 16) rfl rfl Tryz.func74 (by kernel_rfl) rfl #[.int .i64 (rd l0 x8_1)] rfl (by rfl) (by (simp only [List.map_toArray, List.map_cons, List.map_nil]); rfl) ?_; (with_reducible refine (span_Of_1.calls (rd l0 x8_1) false _ A6.out).mono ?_); rintro e w' ⟨rfl, ⟨nd, rfl⟩⟩; refine ⟨_, rfl, ?_⟩))
     go_roundg k1
     case measure => have := HK1.out; omega
     case rel => exact ⟨(wrap64 (x8_1 + 1)), (by rfl), H', ⟨by have := HK1.out; omega⟩, ⟨bh HB.out⟩⟩
   ·obtain rfl := Option.some.inj H
    go_wp2
    go_ret
    exact ⟨er, bh HB.out⟩
/-! ### slices_ContainsFunc_int_int_fn74: function 73 -/
def slices_ContainsFunc_int_int_fn74.f (k : Nat) (l0 : List Int)  : Option (Bool) := (slices_IndexFunc_int_int_fn74.f k l0).bind fun t175 => (some (decide (t175 ≥ 0)))
set_option maxHeartbeats 8000000 in
set_option maxRecDepth 100000 in
theorem slices_ContainsFunc_int_int_fn74.calls (k : Nat) (A0 : Option Addr) (c0 : Nat) (l0 : List Int)  (r : Bool) (w : World) (hr0 : Kd.C (Kd.int .i64) w A0 l0.length l0) (hc0 : l0.length ≤ c0) (h : slices_ContainsFunc_int_int_fn74.f k l0 = some r) :
  Calls Tryz.prog 73 #[.slice A0 l0.length c0, .func (.func 74) #[] #[]] w fun e w' => e = .returned (.bool r) ∧ Below w.heap.size w w' := by
 have HR0 := Aside0.mk hr0
 have HC0 := Aside0.mk hc0
 clear hr0 hc0
 have HB := Aside0.mk (Below.refl w.heap.size w)
 have H := h
 clear h
 unfold slices_ContainsFunc_int_int_fn74.f at H
 replace H := bd H
 obtain ⟨t175, A3, H⟩ := H
 obtain rfl := Option.some.inj H
 go_enter Tryz.func73, Tryz.ntmps73
 go_wp2_with (((with_reducible refine gate_callee (f := 111) rfl ?_); refine gL 7 Tryz.func111 #[.slice A0 l0.length c0, .func (.func 74) #[] #[]] ?_; (with_reducible refine (slices_IndexFunc_int_int_fn74.calls k _ _ l0  t175 _ ?side1 ?side2 A3.out).mono ?_); (case side1 => exact cx HR0.out); (case side2 => exact HC0.out); rintro e w4 ⟨rfl, hb⟩; refine ⟨_, rfl, ?_⟩; replace HB := bsa HB hb; clear hb))
 go_ret
 exact ⟨er, bh HB.out⟩
/-! ### slices_Clone_int_int: function 75 (a contract of the session's own) -/
def slices_Clone_int_int.f (l0 : List Int) : Option (List Int) := if l0.length ≤ 2000000000000 then some l0 else none
set_option maxHeartbeats 4000000 in
set_option maxRecDepth 100000 in
theorem slices_Clone_int_int.calls (A0 : Option Addr) (c0 : Nat) (l0 : List Int) (r : List Int) (w : World) (hr0 : (Kd.int .i64).C w A0 l0.length l0) (hc0 : l0.length ≤ c0) (h : slices_Clone_int_int.f l0 = some r) :
    Calls Tryz.prog 75 #[.slice A0 l0.length c0] w fun e w' => ∃ v0_ : Value, e = .returned v0_ ∧ (Kd.int .i64).R 3 w' w.heap.size (fun _ => True) v0_ r ∧ Below w.heap.size w w' := by
 have hl : l0.length ≤ 2000000000000 := by
   unfold slices_Clone_int_int.f at h
   split at h
   ·assumption
   ·exact absurd h (by simp)
 obtain rfl : l0 = r := by
   unfold slices_Clone_int_int.f at h
   rw [if_pos hl] at h
   exact Option.some.inj h
 have HR := Aside0.mk hr0
 have HC := Aside0.mk hc0
 have HL := Aside0.mk hl
 clear hr0 hc0 hl h
 go_enter Tryz.func75, Tryz.ntmps75
 rcases A0 with _ | ad
 ·have h0 : l0 = [] := by
    have := HR.out.2.2
    rcases l0 with _ | ⟨x, l⟩
    ·rfl
    ·obtain ⟨ad, he, _⟩ := this (by simp)
     exact absurd he (by simp)
  subst h0
  have hE := Go.Lib.run_eql_slice_nil_nil (P := Tryz.prog) w (t := 27) (e := 3) 0 c0 Tryz.underlying27
  go_wp2
  go_ret
  exact ⟨_, rfl, Kd.R_nil _ _ _ _ _, Below.refl _ _⟩
 ·have hE := Go.Lib.run_eql_slice_some_nil (P := Tryz.prog) w (t := 27) (e := 3) ad l0.length c0 Tryz.underlying27
  go_wp2_with (first | ((with_reducible refine gate_dst (N := 5) rfl ?_); refine Kd.R_lit (Kd.int .i64) (w0 := w) w.heap.size 3 rfl (N := 5) rfl (xs := []) (inner := []) (ok := fun _ => True) (okp := fun _ => True) (by (go_simp; done)) (Reps.none _ _) (fun _ _ => trivial) trivial (Below.refl _ _) (Nat.le_refl _) (by simp) ?_; intro v5 w1 ho5 hb hg_ hnew_; have HO5 := Aside0.mk ho5; have HB := Aside0.mk hb; clear ho5 hb hg_ hnew_; obtain ⟨Ao5, co5, eo5⟩ := Kd.R_slice HO5.out; subst eo5) | ((with_reducible refine gate_builtin (b := .append) (xs := #[.tmp 5, .tmp 6]) rfl ?_); at_builtin; refine Kd.R_append_rows (Kd.int .i64) (w0 := w) w.heap.size rfl (.tmp 5) (.tmp 6) 27 3 _ _ rfl Tryz.underlying27 info3 rfl (by decide) (by omega) _ [] l0 _ _ _ (fun _ => True) (fun _ => False) rfl rfl HO5.out (Kd.C_below HR.out HB.out) (fun _ _ h => h) (fun _ h => h.elim) (fun _ _ => trivial) HB.out (below_size HB.out) (by have := HL.out; simp; omega) ?_; intro v7 w2 ho7 hb7 hg_ hat_; have HO7 := Aside0.mk ho7; have HB7 := Aside0.mk hb7; clear ho7 hb7 hg_ hat_))
  go_ret
  exact ⟨_, rfl, by simpa using HO7.out, HB7.out⟩
/-! ### slices_Sort_int_int: function 76 (a contract of the session's own) -/
def Tryz.laysSort_ren : Go.Shelf.Ren := ⟨fun | 189 => 76 | 125 => 113 | 257 => 112 | 128 => 137 | 129 => 138 | 294 => 129 | 295 => 130 | 296 => 131 | 297 => 132 | 298 => 133 | 299 => 134 | 216 => 99 | 300 => 135 | 301 => 136 | 328 => 144 | 329 => 145 | 330 => 146 | 331 => 147 | 332 => 148 | 215 => 123 | 343 => 149 | n => n, fun | 28 => 27 | 3 => 3 | 46 => 125 | 0 => 0 | 51 => 170 | 53 => 124 | 4 => 4 | 183 => 164 | 182 => 163 | 131 => 102 | 5 => 5 | 9 => 9 | 218 => 174 | 222 => 178 | 228 => 180 | 229 => 181 | n => n, fun | n => n⟩
theorem Tryz.laysSort : Go.Proofs.Lays.n189 Tryz.prog Tryz.laysSort_ren := {
  mixed := by kernel_rfl
  f125 := Tryz.func113.trans (congrArg some (by kernel_rfl))
  f128 := Tryz.func137.trans (congrArg some (by kernel_rfl))
  f129 := Tryz.func138.trans (congrArg some (by kernel_rfl))
  f189 := Tryz.func76.trans (congrArg some (by kernel_rfl))
  f215 := Tryz.func123.trans (congrArg some (by kernel_rfl))
  f216 := Tryz.func99.trans (congrArg some (by kernel_rfl))
  f257 := Tryz.func112.trans (congrArg some (by kernel_rfl))
  f294 := Tryz.func129.trans (congrArg some (by kernel_rfl))
  f295 := Tryz.func130.trans (congrArg some (by kernel_rfl))
  f296 := Tryz.func131.trans (congrArg some (by kernel_rfl))
  f297 := Tryz.func132.trans (congrArg some (by kernel_rfl))
  f298 := Tryz.func133.trans (congrArg some (by kernel_rfl))
  f299 := Tryz.func134.trans (congrArg some (by kernel_rfl))
  f300 := Tryz.func135.trans (congrArg some (by kernel_rfl))
  f301 := Tryz.func136.trans (congrArg some (by kernel_rfl))
  f328 := Tryz.func144.trans (congrArg some (by kernel_rfl))
  f329 := Tryz.func145.trans (congrArg some (by kernel_rfl))
  f330 := Tryz.func146.trans (congrArg some (by kernel_rfl))
  f331 := Tryz.func147.trans (congrArg some (by kernel_rfl))
  f332 := Tryz.func148.trans (congrArg some (by kernel_rfl))
  f343 := Tryz.func149.trans (congrArg some (by kernel_rfl))
  t0 := Tryz.underlying0
  a0 := Tryz.isAgg0
  z0 := Tryz.sizeOf0
  v0 := Tryz.zeroValue0
  t3 := Tryz.underlying3
  a3 := Tryz.isAgg3
  z3 := Tryz.sizeOf3
  v3 := Tryz.zeroValue3
  t4 := Tryz.underlying4
  a4 := Tryz.isAgg4
  z4 := Tryz.sizeOf4
  v4 := Tryz.zeroValue4
  t5 := Tryz.underlying5
  a5 := Tryz.isAgg5
  z5 := Tryz.sizeOf5
  v5 := Tryz.zeroValue5
  t9 := Tryz.underlying9
  a9 := Tryz.isAgg9
  z9 := Tryz.sizeOf9
  v9 := Tryz.zeroValue9
  t28 := Tryz.underlying27
  a28 := Tryz.isAgg27
  z28 := Tryz.sizeOf27
  v28 := Tryz.zeroValue27
  t46 := Tryz.underlying125
  a46 := Tryz.isAgg125
  z46 := Tryz.sizeOf125
  v46 := Tryz.zeroValue125
  t51 := Tryz.underlying170
  a51 := Tryz.isAgg170
  z51 := Tryz.sizeOf170
  v51 := Tryz.zeroValue170
  t53 := Tryz.underlying124
  a53 := Tryz.isAgg124
  z53 := Tryz.sizeOf124
  v53 := Tryz.zeroValue124
  t131 := Tryz.underlying102
  a131 := Tryz.isAgg102
  z131 := Tryz.sizeOf102
  v131 := Tryz.zeroValue102
  t182 := Tryz.underlying163
  a182 := Tryz.isAgg163
  z182 := Tryz.sizeOf163
  v182 := Tryz.zeroValue163
  t183 := Tryz.underlying164
  a183 := Tryz.isAgg164
  z183 := Tryz.sizeOf164
  v183 := Tryz.zeroValue164
  t218 := Tryz.underlying174
  a218 := Tryz.isAgg174
  z218 := Tryz.sizeOf174
  v218 := Tryz.zeroValue174
  t222 := Tryz.underlying178
  a222 := Tryz.isAgg178
  z222 := Tryz.sizeOf178
  v222 := Tryz.zeroValue178
  t228 := Tryz.underlying180
  a228 := Tryz.isAgg180
  z228 := Tryz.sizeOf180
  v228 := Tryz.zeroValue180
  t229 := Tryz.underlying181
  a229 := Tryz.isAgg181
  z229 := Tryz.sizeOf181
  v229 := Tryz.zeroValue181 }
def slices_Sort_int_int.f (l0 : List Int) : Option (List Int) := if l0.length ≤ 2000000000000 then some (l0.mergeSort fun x y => decide (x ≤ y)) else none
theorem slices_Sort_int_int.calls (P0_ : Nat → Prop) (u9000_ : Value) (l0 : List Int) (r : List Int) (w0 w : World) (hB : Below w0.heap.size w0 w) (ho0 : Kd.R (Kd.int .i64) 3 w w0.heap.size P0_ u9000_ l0) (h : slices_Sort_int_int.f l0 = some r) :
    Calls Tryz.prog 76 #[u9000_] w fun e w' => e = .returned (.tuple #[]) ∧ Kd.R (Kd.int .i64) 3 w' w0.heap.size (fun k_ => (P0_ k_ ∨ w.heap.size ≤ k_)) u9000_ r ∧ Below w0.heap.size w0 w' ∧ Kept w w' (fun k_ => P0_ k_) := by
 have hl : l0.length ≤ 2000000000000 := by
   unfold slices_Sort_int_int.f at h
   split at h
   ·assumption
   ·exact absurd h (by simp)
 obtain rfl : (l0.mergeSort fun x y => decide (x ≤ y)) = r := by
   unfold slices_Sort_int_int.f at h
   rw [if_pos hl] at h
   exact Option.some.inj h
 have hown := Kd.own_of_R ho0
 have hok := ho0.1
 have hlen : (l0.mergeSort fun x y => decide (x ≤ y)).length = l0.length := List.length_mergeSort l0
 rcases hown.2 with ⟨rfl, hnil⟩ | ⟨g, cap, cur, rfl, hb, hh, hn, hcap, hsz, htk⟩
 ·have h0 : l0 = [] := by
    cases l0 with
    | nil => rfl
    | cons x l => simp at hnil
  subst h0
  refine (calls_of_every_depth fun D => AnyS.slices_Sort_int_none_alone Tryz.laysSort D none 0 w).mono ?_
  rintro e w' ⟨rfl, rfl⟩
  rw [show (([] : List Int).mergeSort fun x y => decide (x ≤ y)) = [] by simp]
  exact ⟨rfl, Kd.R_mono ho0 (fun k hk => .inl hk), hB, Kept.refl _ _⟩
 ·have hH := holds_of_blockI (ss := l0) hh (by simpa [encs] using htk)
  have hg : g < w.heap.size := (Array.getElem?_eq_some_iff.1 hh).1
  refine (Go.Proofs.Any.slices_Sort_int Tryz.laysSort g 0 cap l0 w hH hg (by omega)).mono ?_
  rintro e w' ⟨rfl, n, os, rfl⟩
  have hgr := grownBy_sortedI (w := w) (g := g) (n := n) (os := os) (l0.mergeSort fun x y => decide (x ≤ y)).toArray
  have ho := ownsRow_sortedI (n := n) (os := os) (ss := l0) hlen hb hh hn hcap hsz
  refine ⟨rfl, ?_, pw_below_grown hB (some g) hB.size hgr (fun k hk => by cases hk; exact hb), Kept.of_grown hgr (Kept.refl _ _) (fun k hk => by cases hk; exact .inl (hok g rfl))⟩
  have ho2 := ho
  rw [← hlen] at ho2
  refine Kd.R_of_own ?_ (fun k hk => .inl (hok k hk))
  rw [hlen]
  exact ho
end Go.Proofs.YtdgphlkbmplbpaaGreat.Print
end
