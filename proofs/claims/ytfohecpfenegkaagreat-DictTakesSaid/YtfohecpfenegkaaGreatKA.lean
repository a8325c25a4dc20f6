-- Functions and laws: texts of the session's own and of the kit's print program, joined; what nothing names is left out.
import Derived.Test.YtfohecpfenegkaaGreatProg
import Derived.Below
import Derived.Deep.Draws
import Derived.Deep.AppendLies
import Derived.Maps.AppendAt
import Derived.OwnWalk
import Derived.Laws.BytesArg
import Derived.Laws.MakeOwn
import Derived.Laws.OwnMore
import Derived.Deep.OwnRows
import Derived.Tactics
import Derived.Lib.ConvBytes
import Derived.Laws.Slices
import Derived.WalkKit
import Derived.KernelRfl
import Derived.RowKit3
import Derived.Deep.LoopGhost
import Derived.Deep.QuietTactic
import Derived.BigQuiet
import Derived.WideLaws
import Derived.Deep.DeepCutAuto
import Derived.Deep.CutBlock
import Derived.Deep.RegionHeld3
import Derived.Laws.Rows
import Derived.Lib.AppendStr
import Derived.ArgAppend
import Derived.Laws.IdiomCopy
import Derived.OrdersHeld
import Derived.Laws.BitsLemmas
import Derived.RowKit
import Derived.Test.YtfohecpfenegkaaGreatKW
import Derived.Ground.NamesProg
import Derived.Shelf.Strings.BuilderK
import Derived.Lib.SortBridge
import Derived.Shelf.Slices.In.SortNone
import Derived.Shelf.Sort.Plain
import Derived.Sort.EveryDepth
import Derived.Sort.OwnSorted
section
namespace Go.Proofs.YtfohecpfenegkaaGreat.Print
open Go.RowKit Go.Proofs.YtfohecpfenegkaaGreatW.PrintWords Go.Proofs.YtfohecpfenegkaaGreatW.PrintLast Go.Proofs.YtfohecpfenegkaaGreatW.PrintMore
attribute [local go_sem] max2_int min2_int max_two min_two max_three min_three max_four min_four   -- for this text's walks alone
set_option linter.unusedVariables false
set_option linter.unusedSimpArgs false
def errW : Option Int → Value
  | none => .nilIface
  | some c => .iface 0 (.int .i64 c)
theorem errW_none : errW none = .nilIface := rfl
theorem errW_some (c : Int) : errW (some c) = .iface 0 (.int .i64 c) := rfl
theorem info3 : (Tryz.prog.info? 3).map (fun i => (i.zero, i.size, i.bytes)) = some (some (.int .i64 0), 1, 8) := by kernel_rfl
theorem info4 : (Tryz.prog.info? 4).map (fun i => (i.zero, i.size, i.bytes)) = some (some (.bool false), 1, 1) := by kernel_rfl
theorem info5 : (Tryz.prog.info? 5).map (fun i => (i.zero, i.size, i.bytes)) = some (some (.int .u8 0), 1, 1) := by kernel_rfl
theorem info9 : (Tryz.prog.info? 9).map (fun i => (i.zero, i.size, i.bytes)) = some (some (.string ⟨#[]⟩), 1, 16) := by kernel_rfl
end Go.Proofs.YtfohecpfenegkaaGreat.Print
end
section
namespace Go.Proofs.YtfohecpfenegkaaGreat.Print
open Go.RowKit Go.Proofs.YtfohecpfenegkaaGreatW.PrintWords Go.Proofs.YtfohecpfenegkaaGreatW.PrintLast Go.Proofs.YtfohecpfenegkaaGreatW.PrintMore
attribute [local go_sem] max2_int min2_int max_two min_two max_three min_three max_four min_four   -- for this text's walks alone
set_option linter.unusedVariables false
set_option linter.unusedSimpArgs false
/-! ### strings_Builder_WriteString: function 57 (a contract of the session's own) -/
def Tryz.laysWS_ren : Go.Shelf.Ren := ⟨fun | 166 => 57 | 240 => 79 | 276 => 94 | n => n, fun | 70 => 75 | 9 => 9 | 3 => 3 | 75 => 80 | 0 => 0 | 72 => 78 | 37 => 76 | 4 => 4 | 164 => 114 | 80 => 83 | 5 => 5 | 20 => 20 | n => n, fun | n => n⟩
theorem Tryz.laysWS : Go.Proofs.Lays.n166 Tryz.prog Tryz.laysWS_ren := {
  mixed := by kernel_rfl
  f166 := Tryz.func57.trans (congrArg some (by kernel_rfl))
  f240 := Tryz.func79.trans (congrArg some (by kernel_rfl))
  f276 := Tryz.func94.trans (congrArg some (by kernel_rfl))
  t0 := Tryz.underlying0
  a0 := Tryz.isAgg0
  z0 := Tryz.sizeOf0
  v0 := Tryz.zeroValue0
  t3 := Tryz.underlying3
  a3 := Tryz.isAgg3
  z3 := Tryz.sizeOf3
  v3 := Tryz.zeroValue3
  t4 := Tryz.underlying4
  a4 := Tryz.isAgg4
  z4 := Tryz.sizeOf4
  v4 := Tryz.zeroValue4
  t9 := Tryz.underlying9
  a9 := Tryz.isAgg9
  z9 := Tryz.sizeOf9
  v9 := Tryz.zeroValue9
  t20 := Tryz.underlying20
  a20 := Tryz.isAgg20
  z20 := Tryz.sizeOf20
  v20 := Tryz.zeroValue20
  t37 := Tryz.underlying76
  a37 := Tryz.isAgg76
  z37 := Tryz.sizeOf76
  v37 := Tryz.zeroValue76
  t70 := Tryz.underlying75
  a70 := Tryz.isAgg75
  z70 := Tryz.sizeOf75
  v70 := Tryz.zeroValue75
  t72 := Tryz.underlying78
  a72 := Tryz.isAgg78
  z72 := Tryz.sizeOf78
  v72 := Tryz.zeroValue78
  t75 := Tryz.underlying80
  a75 := Tryz.isAgg80
  z75 := Tryz.sizeOf80
  v75 := Tryz.zeroValue80
  t164 := Tryz.underlying114
  a164 := Tryz.isAgg114
  z164 := Tryz.sizeOf114
  v164 := Tryz.zeroValue114 }
theorem Tryz.extraWS : Builder.Extra Tryz.prog Tryz.laysWS_ren := {
  sizeBuilder := by kernel_rfl
  liesBuilder := by kernel_rfl
  t5 := Tryz.underlying5
  a5 := Tryz.isAgg5
  z5 := Tryz.sizeOf5
  v5 := Tryz.zeroValue5
  infoByte := by kernel_rfl
  cellsByte := by kernel_rfl
  sizeByte := by kernel_rfl
  neB5 := by decide }
def Bld (B b : Nat) (s : ByteArray) (w : World) : Prop := Lib.IsBuilderF 78 5 B b (Lib.strCells s) w
theorem strCells_app (s x : ByteArray) : Lib.strCells (s ++ x) = Lib.strCells s ++ Lib.strCells x := by simp [Lib.strCells]
theorem Bld.lt {B b : Nat} {s : ByteArray} {X : World} (h : Bld B b s X) : b < X.heap.size := h.elim (fun h => h.lt) (fun h => h.lt)
theorem BldAt.below {B b : Nat} {p : Value} {bs : List Value} {X Y : World} (h : Lib.BuilderAtF 78 5 B b p bs X) (hb : Below X.heap.size X Y) : Lib.BuilderAtF 78 5 B b p bs Y := by
 have hl := h.lt
 obtain ⟨hB, v, hc, ho, hn⟩ := h
 refine ⟨hB, v, (hb.block b hl).trans hc, ⟨ho.1, ?_⟩, hn⟩
 rcases ho.2 with h2 | ⟨g, cap, cur, fz, rfl, h3, hh, h4⟩
 ·exact .inl h2
 ·exact .inr ⟨g, cap, cur, fz, rfl, h3, (hb.block g (Array.getElem?_eq_some_iff.1 hh).1).trans hh, h4⟩
theorem Bld.below {B b : Nat} {s : ByteArray} {X Y : World} (h : Bld B b s X) (hb : Below X.heap.size X Y) : Bld B b s Y := h.elim (fun h => .inl (BldAt.below h hb)) (fun h => .inr (BldAt.below h hb))
theorem Bld.fresh {B b : Nat} {w : World} (hB : B ≤ b) (h : w.heap[b]? = some (.cells #[.pointer none, .slice none 0 0] 78 (0, 0))) : Bld B b ByteArray.empty w := .inl ⟨hB, _, h, World.ownsRowF_nil _ _ _ _, by simp [Value.ownBlock]⟩
theorem strings_Builder_WriteString.calls (B b : Nat) (s x : ByteArray) (w : World) (h : Bld B b s w) (hl : s.size + x.size ≤ 140737488355328) (hB : B ≤ w.heap.size) :
    Calls Tryz.prog 57 #[.pointer (some ⟨b, 0, none⟩), .string x] w fun e w' => e = .returned (.tuple #[.int .i64 x.size, .nilIface]) ∧ Bld B b (s ++ x) w' ∧ Below B w w' ∧ Lib.OthersKept 5 (some b) w w' :=
  (Any.Builder_WriteString_k Tryz.laysWS Tryz.extraWS B b (Lib.strCells s) x w h (by rw [Lib.strCells_length]; exact hl) hB).mono fun e w' ⟨h1, h2, h3, h4⟩ => ⟨h1, .inr (by rw [strCells_app]; exact h2), h3, h4⟩
/-! ### strings_Builder_WriteByte: function 59 (a contract of the session's own) -/
def Tryz.laysWB_ren : Go.Shelf.Ren := ⟨fun | 167 => 59 | 240 => 79 | 276 => 94 | n => n, fun | 70 => 75 | 5 => 5 | 75 => 80 | 0 => 0 | 72 => 78 | 37 => 76 | 4 => 4 | 164 => 114 | 80 => 83 | 9 => 9 | 20 => 20 | n => n, fun | n => n⟩
theorem Tryz.laysWB : Go.Proofs.Lays.n167 Tryz.prog Tryz.laysWB_ren := {
  mixed := by kernel_rfl
  f167 := Tryz.func59.trans (congrArg some (by kernel_rfl))
  f240 := Tryz.func79.trans (congrArg some (by kernel_rfl))
  f276 := Tryz.func94.trans (congrArg some (by kernel_rfl))
  t0 := Tryz.underlying0
  a0 := Tryz.isAgg0
  z0 := Tryz.sizeOf0
  v0 := Tryz.zeroValue0
  t4 := Tryz.underlying4
  a4 := Tryz.isAgg4
  z4 := Tryz.sizeOf4
  v4 := Tryz.zeroValue4
  t5 := Tryz.underlying5
  a5 := Tryz.isAgg5
  z5 := Tryz.sizeOf5
  v5 := Tryz.zeroValue5
  t9 := Tryz.underlying9
  a9 := Tryz.isAgg9
  z9 := Tryz.sizeOf9
  v9 := Tryz.zeroValue9
  t20 := Tryz.underlying20
  a20 := Tryz.isAgg20
  z20 := Tryz.sizeOf20
  v20 := Tryz.zeroValue20
  t37 := Tryz.underlying76
  a37 := Tryz.isAgg76
  z37 := Tryz.sizeOf76
  v37 := Tryz.zeroValue76
  t70 := Tryz.underlying75
  a70 := Tryz.isAgg75
  z70 := Tryz.sizeOf75
  v70 := Tryz.zeroValue75
  t72 := Tryz.underlying78
  a72 := Tryz.isAgg78
  z72 := Tryz.sizeOf78
  v72 := Tryz.zeroValue78
  t75 := Tryz.underlying80
  a75 := Tryz.isAgg80
  z75 := Tryz.sizeOf80
  v75 := Tryz.zeroValue80
  t164 := Tryz.underlying114
  a164 := Tryz.isAgg114
  z164 := Tryz.sizeOf114
  v164 := Tryz.zeroValue114 }
theorem Tryz.extraWB : Builder.Extra Tryz.prog Tryz.laysWB_ren := {
  sizeBuilder := by kernel_rfl
  liesBuilder := by kernel_rfl
  t5 := Tryz.underlying5
  a5 := Tryz.isAgg5
  z5 := Tryz.sizeOf5
  v5 := Tryz.zeroValue5
  infoByte := by kernel_rfl
  cellsByte := by kernel_rfl
  sizeByte := by kernel_rfl
  neB5 := by decide }
def byteS (c : Int) : ByteArray := ⟨#[UInt8.ofNat c.toNat]⟩
theorem strCells_byteS {c : Int} (h0 : 0 ≤ c) (h1 : c < 256) : Lib.strCells (byteS c) = [.int .u8 c] := by
 have : ((UInt8.ofNat c.toNat).toNat : Int) = c := by
   rw [UInt8.toNat_ofNat']
   omega
 simp [Lib.strCells, byteS, this]
 omega
theorem strings_Builder_WriteByte.calls (B b : Nat) (s : ByteArray) (c : Int) (w : World) (h0 : 0 ≤ c) (h1 : c < 256) (h : Bld B b s w) (hl : s.size + 1 ≤ 140737488355328) (hB : B ≤ w.heap.size) :
    Calls Tryz.prog 59 #[.pointer (some ⟨b, 0, none⟩), .int .u8 c] w fun e w' => e = .returned .nilIface ∧ Bld B b (s ++ byteS c) w' ∧ Below B w w' ∧ Lib.OthersKept 5 (some b) w w' :=
  (Any.Builder_WriteByte_k Tryz.laysWB Tryz.extraWB B b (Lib.strCells s) c w h (by rw [Lib.strCells_length]; exact hl) hB).mono fun e w' ⟨h1', h2, h3, h4⟩ => ⟨h1', .inr (by rw [strCells_app, strCells_byteS h0 h1]; exact h2), h3, h4⟩
/-! ### strings_Builder_String: function 58 (a contract of the session's own) -/
def Tryz.laysST_ren : Go.Shelf.Ren := ⟨fun | 169 => 58 | n => n, fun | 70 => 75 | 9 => 9 | 0 => 0 | 72 => 78 | 37 => 76 | 127 => 100 | 3 => 3 | 5 => 5 | 20 => 20 | n => n, fun | n => n⟩
theorem Tryz.laysST : Go.Proofs.Lays.n169 Tryz.prog Tryz.laysST_ren := {
  mixed := by kernel_rfl
  f169 := Tryz.func58.trans (congrArg some (by kernel_rfl))
  t0 := Tryz.underlying0
  a0 := Tryz.isAgg0
  z0 := Tryz.sizeOf0
  v0 := Tryz.zeroValue0
  t3 := Tryz.underlying3
  a3 := Tryz.isAgg3
  z3 := Tryz.sizeOf3
  v3 := Tryz.zeroValue3
  t9 := Tryz.underlying9
  a9 := Tryz.isAgg9
  z9 := Tryz.sizeOf9
  v9 := Tryz.zeroValue9
  t37 := Tryz.underlying76
  a37 := Tryz.isAgg76
  z37 := Tryz.sizeOf76
  v37 := Tryz.zeroValue76
  t70 := Tryz.underlying75
  a70 := Tryz.isAgg75
  z70 := Tryz.sizeOf75
  v70 := Tryz.zeroValue75
  t72 := Tryz.underlying78
  a72 := Tryz.isAgg78
  z72 := Tryz.sizeOf78
  v72 := Tryz.zeroValue78
  t127 := Tryz.underlying100
  a127 := Tryz.isAgg100
  z127 := Tryz.sizeOf100
  v127 := Tryz.zeroValue100 }
theorem Tryz.extraST : Builder.Extra Tryz.prog Tryz.laysST_ren := {
  sizeBuilder := by kernel_rfl
  liesBuilder := by kernel_rfl
  t5 := Tryz.underlying5
  a5 := Tryz.isAgg5
  z5 := Tryz.sizeOf5
  v5 := Tryz.zeroValue5
  infoByte := by kernel_rfl
  cellsByte := by kernel_rfl
  sizeByte := by kernel_rfl
  neB5 := by decide }
theorem strings_Builder_String.calls (B b : Nat) (s : ByteArray) (w : World) (h : Bld B b s w) (hB : B ≤ w.heap.size) :
    Calls Tryz.prog 58 #[.pointer (some ⟨b, 0, none⟩)] w fun e w' => e = .returned (.string s) ∧ Below B w w' :=
  (Any.Builder_String_any_k Tryz.laysST Tryz.extraST B b s.data.toList w h hB).mono fun e w' ⟨h1, _, h3, _⟩ => ⟨h1, h3⟩
/-! ### plain_PutTexts: function 34 (a contract of the session's own) -/
def plain_PutTexts.l0 : Nat → List ByteArray → ByteArray → Int → Option (ByteArray × Int)
  | 0, _, _, _ => none
  | k + 1, l0, s, i => if i < (l0.length : Int) then (if 0 ≤ i then (if ((rdOf ByteArray.empty l0 i).size : Int) > 32 then some (ByteArray.empty, 1) else (if s.size + (1 + (rdOf ByteArray.empty l0 i).size) ≤ 100000000000000 then plain_PutTexts.l0 k l0 (s ++ byteS ((rdOf ByteArray.empty l0 i).size : Int) ++ (rdOf ByteArray.empty l0 i)) (wrap64 (i + 1)) else none)) else none) else some (s, 0)
def plain_PutTexts.f (k : Nat) (l0 : List ByteArray) : Option (ByteArray × Int) := plain_PutTexts.l0 k l0 ByteArray.empty 0
theorem plain_PutTexts.l0_succ (k) (a0) (a1) (a2) : type_of% (@plain_PutTexts.l0.eq_2 a0 a1 a2 k) := plain_PutTexts.l0.eq_2 a0 a1 a2 k
theorem plain_PutTexts.mono_l : ∀ k, (∀ y0 y1 y2, LeO (plain_PutTexts.l0 k y0 y1 y2) (plain_PutTexts.l0 (k + 1) y0 y1 y2))
  | 0 => fun _ _ _ r h => by simp [plain_PutTexts.l0] at h
  | k + 1 => by
    have ih0 := plain_PutTexts.mono_l k
    intro y0 y1 y2
    unfold plain_PutTexts.l0
    repeat' first | (with_reducible exact ih0 _ _ _) | (with_reducible exact LeO.refl _) | (with_reducible refine LeO.ite ?_ ?_)
theorem plain_PutTexts.mono : ∀ a0 k, LeO (plain_PutTexts.f k a0) (plain_PutTexts.f (k + 1) a0) := by
 intro a0 k
 unfold plain_PutTexts.f
 exact plain_PutTexts.mono_l _ _ _ _
set_option maxHeartbeats 8000000 in
set_option maxRecDepth 100000 in
theorem plain_PutTexts.calls (k : Nat) (A0 : Option Addr) (c0 : Nat) (l0 : List ByteArray) (r1 : ByteArray) (r2 : Int) (w : World) (hr0 : Kd.C Kd.string w A0 l0.length l0) (hc0 : l0.length ≤ c0) (h : plain_PutTexts.f k l0 = some (r1, r2)) :
    Calls Tryz.prog 34 #[.slice A0 l0.length c0] w fun e w' => e = .returned (.tuple #[.string r1, .int .i64 r2]) ∧ Below w.heap.size w w' := by
 have HR0 := Aside0.mk hr0
 have HC0 := Aside0.mk hc0
 clear hr0 hc0
 have HB := Aside0.mk (Below.refl w.heap.size w)
 have H' := Aside0.mk (show plain_PutTexts.l0 k l0 ByteArray.empty 0 = some (r1, r2) from h)
 clear h
 go_enter Tryz.func34, Tryz.ntmps34
 go_wp2_with (((with_reducible refine gate_dst (N := 4) rfl ?_); refine box_event ?hg (N := 4) ?hd (cs := #[.pointer none, .slice none 0 0]) (t := 78) ?hr ?_; (case hd => rfl); (case hg => rfl); (case hr => (go_simp; done)); intro gb hg w2 hbox hb; have HD := Aside0.mk (Bld.fresh (bz HB.out hg) hbox); replace HB := bsa HB hb; clear hb hbox hg))
 go_loopg [9] k (fun kq v9 w' => ∃ (i : Int) (s : ByteArray), v9 = .int .i64 i ∧ Aside0 (plain_PutTexts.l0 kq l0 s i = some (r1, r2)) ∧ Aside0 (kq ≤ k) ∧ Aside0 (Bld w.heap.size gb s w') ∧ Aside0 (Below w.heap.size w w'))
 case atStart => exact ⟨0, _, (by rfl), H', ⟨Nat.le_refl _⟩, HD, HB⟩
 case round =>
   clear H' HD HB
   obtain ⟨i, s, rfl, HA, HK1, HD, HB⟩ := hrel
   cases gk with
   | zero => exact absurd HA.out (by simp [plain_PutTexts.l0])
   | succ k1 =>
     have H := HA.out
     clear HA
     rw [plain_PutTexts.l0_succ] at H
     replace H := ifd H
     rcases H with ⟨-, c3b0, H⟩ | ⟨-, c3b0, H⟩
     ·replace H := ifn H
      obtain ⟨-, c4b0, H⟩ := H
      have p2 : 0 ≤ (i : Int) := ad
      have q2 : i < (l0.length : Int) := ad
      obtain ⟨ad, e2, hx0⟩ := Kd.at_string HR0.out i p2 q2
      cases e2
      replace hx0 := cb HB.out.cell hx0
      replace p2 := eq_true p2
      replace q2 := eq_true q2
      generalize (rdOf ByteArray.empty l0 i) = z at hx0 H
      replace H := ifd H
      rcases H with ⟨c5, c5b0, H⟩ | ⟨c5, c5b0, H⟩
      ·have c5b1 : decide ((z.size : Int) > 32) = true := decide_eq_true c5
       have c5b2 : (32 < z.size) = True := eq_true (by omega)
       simp only [Option.some.injEq, Prod.mk.injEq] at H
       obtain ⟨rfl, rfl⟩ := H
       go_wp2
       go_ret2
       exact ⟨rfl, HB.out⟩
      ·have c5b1 : decide ((z.size : Int) > 32) = false := decide_eq_false c5
       have c5b2 : (32 < z.size) = False := eq_false (by omega)
       have HZ := Aside0.mk (show z.size ≤ 32 by omega)
       by_cases q1 : s.size + (1 + z.size) ≤ 100000000000000
       ·rw [if_pos q1] at H
        have LM := Aside0.mk q1
        clear q1
        have H' := Aside0.mk H
        clear H
        go_wp2_with (first | (go_at_call 59; (with_reducible refine (strings_Builder_WriteByte.calls w.heap.size gb _ (z.size : Int) _ (by omega) (by have := HZ.out; omega) HD.out (by have := LM.out; omega) (below_size HB.out)).mono ?_); rintro e w7 ⟨rfl, hd, hb, hk⟩; replace HD := Aside0.mk hd; replace HB := Aside0.mk (HB.out.trans hb); clear hd hb hk) | (go_at_call 57; (with_reducible refine (strings_Builder_WriteString.calls w.heap.size gb _ z _ HD.out (by have := LM.out; have hq_ : (byteS (z.size : Int)).size = 1 := rfl; rw [ByteArray.size_append, hq_]; omega) (below_size HB.out)).mono ?_); rintro e w8 ⟨rfl, hd, hb, hk⟩; replace HD := Aside0.mk hd; replace HB := Aside0.mk (HB.out.trans hb); clear hd hb hk))
        go_roundg k1
        case measure => have := HK1.out; omega
        case rel => exact ⟨wrap64 (i + 1), _, (by rfl), H', ⟨by have := HK1.out; omega⟩, HD, HB⟩
       ·rw [if_neg q1] at H
        exact absurd H (by simp)
     ·simp only [Option.some.injEq, Prod.mk.injEq] at H
      obtain ⟨rfl, rfl⟩ := H
      go_wp2_with ((go_at_call 58; (with_reducible refine (strings_Builder_String.calls w.heap.size gb _ _ HD.out (below_size HB.out)).mono ?_); rintro e wS ⟨rfl, hb⟩; replace HB := Aside0.mk (HB.out.trans hb); clear hb))
      go_ret2
      exact ⟨rfl, HB.out⟩
/-! ### bits_Width: function 66 -/
def bits_Width.l0 : Nat → Int → Int → Int → Option (Int)
 | 0, _, _, _ => none
 | k + 1, x3, x4, x5 => if x5 > 0 then (if 0 ≤ x5 then (if (shr .u64 x3 x5) > 0 then (bits_Width.l0 k (shr .u64 x3 x5) (wrap64 (x4 + x5)) (wrap64 (Int.tdiv x5 2))) else (bits_Width.l0 k x3 x4 (wrap64 (Int.tdiv x5 2)))) else (none)) else (some (wrap64 (x4 + (wrap64 (x3)))))
def bits_Width.f (k : Nat) (a0 : Int) : Option (Int) := bits_Width.l0 k (IntKind.u64.wrap (a0)) 0 32
theorem bits_Width.mono_l : ∀ k, (∀ y0 y1 y2, LeO (bits_Width.l0 k y0 y1 y2) (bits_Width.l0 (k + 1) y0 y1 y2))
 | 0 => fun _ _ _ r h => by simp [bits_Width.l0] at h
 | k + 1 => by
  have ih0 := bits_Width.mono_l k
  ·intro y0 y1 y2
   unfold bits_Width.l0
   repeat' first | (with_reducible exact ih0 _ _ _) | (with_reducible exact LeO.refl _) | (with_reducible refine LeO.ite ?_ ?_)
theorem bits_Width.mono : ∀ a0 k, LeO (bits_Width.f k a0) (bits_Width.f (k + 1) a0) := by
 intro a0 k
 have ih0 := bits_Width.mono_l k
 unfold bits_Width.f
 repeat' (with_reducible exact ih0 _ _ _)
set_option maxHeartbeats 8000000 in
set_option maxRecDepth 100000 in
theorem bits_Width.calls (k : Nat) (a0 : Int) (r : Int) (w : World) (h : bits_Width.f k a0 = some r) :
  Calls Tryz.prog 66 #[.int .i64 a0] w fun e w' => e = .returned (.int .i64 r) ∧ Drawn0 w w' := by
 have H := h
 clear h
 unfold bits_Width.f at H
 have H' := Aside0.mk H
 clear H
 go_enter Tryz.func66, Tryz.ntmps66
 go_wp2
 go_loopg [3, 4, 5] k (fun kq v3 v4 v5 w' => ∃ (x3_1 : Int) (x4_1 : Int) (x5_1 : Int), v3 = .int .u64 x3_1 ∧ v4 = .int .i64 x4_1 ∧ v5 = .int .i64 x5_1 ∧ Aside0 (bits_Width.l0 kq x3_1 x4_1 x5_1 = some r) ∧ Aside0 (kq ≤ k) ∧ Drawn0 w w')
 case atStart => exact ⟨(IntKind.u64.wrap (a0)), (0), (32), (by rfl), (by rfl), (by rfl), H', ⟨Nat.le_refl _⟩, by repeat (exact Drawn0.refl _)⟩
 case round =>
  clear H'
  obtain ⟨x3_1, x4_1, x5_1, rfl, rfl, rfl, HA, HK1, ⟨m1, rfl⟩⟩ := hrel
  cases gk with
  | zero => exact absurd HA.out (by simp [bits_Width.l0])
  | succ k1 =>
   have H := HA.out
   clear HA
   simp only [bits_Width.l0] at H
   replace H := ifd H
   rcases H with ⟨-, c2b0, H⟩ | ⟨-, c2b0, H⟩
   ·replace H := ifn H
    obtain ⟨c3, -, H⟩ := H
    have c3b0 := eq_true c3
    have c3b1 : decide (0 ≤ x5_1) = true := decide_eq_true c3
    clear c3
    obtain ⟨ji4, hji4⟩ : ∃ j_ : Int, (shr .u64 x3_1 x5_1) = j_ := ⟨_, rfl⟩
    replace H : (if (ji4) > 0 then (bits_Width.l0 k1 ji4 (wrap64 (x4_1 + x5_1)) (wrap64 (Int.tdiv x5_1 2))) else (bits_Width.l0 k1 x3_1 x4_1 (wrap64 (Int.tdiv x5_1 2)))) = some r := by (rw [hji4] at H; exact H)
    have hji4_ : (x3_1 / 2 ^ min x5_1.toNat 64) = ji4 := hji4
    have hji4z : x5_1 ≤ 64 → (x3_1 / 2 ^ x5_1.toNat) = ji4 := shr_small hji4
    replace H := ifd H
    rcases H with ⟨-, c5b0, H⟩ | ⟨-, c5b0, H⟩
    ·have c6b0 := eq_true (of_decide_eq_true (by assumption) : 0 ≤ x5_1)
     have H' := Aside0.mk H
     clear H
     go_wp2
     go_roundg k1
     case measure => have := HK1.out; omega
     case rel => exact ⟨(ji4), (wrap64 (x4_1 + x5_1)), (wrap64 (Int.tdiv x5_1 2)), (by rfl), (by rfl), (by rfl), (by exact H'), ⟨by have := HK1.out; omega⟩, by repeat (first | exact Drawn0.refl _ | apply Drawn0.step)⟩
    ·have H' := Aside0.mk H
     clear H
     go_wp2
     go_roundg k1
     case measure => have := HK1.out; omega
     case rel => exact ⟨(x3_1), (x4_1), (wrap64 (Int.tdiv x5_1 2)), (by rfl), (by rfl), (by rfl), (by exact H'), ⟨by have := HK1.out; omega⟩, by repeat (first | exact Drawn0.refl _ | apply Drawn0.step)⟩
   ·obtain rfl := Option.some.inj H
    go_wp2
    go_ret
    exact ⟨by rfl, by repeat (first | exact Drawn0.refl _ | apply Drawn0.step)⟩
/-! ### pack_Width: function 40 -/
def pack_Width.l0 : Nat → Int → List Int → Int → Int → Option (Int)
 | 0, _, _, _, _ => none
 | k + 1, x3, x6, x7, x8 => if x8 < x7 then (if 0 ≤ x8 then (if x8 < (x6.length : Int) then (pack_Width.l0 k (Go.bits .or .i64 x3 (rd x6 x8)) x6 x7 (wrap64 (x8 + 1))) else (none)) else (none)) else ((bits_Width.f k x3).bind fun t123 => (some t123))
def pack_Width.f (k : Nat) (l0 : List Int) : Option (Int) := pack_Width.l0 k 0 l0 (l0.length : Int) 0
theorem pack_Width.l0_succ (k) (a0) (a1) (a2) (a3) : type_of% (@pack_Width.l0.eq_2 a0 a1 a2 a3 k) := pack_Width.l0.eq_2 a0 a1 a2 a3 k
theorem pack_Width.mono_l : ∀ k, (∀ y0 y1 y2 y3, LeO (pack_Width.l0 k y0 y1 y2 y3) (pack_Width.l0 (k + 1) y0 y1 y2 y3))
 | 0 => fun _ _ _ _ r h => by simp [pack_Width.l0] at h
 | k + 1 => by
  have ih0 := pack_Width.mono_l k
  ·intro y0 y1 y2 y3
   unfold pack_Width.l0
   repeat' first | (with_reducible exact ih0 _ _ _ _) | (with_reducible exact bits_Width.mono _ _) | (with_reducible exact LeO.refl _) | (with_reducible refine LeO.ite ?_ ?_) | (with_reducible refine LeO.bind ?_ (fun _ => ?_))
theorem pack_Width.mono : ∀ a0 k, LeO (pack_Width.f k a0) (pack_Width.f (k + 1) a0) := by
 intro a0 k
 have ih0 := pack_Width.mono_l k
 unfold pack_Width.f
 repeat' (with_reducible exact ih0 _ _ _ _)
set_option maxHeartbeats 8000000 in
set_option maxRecDepth 100000 in
theorem pack_Width.calls (k : Nat) (A0 : Option Addr) (c0 : Nat) (l0 : List Int) (r : Int) (w : World) (hr0 : Kd.C (Kd.int .i64) w A0 l0.length l0) (hc0 : l0.length ≤ c0) (h : pack_Width.f k l0 = some r) :
  Calls Tryz.prog 40 #[.slice A0 l0.length c0] w fun e w' => e = .returned (.int .i64 r) ∧ Drawn0 w w' := by
 have HR0 := Aside0.mk hr0
 have HC0 := Aside0.mk hc0
 clear hr0 hc0
 have H := h
 clear h
 unfold pack_Width.f at H
 have H' := Aside0.mk H
 clear H
 go_enter Tryz.func40, Tryz.ntmps40
 go_wp2
 go_loopg [3, 8] k (fun kq v3 v8 w' => ∃ (x3_1 : Int) (x8_1 : Int), v3 = .int .i64 x3_1 ∧ v8 = .int .i64 x8_1 ∧ Aside0 (pack_Width.l0 kq x3_1 l0 (l0.length : Int) x8_1 = some r) ∧ Aside0 (kq ≤ k) ∧ Drawn0 w w')
 case atStart => exact ⟨(0), (0), (by rfl), (by rfl), H', ⟨Nat.le_refl _⟩, by repeat (exact Drawn0.refl _)⟩
 case round =>
  clear H'
  obtain ⟨x3_1, x8_1, rfl, rfl, HA, HK1, ⟨m1, rfl⟩⟩ := hrel
  cases gk with
  | zero => exact absurd HA.out (by simp [pack_Width.l0])
  | succ k1 =>
   have H := HA.out
   clear HA
   simp only [pack_Width.l0] at H
   replace H := ifd H
   rcases H with ⟨-, c2b0, H⟩ | ⟨-, c2b0, H⟩
   ·replace H := ifn H
    obtain ⟨-, c3b0, H⟩ := H
    replace H := ifn H
    obtain ⟨-, c4b0, H⟩ := H
    have H' := Aside0.mk H
    clear H
    have p122 : 0 ≤ (x8_1 : Int) := ad
    have q122 : x8_1 < (l0.length : Int) := ad
    obtain ⟨ad122, e122, hx122_0⟩ := Kd.at_int HR0.out x8_1 p122 q122
    cases e122
    replace p122 := eq_true p122
    replace q122 := eq_true q122
    go_wp2
    go_roundg k1
    case measure => have := HK1.out; omega
    case rel => exact ⟨(Go.bits .or .i64 x3_1 (rd l0 x8_1)), (wrap64 (x8_1 + 1)), (by rfl), (by rfl), H', ⟨by have := HK1.out; omega⟩, by repeat (first | exact Drawn0.refl _ | apply Drawn0.step)⟩
   ·replace H := bd H
    obtain ⟨t123, A5, H⟩ := H
    obtain rfl := Option.some.inj H
    go_wp2_with (((with_reducible refine gate_callee (f := 66) rfl ?_); refine gL 17 Tryz.func66 #[.int .i64 x3_1] ?_; (with_reducible refine (bits_Width.calls k1 x3_1 t123 _ A5.out).mono ?_); rintro e w' ⟨rfl, ⟨nd, rfl⟩⟩; refine ⟨_, rfl, ?_⟩))
    go_ret
    exact ⟨by rfl, by repeat (first | exact Drawn0.refl _ | apply Drawn0.step)⟩
/-! ### pack_Bytes: function 64 -/
def pack_Bytes.f (a0 : Int) (a1 : Int) : Option (Int) := if a0 < 1 then (some 0) else (if a0 > 65536 then (some 0) else (if a1 < 1 then (some 0) else (if a1 > 64 then (some 0) else (some ((wrap64 ((wrap64 (a0 * a1)) + 7)) / 8)))))
set_option maxHeartbeats 8000000 in
set_option maxRecDepth 100000 in
theorem pack_Bytes.calls (a0 : Int) (a1 : Int) (r : Int) (w : World) (h : pack_Bytes.f a0 a1 = some r) :
  Calls Tryz.prog 64 #[.int .i64 a0, .int .i64 a1] w fun e w' => e = .returned (.int .i64 r) ∧ Drawn0 w w' := by
 have H := h
 clear h
 unfold pack_Bytes.f at H
 replace H := ifd H
 rcases H with ⟨-, c3b0, H⟩ | ⟨-, c3b0, H⟩
 ·obtain rfl := Option.some.inj H
  go_enter Tryz.func64, Tryz.ntmps64
  go_wp2
  go_ret
  exact ⟨by rfl, by repeat (exact Drawn0.refl _)⟩
 ·replace H := ifd H
  rcases H with ⟨-, c4b0, H⟩ | ⟨-, c4b0, H⟩
  ·obtain rfl := Option.some.inj H
   go_enter Tryz.func64, Tryz.ntmps64
   go_wp2
   go_ret
   exact ⟨by rfl, by repeat (exact Drawn0.refl _)⟩
  ·replace H := ifd H
   rcases H with ⟨-, c5b0, H⟩ | ⟨-, c5b0, H⟩
   ·obtain rfl := Option.some.inj H
    go_enter Tryz.func64, Tryz.ntmps64
    go_wp2
    go_ret
    exact ⟨by rfl, by repeat (exact Drawn0.refl _)⟩
   ·replace H := ifd H
    rcases H with ⟨-, c6b0, H⟩ | ⟨-, c6b0, H⟩
    ·obtain rfl := Option.some.inj H
     go_enter Tryz.func64, Tryz.ntmps64
     go_wp2
     go_ret
     exact ⟨by rfl, by repeat (exact Drawn0.refl _)⟩
    ·obtain rfl := Option.some.inj H
     go_enter Tryz.func64, Tryz.ntmps64
     go_wp2
     go_ret
     exact ⟨by rfl, by repeat (exact Drawn0.refl _)⟩
/-! ### bits_Mask: function 78 -/
def bits_Mask.f (a0 : Int) : Option (Int) := if a0 ≤ 0 then (some 0) else (if a0 ≥ 64 then (some (-1)) else (if 0 ≤ a0 then (some (wrap64 (IntKind.u64.wrap ((shl .u64 1 a0) - 1)))) else (none)))
set_option maxHeartbeats 8000000 in
set_option maxRecDepth 100000 in
theorem bits_Mask.calls (a0 : Int) (r : Int) (w : World) (h : bits_Mask.f a0 = some r) :
  Calls Tryz.prog 78 #[.int .i64 a0] w fun e w' => e = .returned (.int .i64 r) ∧ Drawn0 w w' := by
 have H := h
 clear h
 unfold bits_Mask.f at H
 replace H := ifd H
 rcases H with ⟨-, c2b0, H⟩ | ⟨-, c2b0, H⟩
 ·obtain rfl := Option.some.inj H
  go_enter Tryz.func78, Tryz.ntmps78
  go_wp2
  go_ret
  exact ⟨by rfl, by repeat (exact Drawn0.refl _)⟩
 ·replace H := ifd H
  rcases H with ⟨-, c3b0, H⟩ | ⟨-, c3b0, H⟩
  ·obtain rfl := Option.some.inj H
   go_enter Tryz.func78, Tryz.ntmps78
   go_wp2
   go_ret
   exact ⟨by rfl, by repeat (exact Drawn0.refl _)⟩
  ·replace H := ifn H
   obtain ⟨c4, -, H⟩ := H
   have c4b0 := eq_true c4
   have c4b1 : decide (0 ≤ a0) = true := decide_eq_true c4
   clear c4
   obtain ⟨ji5, hji5⟩ : ∃ j_ : Int, (shl .u64 1 a0) = j_ := ⟨_, rfl⟩
   replace H : (some (wrap64 (IntKind.u64.wrap ((ji5) - 1)))) = some r := by (rw [hji5] at H; exact H)
   have hji5_ : (IntKind.u64.wrap (1 * 2 ^ min a0.toNat 64)) = ji5 := hji5
   have hji5z : a0 ≤ 64 → (IntKind.u64.wrap (1 * 2 ^ a0.toNat)) = ji5 := shl_small hji5
   have hji5u : (IntKind.u64.wrap (2 ^ min a0.toNat 64)) = ji5 := by have h_ := hji5_; rw [Int.one_mul] at h_; exact h_
   have hji5v : a0 ≤ 64 → (IntKind.u64.wrap (2 ^ a0.toNat)) = ji5 := fun hle_ => by have h_ := hji5z hle_; rw [Int.one_mul] at h_; exact h_
   obtain rfl := Option.some.inj H
   go_enter Tryz.func78, Tryz.ntmps78
   go_wp2
   go_ret
   exact ⟨by rfl, by repeat (exact Drawn0.refl _)⟩
end Go.Proofs.YtfohecpfenegkaaGreat.Print
end
section
namespace Go.Proofs.YtfohecpfenegkaaGreat.Print
open Go.RowKit Go.Proofs.YtfohecpfenegkaaGreatW.PrintWords Go.Proofs.YtfohecpfenegkaaGreatW.PrintLast Go.Proofs.YtfohecpfenegkaaGreatW.PrintMore
attribute [local go_sem] max2_int min2_int max_two min_two max_three min_three max_four min_four   -- for this text's walks alone
set_option linter.unusedVariables false
set_option linter.unusedSimpArgs false
/-! ### slices_Clone_string_string: function 35 (a contract of the session's own) -/
def slices_Clone_string_string.f (l0 : List ByteArray) : Option (List ByteArray) := if l0.length ≤ 2000000000000 then some l0 else none
set_option maxHeartbeats 4000000 in
set_option maxRecDepth 100000 in
theorem slices_Clone_string_string.calls (A0 : Option Addr) (c0 : Nat) (l0 : List ByteArray) (r : List ByteArray) (w : World) (hr0 : Kd.string.C w A0 l0.length l0) (hc0 : l0.length ≤ c0) (h : slices_Clone_string_string.f l0 = some r) :
    Calls Tryz.prog 35 #[.slice A0 l0.length c0] w fun e w' => ∃ v0_ : Value, e = .returned v0_ ∧ Kd.string.R 9 w' w.heap.size (fun _ => True) v0_ r ∧ Below w.heap.size w w' := by
 have hl : l0.length ≤ 2000000000000 := by
   unfold slices_Clone_string_string.f at h
   split at h
   ·assumption
   ·exact absurd h (by simp)
 obtain rfl : l0 = r := by
   unfold slices_Clone_string_string.f at h
   rw [if_pos hl] at h
   exact Option.some.inj h
 have HR := Aside0.mk hr0
 have HC := Aside0.mk hc0
 have HL := Aside0.mk hl
 clear hr0 hc0 hl h
 go_enter Tryz.func35, Tryz.ntmps35
 rcases A0 with _ | ad
 ·have h0 : l0 = [] := by
    have := HR.out.2.2
    rcases l0 with _ | ⟨x, l⟩
    ·rfl
    ·obtain ⟨ad, he, _⟩ := this (by simp)
     exact absurd he (by simp)
  subst h0
  have hE := Go.Lib.run_eql_slice_nil_nil (P := Tryz.prog) w (t := 27) (e := 9) 0 c0 Tryz.underlying27
  go_wp2
  go_ret
  exact ⟨_, rfl, Kd.R_nil _ _ _ _ _, Below.refl _ _⟩
 ·have hE := Go.Lib.run_eql_slice_some_nil (P := Tryz.prog) w (t := 27) (e := 9) ad l0.length c0 Tryz.underlying27
  go_wp2_with (first | ((with_reducible refine gate_dst (N := 5) rfl ?_); refine Kd.R_lit Kd.string (w0 := w) w.heap.size 9 rfl (N := 5) rfl (xs := []) (inner := []) (ok := fun _ => True) (okp := fun _ => True) (by (go_simp; done)) (Reps.none _ _) (fun _ _ => trivial) trivial (Below.refl _ _) (Nat.le_refl _) (by simp) ?_; intro v5 w1 ho5 hb hg_ hnew_; have HO5 := Aside0.mk ho5; have HB := Aside0.mk hb; clear ho5 hb hg_ hnew_; obtain ⟨Ao5, co5, eo5⟩ := Kd.R_slice HO5.out; subst eo5) | ((with_reducible refine gate_builtin (b := .append) (xs := #[.tmp 5, .tmp 6]) rfl ?_); at_builtin; refine Kd.R_append_rows Kd.string (w0 := w) w.heap.size rfl (.tmp 5) (.tmp 6) 27 9 _ _ rfl Tryz.underlying27 info9 rfl (by decide) (by omega) _ [] l0 _ _ _ (fun _ => True) (fun _ => False) rfl rfl HO5.out (Kd.C_below HR.out HB.out) (fun _ _ h => h) (fun _ h => h.elim) (fun _ _ => trivial) HB.out (below_size HB.out) (by have := HL.out; simp; omega) ?_; intro v7 w2 ho7 hb7 hg_ hat_; have HO7 := Aside0.mk ho7; have HB7 := Aside0.mk hb7; clear ho7 hb7 hg_ hat_))
  go_ret
  exact ⟨_, rfl, by simpa using HO7.out, HB7.out⟩
/-! ### slices_Sort_string_string: function 36 (a contract of the session's own) -/
def Tryz.laysSortS_ren : Go.Shelf.Ren := ⟨fun | 190 => 36 | 125 => 61 | 258 => 60 | 128 => 88 | 129 => 89 | 302 => 80 | 303 => 81 | 304 => 82 | 305 => 83 | 306 => 84 | 307 => 85 | 308 => 62 | 309 => 86 | 310 => 87 | 333 => 95 | 329 => 96 | 330 => 97 | 334 => 98 | 335 => 99 | 336 => 90 | 344 => 109 | n => n, fun | 31 => 27 | 9 => 9 | 3 => 3 | 46 => 87 | 0 => 0 | 51 => 109 | 53 => 65 | 4 => 4 | 183 => 103 | 182 => 102 | 131 => 59 | 5 => 5 | 218 => 116 | 222 => 120 | 228 => 127 | 229 => 61 | n => n, fun | n => n⟩
theorem Tryz.laysSortS : Go.Proofs.Lays.n190 Tryz.prog Tryz.laysSortS_ren := {
  mixed := by kernel_rfl
  f125 := Tryz.func61.trans (congrArg some (by kernel_rfl))
  f128 := Tryz.func88.trans (congrArg some (by kernel_rfl))
  f129 := Tryz.func89.trans (congrArg some (by kernel_rfl))
  f190 := Tryz.func36.trans (congrArg some (by kernel_rfl))
  f258 := Tryz.func60.trans (congrArg some (by kernel_rfl))
  f302 := Tryz.func80.trans (congrArg some (by kernel_rfl))
  f303 := Tryz.func81.trans (congrArg some (by kernel_rfl))
  f304 := Tryz.func82.trans (congrArg some (by kernel_rfl))
  f305 := Tryz.func83.trans (congrArg some (by kernel_rfl))
  f306 := Tryz.func84.trans (congrArg some (by kernel_rfl))
  f307 := Tryz.func85.trans (congrArg some (by kernel_rfl))
  f308 := Tryz.func62.trans (congrArg some (by kernel_rfl))
  f309 := Tryz.func86.trans (congrArg some (by kernel_rfl))
  f310 := Tryz.func87.trans (congrArg some (by kernel_rfl))
  f329 := Tryz.func96.trans (congrArg some (by kernel_rfl))
  f330 := Tryz.func97.trans (congrArg some (by kernel_rfl))
  f333 := Tryz.func95.trans (congrArg some (by kernel_rfl))
  f334 := Tryz.func98.trans (congrArg some (by kernel_rfl))
  f335 := Tryz.func99.trans (congrArg some (by kernel_rfl))
  f336 := Tryz.func90.trans (congrArg some (by kernel_rfl))
  f344 := Tryz.func109.trans (congrArg some (by kernel_rfl))
  t0 := Tryz.underlying0
  a0 := Tryz.isAgg0
  z0 := Tryz.sizeOf0
  v0 := Tryz.zeroValue0
  t3 := Tryz.underlying3
  a3 := Tryz.isAgg3
  z3 := Tryz.sizeOf3
  v3 := Tryz.zeroValue3
  t4 := Tryz.underlying4
  a4 := Tryz.isAgg4
  z4 := Tryz.sizeOf4
  v4 := Tryz.zeroValue4
  t5 := Tryz.underlying5
  a5 := Tryz.isAgg5
  z5 := Tryz.sizeOf5
  v5 := Tryz.zeroValue5
  t9 := Tryz.underlying9
  a9 := Tryz.isAgg9
  z9 := Tryz.sizeOf9
  v9 := Tryz.zeroValue9
  t31 := Tryz.underlying27
  a31 := Tryz.isAgg27
  z31 := Tryz.sizeOf27
  v31 := Tryz.zeroValue27
  t46 := Tryz.underlying87
  a46 := Tryz.isAgg87
  z46 := Tryz.sizeOf87
  v46 := Tryz.zeroValue87
  t51 := Tryz.underlying109
  a51 := Tryz.isAgg109
  z51 := Tryz.sizeOf109
  v51 := Tryz.zeroValue109
  t53 := Tryz.underlying65
  a53 := Tryz.isAgg65
  z53 := Tryz.sizeOf65
  v53 := Tryz.zeroValue65
  t131 := Tryz.underlying59
  a131 := Tryz.isAgg59
  z131 := Tryz.sizeOf59
  v131 := Tryz.zeroValue59
  t182 := Tryz.underlying102
  a182 := Tryz.isAgg102
  z182 := Tryz.sizeOf102
  v182 := Tryz.zeroValue102
  t183 := Tryz.underlying103
  a183 := Tryz.isAgg103
  z183 := Tryz.sizeOf103
  v183 := Tryz.zeroValue103
  t218 := Tryz.underlying116
  a218 := Tryz.isAgg116
  z218 := Tryz.sizeOf116
  v218 := Tryz.zeroValue116
  t222 := Tryz.underlying120
  a222 := Tryz.isAgg120
  z222 := Tryz.sizeOf120
  v222 := Tryz.zeroValue120
  t228 := Tryz.underlying127
  a228 := Tryz.isAgg127
  z228 := Tryz.sizeOf127
  v228 := Tryz.zeroValue127
  t229 := Tryz.underlying61
  a229 := Tryz.isAgg61
  z229 := Tryz.sizeOf61
  v229 := Tryz.zeroValue61 }
def slices_Sort_string_string.bl (s : ByteArray) : List UInt8 := s.data.toList
def slices_Sort_string_string.bs (l : List UInt8) : ByteArray := ⟨l.toArray⟩
theorem slices_Sort_string_string.enc (l : List ByteArray) : l.map Value.string = (l.map slices_Sort_string_string.bl).map encStr := by
 rw [List.map_map]
 exact List.map_congr_left fun x _ => by simp [slices_Sort_string_string.bl, encStr]
theorem slices_Sort_string_string.dec (l : List (List UInt8)) : l.map encStr = (l.map slices_Sort_string_string.bs).map Value.string := by
 rw [List.map_map]
 exact List.map_congr_left fun x _ => rfl
def slices_Sort_string_string.f (l0 : List ByteArray) : Option (List ByteArray) := if l0.length ≤ 2000000000000 then some (((l0.map slices_Sort_string_string.bl).mergeSort fun x y => decide (x ≤ y)).map slices_Sort_string_string.bs) else none
theorem slices_Sort_string_string.calls (P0_ : Nat → Prop) (u9000_ : Value) (l0 : List ByteArray) (r : List ByteArray) (w0 w : World) (hB : Below w0.heap.size w0 w) (ho0 : Kd.R Kd.string 9 w w0.heap.size P0_ u9000_ l0) (h : slices_Sort_string_string.f l0 = some r) :
    Calls Tryz.prog 36 #[u9000_] w fun e w' => e = .returned (.tuple #[]) ∧ Kd.R Kd.string 9 w' w0.heap.size (fun k_ => (P0_ k_ ∨ w.heap.size ≤ k_)) u9000_ r ∧ Below w0.heap.size w0 w' ∧ Kept w w' (fun k_ => P0_ k_) := by
 have hl : l0.length ≤ 2000000000000 := by
   unfold slices_Sort_string_string.f at h
   split at h
   ·assumption
   ·exact absurd h (by simp)
 obtain rfl : ((l0.map slices_Sort_string_string.bl).mergeSort fun x y => decide (x ≤ y)).map slices_Sort_string_string.bs = r := by
   unfold slices_Sort_string_string.f at h
   rw [if_pos hl] at h
   exact Option.some.inj h
 have hown := Kd.own_of_R ho0
 have hok := ho0.1
 have hlen : ((l0.map slices_Sort_string_string.bl).mergeSort fun x y => decide (x ≤ y)).length = (l0.map slices_Sort_string_string.bl).length := List.length_mergeSort _
 have hlm : (l0.map slices_Sort_string_string.bl).length = l0.length := List.length_map _
 rcases hown.2 with ⟨rfl, hnil⟩ | ⟨g, cap, cur, rfl, hb, hh, hn, hcap, hsz, htk⟩
 ·have h0 : l0 = [] := by
    cases l0 with
    | nil => rfl
    | cons x l => simp at hnil
  subst h0
  refine (calls_of_every_depth fun D => AnyS.slices_Sort_string_none_alone Tryz.laysSortS D none 0 w).mono ?_
  rintro e w' ⟨rfl, rfl⟩
  rw [show ((([] : List ByteArray).map slices_Sort_string_string.bl).mergeSort fun x y => decide (x ≤ y)).map slices_Sort_string_string.bs = [] by simp]
  exact ⟨rfl, Kd.R_mono ho0 (fun k hk => .inl hk), hB, Kept.refl _ _⟩
 ·have htk2 : cur.toList.take (l0.map slices_Sort_string_string.bl).length = (l0.map slices_Sort_string_string.bl).map encStr := by
    rw [hlm, ← slices_Sort_string_string.enc]
    simpa [encs] using htk
  have hH := holds_of_block (ss := l0.map slices_Sort_string_string.bl) hh htk2
  have hg : g < w.heap.size := (Array.getElem?_eq_some_iff.1 hh).1
  have hq := Go.Proofs.Any.slices_Sort_string Tryz.laysSortS g 0 cap (l0.map slices_Sort_string_string.bl) w hH hg (by omega)
  rw [hlm] at hq
  refine hq.mono ?_
  rintro e w' ⟨rfl, n, os, rfl⟩
  have hgr := grownBy_sorted (w := w) (g := g) (n := n) (os := os) ((l0.map slices_Sort_string_string.bl).mergeSort fun x y => decide (x ≤ y)).toArray
  have ho := ownsRow_sorted (n := n) (os := os) (ss := l0.map slices_Sort_string_string.bl) hlen hb hh (by rw [hlm]; exact hn) hcap hsz
  refine ⟨rfl, ?_, pw_below_grown hB (some g) hB.size hgr (fun k hk => by cases hk; exact hb), Kept.of_grown hgr (Kept.refl _ _) (fun k hk => by cases hk; exact .inl (hok g rfl))⟩
  rw [slices_Sort_string_string.dec, hlm] at ho
  refine Kd.R_of_own ?_ (fun k hk => .inl (hok k hk))
  rw [List.length_map, hlen, hlm]
  exact ho
/-! ### slices_Compact_string_string: function 37 (a contract of the session's own) -/
abbrev slices_Compact_string_string.eq (a b : ByteArray) : Prop := a.toList = b.toList
def slices_Compact_string_string.kp (l : List ByteArray) : Nat → List ByteArray
  | 0 => []
  | 1 => l.take 1
  | j + 2 => if slices_Compact_string_string.eq (rdOf ByteArray.empty l ((j + 1 : Nat) : Int)) (rdOf ByteArray.empty l (j : Int)) then slices_Compact_string_string.kp l (j + 1) else slices_Compact_string_string.kp l (j + 1) ++ [rdOf ByteArray.empty l ((j + 1 : Nat) : Int)]
def slices_Compact_string_string.f (l0 : List ByteArray) : Option (List ByteArray) := if l0.length ≤ 2000000000000 then some (slices_Compact_string_string.kp l0 l0.length) else none
theorem slices_Compact_string_string.rd_get (l : List ByteArray) (i : Nat) (h : i < l.length) : rdOf ByteArray.empty l (i : Int) = l[i] := by simp [rdOf, List.getD_eq_getElem?_getD, h]
theorem slices_Compact_string_string.kp_more {l : List ByteArray} {k : Nat} (h1 : 1 ≤ k) (hk : k < l.length) (h : slices_Compact_string_string.kp l k = l.take k) (hne : ¬ slices_Compact_string_string.eq (rdOf ByteArray.empty l (k : Int)) (rdOf ByteArray.empty l ((k : Int) - 1))) : slices_Compact_string_string.kp l (k + 1) = l.take (k + 1) := by
 obtain ⟨j, rfl⟩ : ∃ j, k = j + 1 := ⟨k - 1, by omega⟩
 rw [show (((j + 1 : Nat) : Int) - 1) = (j : Int) by omega] at hne
 simp only [slices_Compact_string_string.kp]
 rw [if_neg hne, h, slices_Compact_string_string.rd_get l (j + 1) hk, List.take_succ_eq_append_getElem hk]
def slices_Compact_string_string.St (l L : List ByteArray) (i q : Nat) : Prop := L.length = l.length ∧ 1 ≤ i ∧ i < q ∧ q ≤ l.length ∧ L.take i = slices_Compact_string_string.kp l q ∧ L.drop (q - 1) = l.drop (q - 1)
theorem slices_Compact_string_string.St.start {l : List ByteArray} {k : Nat} (h1 : 1 ≤ k) (hk : k < l.length) (h : slices_Compact_string_string.kp l k = l.take k) (he : slices_Compact_string_string.eq (rdOf ByteArray.empty l (k : Int)) (rdOf ByteArray.empty l ((k : Int) - 1))) : slices_Compact_string_string.St l l k (k + 1) := by
 refine ⟨rfl, h1, by omega, by omega, ?_, rfl⟩
 obtain ⟨j, rfl⟩ : ∃ j, k = j + 1 := ⟨k - 1, by omega⟩
 rw [show (((j + 1 : Nat) : Int) - 1) = (j : Int) by omega] at he
 simp only [slices_Compact_string_string.kp]
 rw [if_pos he, h]
theorem slices_Compact_string_string.St.at_ {l L : List ByteArray} {i q : Nat} (h : slices_Compact_string_string.St l L i q) (hq : q < l.length) : rdOf ByteArray.empty L (q : Int) = rdOf ByteArray.empty l (q : Int) ∧ rdOf ByteArray.empty L ((q - 1 : Nat) : Int) = rdOf ByteArray.empty l ((q - 1 : Nat) : Int) := by
 obtain ⟨h1, h2, h3, h4, h5, h6⟩ := h
 have e : ∀ m, q - 1 ≤ m → m < l.length → rdOf ByteArray.empty L (m : Int) = rdOf ByteArray.empty l (m : Int) := fun m hm hl => by
   have : (L.drop (q - 1))[m - (q - 1)]? = (l.drop (q - 1))[m - (q - 1)]? := by rw [h6]
   rw [List.getElem?_drop, List.getElem?_drop, show q - 1 + (m - (q - 1)) = m by omega] at this
   simp [rdOf, List.getD_eq_getElem?_getD, this]
 exact ⟨e q (by omega) hq, e (q - 1) (by omega) (by omega)⟩
theorem slices_Compact_string_string.St.skip {l L : List ByteArray} {i q : Nat} (h : slices_Compact_string_string.St l L i q) (hq : q < l.length) (he : slices_Compact_string_string.eq (rdOf ByteArray.empty L (q : Int)) (rdOf ByteArray.empty L ((q - 1 : Nat) : Int))) : slices_Compact_string_string.St l L i (q + 1) := by
 rw [(h.at_ hq).1, (h.at_ hq).2] at he
 obtain ⟨h1, h2, h3, h4, h5, h6⟩ := h
 obtain ⟨j, rfl⟩ : ∃ j, q = j + 1 := ⟨q - 1, by omega⟩
 refine ⟨h1, h2, by omega, by omega, ?_, ?_⟩
 ·simp only [slices_Compact_string_string.kp]
  rw [h5]
  exact (if_pos he).symm
 ·have := congrArg (fun z => z.drop 1) h6
  simp only [List.drop_drop] at this
  simpa using this
theorem slices_Compact_string_string.St.put {l L : List ByteArray} {i q : Nat} (h : slices_Compact_string_string.St l L i q) (hq : q < l.length) (hne : ¬ slices_Compact_string_string.eq (rdOf ByteArray.empty L (q : Int)) (rdOf ByteArray.empty L ((q - 1 : Nat) : Int))) : slices_Compact_string_string.St l (L.set i (rdOf ByteArray.empty L (q : Int))) (i + 1) (q + 1) := by
 rw [(h.at_ hq).1, (h.at_ hq).2] at hne
 rw [(h.at_ hq).1]
 obtain ⟨h1, h2, h3, h4, h5, h6⟩ := h
 obtain ⟨j, rfl⟩ : ∃ j, q = j + 1 := ⟨q - 1, by omega⟩
 refine ⟨by rw [List.length_set, h1], by omega, by omega, by omega, ?_, ?_⟩
 ·have hi : i < (L.set i (rdOf ByteArray.empty l ((j + 1 : Nat) : Int))).length := by rw [List.length_set]; omega
  simp only [slices_Compact_string_string.kp]
  rw [List.take_succ_eq_append_getElem hi, List.getElem_set_self, List.take_set_of_le (Nat.le_refl _), h5]
  exact (if_neg hne).symm
 ·rw [List.drop_set_of_lt (by omega)]
  have := congrArg (fun z => z.drop 1) h6
  simp only [List.drop_drop] at this
  simpa using this
theorem slices_Compact_string_string.St.done {l L : List ByteArray} {i q : Nat} (h : slices_Compact_string_string.St l L i q) (hq : ¬ q < l.length) : L.take i = slices_Compact_string_string.kp l l.length := by
 obtain ⟨h1, h2, h3, h4, h5, h6⟩ := h
 rw [h5, show q = l.length by omega]
theorem slices_Compact_string_string.zero : (Tryz.prog.info? 9).map (fun i => (i.zero, i.size)) = some (some (.string ByteArray.empty), 1) := by kernel_rfl
set_option maxHeartbeats 4000000 in
set_option maxRecDepth 100000 in
theorem slices_Compact_string_string.calls (P0_ : Nat → Prop) (u : Value) (l0 : List ByteArray) (r : List ByteArray) (w0 w : World) (hB : Below w0.heap.size w0 w) (ho0 : Kd.R Kd.string 9 w w0.heap.size P0_ u l0) (h : slices_Compact_string_string.f l0 = some r) :
    Calls Tryz.prog 37 #[u] w fun e w' => ∃ v0_ : Value, e = .returned v0_ ∧ Kd.R Kd.string 9 w' w0.heap.size (fun k_ => (P0_ k_ ∨ w.heap.size ≤ k_)) v0_ r ∧ Below w0.heap.size w0 w' ∧ Kept w w' (fun k_ => P0_ k_) := by
 have hl : l0.length ≤ 2000000000000 := by
   unfold slices_Compact_string_string.f at h
   split at h
   ·assumption
   ·exact absurd h (by simp)
 obtain rfl : slices_Compact_string_string.kp l0 l0.length = r := by
   unfold slices_Compact_string_string.f at h
   rw [if_pos hl] at h
   exact Option.some.inj h
 clear h
 have HL := Aside0.mk hl
 have HW := Aside0.mk hB
 have HR := Aside0.mk ho0
 by_cases h2 : l0.length < 2
 ·obtain ⟨A, c, rfl, hlc, hC⟩ := Kd.R_reads ho0
  have HK : Aside0 (slices_Compact_string_string.kp l0 l0.length = l0) := ⟨by
    rcases l0 with _ | ⟨x, _ | ⟨y, l⟩⟩
    ·rfl
    ·rfl
    ·exact absurd h2 (by simp only [List.length_cons]; omega)⟩
  have q2 : (l0.length : Int) < 2 := by omega
  clear hlc hC ho0 hB hl
  go_enter Tryz.func37, Tryz.ntmps37
  go_wp2
  go_ret
  exact ⟨_, rfl, by rw [HK.out]; exact Kd.R_mono HR.out (fun _ hk => .inl hk), HW.out, Kept.refl _ _⟩
 ·obtain ⟨g, cap, he, hbg, hlt, cells, hcells⟩ := Kd.R_form ho0 (by omega)
  subst he
  have A3 := Aside0.mk ((Kd.R_reads' ho0).2.1)
  have AG := Aside0.mk hbg
  have AI := Aside0.mk (show ¬ l0.length < 2 from h2)
  have q2 : ¬ (l0.length : Int) < 2 := by omega
  have q2b : decide ((l0.length : Int) < 2) = false := decide_eq_false q2
  have A4 := Aside0.mk (show slices_Compact_string_string.kp l0 1 = l0.take 1 from rfl)
  have HG := Aside0.mk (HR.out.1 g (by simp [Value.ownBlock]))
  have HO := Aside0.mk (Kd.R_mono (ok' := fun k_ => P0_ k_ ∨ w.heap.size ≤ k_) HR.out (fun _ hk => .inl hk))
  clear ho0 hB hl hlt hcells hbg h2
  go_enter Tryz.func37, Tryz.ntmps37
  go_wp2
  go_loopw [3] (fun v3 wr => ∃ (k : Nat) (kk : Int), Aside0 (1 ≤ k ∧ k ≤ l0.length ∧ slices_Compact_string_string.kp l0 k = l0.take k) ∧ Aside0 (kk = (k : Int)) ∧ v3 = .int .i64 kk ∧ Aside0 (Kd.R Kd.string 9 wr w0.heap.size (fun k_ => P0_ k_ ∨ w.heap.size ≤ k_) (.slice (some ⟨g, 0, none⟩) l0.length cap) l0) ∧ Aside0 (Below w0.heap.size w0 wr) ∧ Aside0 (Kept w wr (fun k_ => P0_ k_))) (fun v3 _ => l0.length - (intOf v3).toNat)
  case atStart => exact ⟨1, 1, ⟨by omega, by have := AI.out; omega, A4.out⟩, ⟨rfl⟩, by rfl, HO, HW, ⟨Kept.refl _ _⟩⟩
  case round =>
    obtain ⟨k, kk, HS, HKK, rfl, HO2, HB2, HK2⟩ := hrel
    by_cases hlt : kk < (l0.length : Int)
    ·have hk0 : (0 : Int) ≤ kk := by have := HKK.out; omega
     have HKI := Aside0.mk (show 1 ≤ k ∧ k < l0.length by have := HKK.out; have := HS.out.1; omega)
     have hj0 : (0 : Int) ≤ kk - 1 := by have := HKK.out; have := HS.out.1; omega
     have hj1 : kk - 1 < (l0.length : Int) := by omega
     have hjw : wrap64 (kk - 1) = kk - 1 := by have := HL.out; unfold wrap64; omega
     have hjv : IntKind.i64.wrap (kk - 1) = kk - 1 := (i64_w _).trans hjw
     have hx := (Kd.R_cell ByteArray.empty HO2.out kk hk0 hlt).1
     have hy := (Kd.R_cell ByteArray.empty HO2.out (kk - 1) hj0 hj1).1
     obtain ⟨x, ex⟩ : ∃ x, x = rdOf ByteArray.empty l0 kk := ⟨_, rfl⟩
     obtain ⟨y, ey⟩ : ∃ y, y = rdOf ByteArray.empty l0 (kk - 1) := ⟨_, rfl⟩
     rw [← ex] at hx
     rw [← ey] at hy
     have hy' := hy
     rw [show (kk - 1).toNat = kk.toNat - 1 by omega] at hy'
     have hk1 : 1 ≤ kk := by omega
     have EX := Aside0.mk (show x = rdOf ByteArray.empty l0 (k : Int) by rw [ex, HKK.out])
     have EY := Aside0.mk (show y = rdOf ByteArray.empty l0 ((k : Int) - 1) by rw [ey, HKK.out])
     clear ex ey
     by_cases e : slices_Compact_string_string.eq x y
     ·skip
      have e1 : (x.toList == y.toList) = true := beq_iff_eq.mpr e; have e2 : decide (x.toList = y.toList) = true := decide_eq_true e; have e4 : (x.toList != y.toList) = false := bne_eq_false_iff_eq.mpr e
      have A5 := Aside0.mk (slices_Compact_string_string.St.start HKI.out.1 HKI.out.2 HS.out.2.2 (by rw [← EX.out, ← EY.out]; exact e))
      have hcutS := cut_from (P := Tryz.prog) 27 9 .i64 Tryz.underlying27 (info_parts info9).choose_spec.1 1 (info_parts info9).choose_spec.2.2.1 (some ⟨g, 0, none⟩) l0.length cap kk hk0 (Int.le_of_lt hlt)
      rw [if_neg (show ¬ cap = kk.toNat by have := A3.out; omega)] at hcutS
      simp only [Option.map_some, add_plain, Nat.zero_add, Nat.mul_one] at hcutS
      have HD2 := Aside0.mk (Kd.R_drew HO2.out)
      have HB3 := Aside0.mk (show Below w0.heap.size w0 wr.drew by exact below_drew1 HB2.out)
      have HK3 := Aside0.mk (show Kept w wr.drew (fun k_ => P0_ k_) by exact Kept.drew HK2.out)
      have HKL := Aside0.mk hlt
      clear e
      go_wp2
      go_region
      go_wp2
      clear hx hy hy' hcutS hjw hjv hk1 hj0 hj1 e1 e2 EX EY HO2 HB2 HK2 hlt
      go_loopw [3, 5] (fun v3 v5 wr => ∃ (L : List ByteArray) (i q : Nat) (ii jj : Int), Aside0 (slices_Compact_string_string.St l0 L i q) ∧ Aside0 (ii = (i : Int)) ∧ Aside0 (jj = (q : Int) - (k : Int) ∧ k < q) ∧ v3 = .int .i64 ii ∧ v5 = .int .i64 jj ∧ Aside0 (Kd.R Kd.string 9 wr w0.heap.size (fun k_ => P0_ k_ ∨ w.heap.size ≤ k_) (.slice (some ⟨g, 0, none⟩) l0.length cap) L) ∧ Aside0 (Below w0.heap.size w0 wr) ∧ Aside0 (Kept w wr (fun k_ => P0_ k_))) (fun _ v5 _ => l0.length - (intOf v5).toNat)
      case atStart => exact ⟨l0, k, k + 1, kk, 1, A5, HKK, ⟨by omega, by omega⟩, by rfl, by rfl, HD2, HB3, HK3⟩
      case round =>
        obtain ⟨L, i, q, ii, jj, HS2, HII, HJJ, rfl, rfl, HO4, HB4, HK4⟩ := hrel
        by_cases hlt2 : jj < ((l0.length - kk.toNat : Nat) : Int)
        ·have hq := HJJ.out
         have hkk := HKK.out
         have hKI := HKI.out
         have hq0 : (0 : Int) ≤ jj := by omega
         have hq1 : 1 ≤ jj := by omega
         have HQ := Aside0.mk (show q < l0.length by omega)
         have HLn := Aside0.mk HS2.out.1
         have HO5 : Aside0 (Kd.R Kd.string 9 wr w0.heap.size (fun k_ => P0_ k_ ∨ w.heap.size ≤ k_) (.slice (some ⟨g, 0, none⟩) L.length cap) L) := ⟨by rw [HLn.out]; exact HO4.out⟩
         have hx := (Kd.R_cell ByteArray.empty HO5.out (q : Int) (by omega) (by rw [HLn.out]; have := HQ.out; omega)).1
         have hy := (Kd.R_cell ByteArray.empty HO5.out ((q - 1 : Nat) : Int) (by omega) (by rw [HLn.out]; have := HQ.out; omega)).1
         obtain ⟨x, ex⟩ : ∃ x, x = rdOf ByteArray.empty L (q : Int) := ⟨_, rfl⟩
         obtain ⟨y, ey⟩ : ∃ y, y = rdOf ByteArray.empty L ((q - 1 : Nat) : Int) := ⟨_, rfl⟩
         rw [← ex, show ((q : Int)).toNat = kk.toNat + jj.toNat by omega] at hx
         rw [← ey, show (((q - 1 : Nat) : Int)).toNat = kk.toNat + (jj.toNat - 1) by omega] at hy
         have hjb : jj - 1 < ((l0.length - kk.toNat : Nat) : Int) := by omega
         have hja : (0 : Int) ≤ jj - 1 := by omega
         have hjw : wrap64 (jj - 1) = jj - 1 := by have := HL.out; unfold wrap64; omega
         have hjv : IntKind.i64.wrap (jj - 1) = jj - 1 := (i64_w _).trans hjw
         have EX := Aside0.mk (show x = rdOf ByteArray.empty L (q : Int) by rw [ex])
         have EY := Aside0.mk (show y = rdOf ByteArray.empty L ((q - 1 : Nat) : Int) by rw [ey])
         clear ex ey hq hkk hKI
         by_cases e : slices_Compact_string_string.eq x y
         ·skip
          have e1 : (x.toList == y.toList) = true := beq_iff_eq.mpr e; have e2 : decide (x.toList = y.toList) = true := decide_eq_true e; have e4 : (x.toList != y.toList) = false := bne_eq_false_iff_eq.mpr e
          have A6 := Aside0.mk (HS2.out.skip HQ.out (by rw [← EX.out, ← EY.out]; exact e))
          clear e
          go_wp2
          go_region
          go_wp2
          go_roundw
          case rel => exact ⟨L, i, q + 1, ii, wrap64 (jj + 1), A6, HII, ⟨by have := HJJ.out; have := HL.out; have := HQ.out; unfold wrap64; omega, by have := HJJ.out; omega⟩, by rfl, by rfl, ⟨by (with_reducible repeat (apply Kd.R_drew)); exact HO4.out⟩, ⟨by repeat (first | exact HB4.out | apply pw_below_drewN)⟩, ⟨by repeat (exact HK4.out)⟩⟩
          case measure => have := HJJ.out; have := HL.out; have := HQ.out; (show l0.length - (wrap64 (jj + 1)).toNat < l0.length - jj.toNat; unfold wrap64; omega)
         ·skip
          have e1 : (x.toList == y.toList) = false := beq_eq_false_iff_ne.mpr e; have e2 : decide (x.toList = y.toList) = false := decide_eq_false e; have e4 : (x.toList != y.toList) = true := bne_iff_ne.mpr e
          have A6 := Aside0.mk (HS2.out.put HQ.out (by rw [← EX.out, ← EY.out]; exact e))
          clear e
          have hI0 : (0 : Int) ≤ ii := by have := HII.out; omega
          have hI1 : ii < (l0.length : Int) := by have := HII.out; have := HS2.out.2.2.1; have := HQ.out; omega
          have HII1 := Aside0.mk hI1
          have hc := Kd.R_cell ByteArray.empty HO5.out ii hI0 (by rw [HLn.out]; exact hI1)
          obtain ⟨hc1, hc2⟩ := hc
          generalize rdOf ByteArray.empty L ii = old at hc1
          have hput := Kd.R_put (Kd.R_drew HO5.out) ii x
          rw [HLn.out] at hput
          have HP1 := Aside0.mk hput.1
          have HP2 := Aside0.mk hput.2
          clear hput
          go_wp2
          go_region
          go_wp2
          go_roundw
          case rel => exact ⟨L.set ii.toNat x, i + 1, q + 1, wrap64 (ii + 1), wrap64 (jj + 1), ⟨by rw [HII.out, Int.toNat_natCast, EX.out]; exact A6.out⟩, ⟨by have := HII.out; have := HII1.out; have := HL.out; unfold wrap64; omega⟩, ⟨by have := HJJ.out; have := HL.out; have := HQ.out; unfold wrap64; omega, by have := HJJ.out; omega⟩, by rfl, by rfl, HP1, ⟨(below_drew1 HB4.out).grown HP2.out (below_drew1 HB4.out).size (fun k hk => by injection hk with hk; subst hk; exact AG.out)⟩, ⟨Kept.of_grown HP2.out (Kept.drew HK4.out) (fun k hk => by injection hk with hk; subst hk; exact .inl HG.out)⟩⟩
          case measure => have := HJJ.out; have := HL.out; have := HQ.out; (show l0.length - (wrap64 (jj + 1)).toNat < l0.length - jj.toNat; unfold wrap64; omega)
        ·have HD : Aside0 (L.take ii.toNat = slices_Compact_string_string.kp l0 l0.length) := ⟨by rw [HII.out, Int.toNat_natCast]; exact HS2.out.done (by have := HJJ.out; have := HKK.out; have := HKI.out; omega)⟩
         have hI0 : (0 : Int) ≤ ii := by have := HII.out; omega
         have hI1 : ii < (l0.length : Int) := by have := HII.out; have := HS2.out.2.2.1; have := HS2.out.2.2.2.1; omega
         have hI2 : ii ≤ (l0.length : Int) := Int.le_of_lt hI1
         obtain ⟨i1, hi1, _, hsz1, _⟩ := info_parts info9
         have hcutA := cut_from (P := Tryz.prog) 27 9 .i64 Tryz.underlying27 hi1 1 hsz1 (some ⟨g, 0, none⟩) l0.length cap ii hI0 hI2
         have hcutB := cut_to (P := Tryz.prog) 27 9 .i64 Tryz.underlying27 hi1 (some ⟨g, 0, none⟩) l0.length cap ii hI0 hI2 A3.out
         rw [if_neg (show ¬ cap = ii.toNat by have := A3.out; omega)] at hcutA
         simp only [Option.map_some, add_plain, Nat.zero_add, Nat.mul_one] at hcutA
         obtain ⟨cur, hh, hcs⟩ := Kd.R_block HO4.out
         have HH := Aside0.mk hh
         have HS5 := Aside0.mk (show ii.toNat + (l0.length - ii.toNat) * 1 ≤ cur.size by rw [hcs, show (Kd.string).sz = 1 from rfl]; have := A3.out; omega)
         have HS6 := Aside0.mk (show ii.toNat + (l0.length - ii.toNat) * 1 ≤ cap * (Kd.string).sz by rw [show (Kd.string).sz = 1 from rfl]; have := A3.out; omega)
         have HS7 := Aside0.mk (show 0 < l0.length - ii.toNat by omega)
         have HS8 := Aside0.mk (show ii.toNat ≤ L.length by rw [HS2.out.1]; omega)
         clear hi1 hsz1 hh hcs
         obtain ⟨vs, hvs, hclr⟩ := run_clear_row (P := Tryz.prog) (ty := 0) (c := cap - ii.toNat) (q := ii.toNat) (n := l0.length - ii.toNat) (t := 27) (e := 9) Tryz.underlying27 slices_Compact_string_string.zero rfl (by decide) (by simp [Value.oneCell', Value.cells]) HH.out HS7.out HS5.out
         have HVS := Aside0.mk hvs
         clear hvs
         go_wp2
         go_ret
         have hb := Kd.R_beyond (Kd.R_take HO4.out HS8.out) ii.toNat vs (by rw [show (Kd.string).sz = 1 from rfl]; omega) (by rw [HVS.out]; exact HS6.out)
         refine ⟨_, rfl, ?_, HB4.out.grown hb.2 HB4.out.size (fun k hk => by injection hk with hk; subst hk; exact AG.out), Kept.of_grown hb.2 HK4.out (fun k hk => by injection hk with hk; subst hk; exact .inl HG.out)⟩
         rw [← HD.out]
         exact hb.1
     ·skip
      have e1 : (x.toList == y.toList) = false := beq_eq_false_iff_ne.mpr e; have e2 : decide (x.toList = y.toList) = false := decide_eq_false e; have e4 : (x.toList != y.toList) = true := bne_iff_ne.mpr e
      have A5 := Aside0.mk (slices_Compact_string_string.kp_more HKI.out.1 HKI.out.2 HS.out.2.2 (by rw [← EX.out, ← EY.out]; exact e))
      clear e
      go_wp2
      go_region
      go_wp2
      go_roundw
      case rel => exact ⟨k + 1, wrap64 (kk + 1), ⟨by omega, by have := HKI.out; omega, A5.out⟩, ⟨by have := HKK.out; have := HL.out; unfold wrap64; omega⟩, by rfl, ⟨by (with_reducible repeat (apply Kd.R_drew)); exact HO2.out⟩, ⟨by repeat (first | exact HB2.out | apply pw_below_drewN)⟩, ⟨by repeat (exact HK2.out)⟩⟩
      case measure => have := HKK.out; have := HL.out; have := HKI.out; (show l0.length - (wrap64 (kk + 1)).toNat < l0.length - kk.toNat; unfold wrap64; omega)
    ·have HD : Aside0 (slices_Compact_string_string.kp l0 l0.length = l0) := ⟨by
       have h1 := HS.out
       have h3 := HKK.out
       have e : k = l0.length := by omega
       have h4 := h1.2.2
       rw [e, List.take_of_length_le (Nat.le_refl _)] at h4
       exact h4⟩
     go_wp2
     go_ret
     exact ⟨_, rfl, by rw [HD.out]; exact HO2.out, HB2.out, HK2.out⟩
/-! ### cmp_isNaN_string: function 90 -/
def cmp_isNaN_string.f (a0 : ByteArray) : Option (Bool) := some (a0.toList != a0.toList)
set_option maxHeartbeats 8000000 in
set_option maxRecDepth 100000 in
theorem cmp_isNaN_string.calls (a0 : ByteArray) (r : Bool) (w : World) (h : cmp_isNaN_string.f a0 = some r) :
  Calls Tryz.prog 90 #[.string a0] w fun e w' => e = .returned (.bool r) ∧ Drawn0 w w' := by
 have H := h
 clear h
 unfold cmp_isNaN_string.f at H
 obtain rfl := Option.some.inj H
 go_enter Tryz.func90, Tryz.ntmps90
 go_wp2
 go_ret
 exact ⟨by rfl, by repeat (exact Drawn0.refl _)⟩
/-! ### cmp_Less_string: function 62 -/
def cmp_Less_string.f (a0 : ByteArray) (a1 : ByteArray) : Option (Bool) := (cmp_isNaN_string.f a0).bind fun t101 => (if t101 = true then ((cmp_isNaN_string.f a1).bind fun t102 => (if t102 = true then (some (Op.bytesLess a0.toList a1.toList)) else (some true))) else (some (Op.bytesLess a0.toList a1.toList)))
set_option maxHeartbeats 8000000 in
set_option maxRecDepth 100000 in
theorem cmp_Less_string.calls (a0 : ByteArray) (a1 : ByteArray) (r : Bool) (w : World) (h : cmp_Less_string.f a0 a1 = some r) :
  Calls Tryz.prog 62 #[.string a0, .string a1] w fun e w' => e = .returned (.bool r) ∧ Drawn0 w w' := by
 have H := h
 clear h
 unfold cmp_Less_string.f at H
 replace H := bd H
 obtain ⟨t101, A3, H⟩ := H
 replace H := ifb H
 rcases H with ⟨rfl, H⟩ | ⟨rfl, H⟩
 ·replace H := bd H
  obtain ⟨t102, A5, H⟩ := H
  replace H := ifb H
  rcases H with ⟨rfl, H⟩ | ⟨rfl, H⟩
  ·obtain rfl := Option.some.inj H
   go_enter Tryz.func62, Tryz.ntmps62
   go_wp2_with (first | ((with_reducible refine gate_callee (f := 90) rfl ?_); refine gL 6 Tryz.func90 #[.string a0] ?_; (with_reducible refine (cmp_isNaN_string.calls a0 true _ A3.out).mono ?_); rintro e w' ⟨rfl, ⟨nd, rfl⟩⟩; refine ⟨_, rfl, ?_⟩) | (go_at_call 90; (with_reducible refine (cmp_isNaN_string.calls a1 true _ A5.out).mono ?_); rintro e w' ⟨rfl, ⟨nd, rfl⟩⟩; clear A5))
   go_ret
   exact ⟨by rfl, by repeat (first | exact Drawn0.refl _ | apply Drawn0.step)⟩
  ·obtain rfl := Option.some.inj H
   go_enter Tryz.func62, Tryz.ntmps62
   go_wp2_with (first | ((with_reducible refine gate_callee (f := 90) rfl ?_); refine gL 6 Tryz.func90 #[.string a0] ?_; (with_reducible refine (cmp_isNaN_string.calls a0 true _ A3.out).mono ?_); rintro e w' ⟨rfl, ⟨nd, rfl⟩⟩; refine ⟨_, rfl, ?_⟩) | (go_at_call 90; (with_reducible refine (cmp_isNaN_string.calls a1 false _ A5.out).mono ?_); rintro e w' ⟨rfl, ⟨nd, rfl⟩⟩; clear A5))
   go_ret
   exact ⟨by rfl, by repeat (first | exact Drawn0.refl _ | apply Drawn0.step)⟩
 ·obtain rfl := Option.some.inj H
  go_enter Tryz.func62, Tryz.ntmps62
  go_wp2_with (((with_reducible refine gate_callee (f := 90) rfl ?_); refine gL 6 Tryz.func90 #[.string a0] ?_; (with_reducible refine (cmp_isNaN_string.calls a0 false _ A3.out).mono ?_); rintro e w' ⟨rfl, ⟨nd, rfl⟩⟩; refine ⟨_, rfl, ?_⟩))
  go_ret
  exact ⟨by rfl, by repeat (first | exact Drawn0.refl _ | apply Drawn0.step)⟩
/-! ### slices_isNaN_string: function 63 -/
def slices_isNaN_string.f (a0 : ByteArray) : Option (Bool) := some (a0.toList != a0.toList)
set_option maxHeartbeats 8000000 in
set_option maxRecDepth 100000 in
theorem slices_isNaN_string.calls (a0 : ByteArray) (r : Bool) (w : World) (h : slices_isNaN_string.f a0 = some r) :
  Calls Tryz.prog 63 #[.string a0] w fun e w' => e = .returned (.bool r) ∧ Drawn0 w w' := by
 have H := h
 clear h
 unfold slices_isNaN_string.f at H
 obtain rfl := Option.some.inj H
 go_enter Tryz.func63, Tryz.ntmps63
 go_wp2
 go_ret
 exact ⟨by rfl, by repeat (exact Drawn0.refl _)⟩
/-! ### slices_BinarySearch_string_string: function 38 -/
def slices_BinarySearch_string_string.l0 : Nat → List ByteArray → ByteArray → Int → Int → Int → Option (Int × Bool)
 | 0, _, _, _, _, _ => none
 | k + 1, x0, x1, x6, x7, x8 => if x7 < x8 then (if 0 ≤ (wrap64 ((IntKind.u64.wrap (wrap64 (x7 + x8))) / 2)) then (if (wrap64 ((IntKind.u64.wrap (wrap64 (x7 + x8))) / 2)) < (x0.length : Int) then ((cmp_Less_string.f (rdOf ByteArray.empty x0 (wrap64 ((IntKind.u64.wrap (wrap64 (x7 + x8))) / 2))) x1).bind fun t104 => (if t104 = true then (slices_BinarySearch_string_string.l0 k x0 x1 x6 (wrap64 ((wrap64 ((IntKind.u64.wrap (wrap64 (x7 + x8))) / 2)) + 1)) x8) else (slices_BinarySearch_string_string.l0 k x0 x1 x6 x7 (wrap64 ((IntKind.u64.wrap (wrap64 (x7 + x8))) / 2))))) else (none)) else (none)) else (if x7 < x6 then (if 0 ≤ x7 then (if x7 < (x0.length : Int) then (if (rdOf ByteArray.empty x0 x7).toList = x1.toList then (some (x7, true)) else ((slices_isNaN_string.f (rdOf ByteArray.empty x0 x7)).bind fun t107 => (if t107 = true then ((slices_isNaN_string.f x1).bind fun t108 => (some (x7, t108))) else (some (x7, false))))) else (none)) else (none)) else (some (x7, false)))
def slices_BinarySearch_string_string.f (k : Nat) (l0 : List ByteArray) (a1 : ByteArray) : Option (Int × Bool) := slices_BinarySearch_string_string.l0 k l0 a1 (l0.length : Int) 0 (l0.length : Int)
theorem slices_BinarySearch_string_string.l0_succ (k) (a0) (a1) (a2) (a3) (a4) : type_of% (@slices_BinarySearch_string_string.l0.eq_2 a0 a1 a2 a3 a4 k) := slices_BinarySearch_string_string.l0.eq_2 a0 a1 a2 a3 a4 k
set_option maxHeartbeats 8000000 in
set_option maxRecDepth 100000 in
theorem slices_BinarySearch_string_string.calls (k : Nat) (A0 : Option Addr) (c0 : Nat) (l0 : List ByteArray) (a1 : ByteArray) (r1 : Int) (r2 : Bool) (w : World) (hr0 : Kd.C Kd.string w A0 l0.length l0) (hc0 : l0.length ≤ c0) (h : slices_BinarySearch_string_string.f k l0 a1 = some (r1, r2)) :
  Calls Tryz.prog 38 #[.slice A0 l0.length c0, .string a1] w fun e w' => e = .returned (.tuple #[.int .i64 r1, .bool r2]) ∧ Drawn0 w w' := by
 have HR0 := Aside0.mk hr0
 have HC0 := Aside0.mk hc0
 clear hr0 hc0
 have H := h
 clear h
 unfold slices_BinarySearch_string_string.f at H
 have H' := Aside0.mk H
 clear H
 go_enter Tryz.func38, Tryz.ntmps38
 go_wp2
 go_loopg [7, 8] k (fun kq v7 v8 w' => ∃ (x7_1 : Int) (x8_1 : Int), v7 = .int .i64 x7_1 ∧ v8 = .int .i64 x8_1 ∧ Aside0 (slices_BinarySearch_string_string.l0 kq l0 a1 (l0.length : Int) x7_1 x8_1 = some (r1, r2)) ∧ Aside0 (kq ≤ k) ∧ Drawn0 w w')
 case atStart => exact ⟨(0), ((l0.length : Int)), (by rfl), (by rfl), H', ⟨Nat.le_refl _⟩, by repeat (exact Drawn0.refl _)⟩
 case round =>
  clear H'
  obtain ⟨x7_1, x8_1, rfl, rfl, HA, HK1, ⟨m1, rfl⟩⟩ := hrel
  cases gk with
  | zero => exact absurd HA.out (by simp [slices_BinarySearch_string_string.l0])
  | succ k1 =>
   have H := HA.out
   clear HA
   simp only [slices_BinarySearch_string_string.l0] at H
   replace H := ifd H
   rcases H with ⟨-, c3b0, H⟩ | ⟨-, c3b0, H⟩
   ·obtain ⟨ji4, hji4⟩ : ∃ j_ : Int, (wrap64 ((IntKind.u64.wrap (wrap64 (x7_1 + x8_1))) / 2)) = j_ := ⟨_, rfl⟩
    replace H : (if 0 ≤ (ji4) then (if (ji4) < (l0.length : Int) then ((cmp_Less_string.f (rdOf ByteArray.empty l0 (ji4)) a1).bind fun t104 => (if t104 = true then (slices_BinarySearch_string_string.l0 k1 l0 a1 (l0.length : Int) (wrap64 ((ji4) + 1)) x8_1) else (slices_BinarySearch_string_string.l0 k1 l0 a1 (l0.length : Int) x7_1 ji4))) else (none)) else (none)) = some (r1, r2) := by (rw [hji4] at H; exact H)
    have hji4w : (IntKind.i64.wrap ((IntKind.u64.wrap (wrap64 (x7_1 + x8_1))) / 2)) = ji4 := (i64_w _).trans hji4
    replace H := ifn H
    obtain ⟨-, c5b0, H⟩ := H
    replace H := ifn H
    obtain ⟨-, c6b0, H⟩ := H
    replace H := bd H
    obtain ⟨t104, A7, H⟩ := H
    replace H := ifb H
    rcases H with ⟨rfl, H⟩ | ⟨rfl, H⟩
    ·have H' := Aside0.mk H
     clear H
     have p103 : 0 ≤ ((ji4) : Int) := ad
     have q103 : (ji4) < (l0.length : Int) := ad
     obtain ⟨ad103, e103, hx103_0⟩ := Kd.at_string HR0.out (ji4) p103 q103
     cases e103
     replace p103 := eq_true p103
     replace q103 := eq_true q103
     go_wp2_with (((with_reducible refine gate_callee (f := 62) rfl ?_); refine gL 27 Tryz.func62 #[.string (rdOf ByteArray.empty l0 (ji4)), .string a1] ?_; (with_reducible refine (cmp_Less_string.calls (rdOf ByteArray.empty l0 (ji4)) a1 true _ A7.out).mono ?_); rintro e w' ⟨rfl, ⟨nd, rfl⟩⟩; refine ⟨_, rfl, ?_⟩))
     go_roundg k1
     case measure => have := HK1.out; omega
     case rel => exact ⟨(wrap64 ((ji4) + 1)), (x8_1), (by rfl), (by rfl), (by exact H'), ⟨by have := HK1.out; omega⟩, by repeat (first | exact Drawn0.refl _ | apply Drawn0.step)⟩
    ·have H' := Aside0.mk H
     clear H
     have p103 : 0 ≤ ((ji4) : Int) := ad
     have q103 : (ji4) < (l0.length : Int) := ad
     obtain ⟨ad103, e103, hx103_0⟩ := Kd.at_string HR0.out (ji4) p103 q103
     cases e103
     replace p103 := eq_true p103
     replace q103 := eq_true q103
     go_wp2_with (((with_reducible refine gate_callee (f := 62) rfl ?_); refine gL 27 Tryz.func62 #[.string (rdOf ByteArray.empty l0 (ji4)), .string a1] ?_; (with_reducible refine (cmp_Less_string.calls (rdOf ByteArray.empty l0 (ji4)) a1 false _ A7.out).mono ?_); rintro e w' ⟨rfl, ⟨nd, rfl⟩⟩; refine ⟨_, rfl, ?_⟩))
     go_roundg k1
     case measure => have := HK1.out; omega
     case rel => exact ⟨(x7_1), (ji4), (by rfl), (by rfl), (by exact H'), ⟨by have := HK1.out; omega⟩, by repeat (first | exact Drawn0.refl _ | apply Drawn0.step)⟩
   ·replace H := ifd H
    rcases H with ⟨-, c9b0, H⟩ | ⟨-, c9b0, H⟩
    ·replace H := ifn H
     obtain ⟨-, c10b0, H⟩ := H
     replace H := ifn H
     obtain ⟨-, c11b0, H⟩ := H
     replace H := ife H
     rcases H with ⟨-, c12b0, c12b1, H⟩ | ⟨c12, c12b0, c12b1, H⟩
     ·simp only [Option.some.injEq, Prod.mk.injEq] at H
      obtain ⟨rfl, rfl⟩ := H
      have p105 : 0 ≤ (x7_1 : Int) := ad
      have q105 : x7_1 < (l0.length : Int) := ad
      obtain ⟨ad105, e105, hx105_0⟩ := Kd.at_string HR0.out x7_1 p105 q105
      cases e105
      replace p105 := eq_true p105
      replace q105 := eq_true q105
      go_wp2
      go_ret2
      exact ⟨by rfl, by repeat (first | exact Drawn0.refl _ | apply Drawn0.step)⟩
     ·replace H := bd H
      obtain ⟨t107, A13, H⟩ := H
      replace H := ifb H
      rcases H with ⟨rfl, H⟩ | ⟨rfl, H⟩
      ·replace H := bd H
       obtain ⟨t108, A15, H⟩ := H
       simp only [Option.some.injEq, Prod.mk.injEq] at H
       obtain ⟨rfl, rfl⟩ := H
       have p105 : 0 ≤ (x7_1 : Int) := ad
       have q105 : x7_1 < (l0.length : Int) := ad
       obtain ⟨ad105, e105, hx105_0⟩ := Kd.at_string HR0.out x7_1 p105 q105
       cases e105
       replace p105 := eq_true p105
       replace q105 := eq_true q105
       have p106 : 0 ≤ (x7_1 : Int) := ad
       have q106 : x7_1 < (l0.length : Int) := ad
       obtain ⟨ad106, e106, hx106_0⟩ := Kd.at_string HR0.out x7_1 p106 q106
       obtain rfl : ad105 = ad106 := (by injection e106)
       replace p106 := eq_true p106
       replace q106 := eq_true q106
       go_wp2_with (first | (go_at_call 63; (with_reducible refine (slices_isNaN_string.calls (rdOf ByteArray.empty l0 x7_1) true _ A13.out).mono ?_); rintro e w' ⟨rfl, ⟨nd, rfl⟩⟩; clear A13) | (go_at_call 63; (with_reducible refine (slices_isNaN_string.calls a1 t108 _ A15.out).mono ?_); rintro e w' ⟨rfl, ⟨nd, rfl⟩⟩; clear A15))
       go_ret2
       exact ⟨by rfl, by repeat (first | exact Drawn0.refl _ | apply Drawn0.step)⟩
      ·simp only [Option.some.injEq, Prod.mk.injEq] at H
       obtain ⟨rfl, rfl⟩ := H
       have p105 : 0 ≤ (x7_1 : Int) := ad
       have q105 : x7_1 < (l0.length : Int) := ad
       obtain ⟨ad105, e105, hx105_0⟩ := Kd.at_string HR0.out x7_1 p105 q105
       cases e105
       replace p105 := eq_true p105
       replace q105 := eq_true q105
       have p106 : 0 ≤ (x7_1 : Int) := ad
       have q106 : x7_1 < (l0.length : Int) := ad
       obtain ⟨ad106, e106, hx106_0⟩ := Kd.at_string HR0.out x7_1 p106 q106
       obtain rfl : ad105 = ad106 := (by injection e106)
       replace p106 := eq_true p106
       replace q106 := eq_true q106
       go_wp2_with ((go_at_call 63; (with_reducible refine (slices_isNaN_string.calls (rdOf ByteArray.empty l0 x7_1) false _ A13.out).mono ?_); rintro e w' ⟨rfl, ⟨nd, rfl⟩⟩; clear A13))
       go_ret2
       exact ⟨by rfl, by repeat (first | exact Drawn0.refl _ | apply Drawn0.step)⟩
    ·simp only [Option.some.injEq, Prod.mk.injEq] at H
     obtain ⟨rfl, rfl⟩ := H
     go_wp2
     go_ret2
     exact ⟨by rfl, by repeat (first | exact Drawn0.refl _ | apply Drawn0.step)⟩
/-! ### dict_Of_string: function 15 -/
def dict_Of_string.l0 : Nat → List ByteArray → List Int → List ByteArray → Int → Int → Option (List ByteArray × List Int)
 | 0, _, _, _, _, _ => none
 | k + 1, x4, x5, x16, x17, x18 => if x18 < x17 then (if 0 ≤ x18 then (if x18 < (x16.length : Int) then ((slices_BinarySearch_string_string.f k x4 (rdOf ByteArray.empty x16 x18)).bind fun bt117 => (if x5.length < 17592186044416 then (dict_Of_string.l0 k x4 (x5 ++ [bt117.1]) x16 x17 (wrap64 (x18 + 1))) else (none))) else (none)) else (none)) else (some (x4, x5))
def dict_Of_string.f (k : Nat) (l0 : List ByteArray) : Option (List ByteArray × List Int) := (slices_Clone_string_string.f l0).bind fun t109 => ((slices_Sort_string_string.f t109).bind fun t112 => ((slices_Compact_string_string.f t112).bind fun t113 => (dict_Of_string.l0 k t113 ([] : List Int) l0 (l0.length : Int) 0)))
theorem dict_Of_string.l0_succ (k) (a0) (a1) (a2) (a3) (a4) : type_of% (@dict_Of_string.l0.eq_2 a0 a1 a2 a3 a4 k) := dict_Of_string.l0.eq_2 a0 a1 a2 a3 a4 k
set_option maxHeartbeats 8000000 in
set_option maxRecDepth 100000 in
theorem dict_Of_string.calls (k : Nat) (A0 : Option Addr) (c0 : Nat) (l0 : List ByteArray) (r1 : List ByteArray) (r2 : List Int) (w : World) (hr0 : Kd.C Kd.string w A0 l0.length l0) (hc0 : l0.length ≤ c0) (h : dict_Of_string.f k l0 = some (r1, r2)) :
  Calls Tryz.prog 15 #[.slice A0 l0.length c0] w fun e w' => ∃ v0_ v1_ : Value, e = .returned (.tuple #[v0_, v1_]) ∧ Kd.R Kd.string 9 w' w.heap.size (fun _ => True) v0_ r1 ∧ Kd.R (Kd.int .i64) 3 w' w.heap.size (fun _ => True) v1_ r2 ∧ Below w.heap.size w w' := by
 have HR0 := Aside0.mk hr0
 have HC0 := Aside0.mk hc0
 clear hr0 hc0
 have HB := Aside0.mk (Below.refl w.heap.size w)
 have H := h
 clear h
 unfold dict_Of_string.f at H
 replace H := bd H
 obtain ⟨t109, A2, H⟩ := H
 replace H := bd H
 obtain ⟨t112, A3, H⟩ := H
 replace H := bd H
 obtain ⟨t113, A4, H⟩ := H
 have H' := Aside0.mk H
 clear H
 go_enter Tryz.func15, Tryz.ntmps15
 go_wp2_with (first | ((with_reducible refine gate_callee (f := 35) rfl ?_); refine gL 11 Tryz.func35 #[.slice A0 l0.length c0] ?_; (with_reducible refine (slices_Clone_string_string.calls _ _ l0 t109 _ ?side1 ?side2 A2.out).mono ?_); (case side1 => exact cx HR0.out); (case side2 => exact HC0.out); rintro e w5 ⟨v110, rfl, ho0, hb⟩; refine ⟨_, rfl, ?_⟩; have HO111 := Aside0.mk (Kd.R_lower ho0 (below_size (bh HB.out))); replace HB := bsa HB hb; clear hb ho0; obtain ⟨Ao6, co6, eo6⟩ := Kd.R_slice HO111.out; subst eo6) | ((with_reducible refine gate_callee (f := 36) rfl ?_); refine gL 13 Tryz.func36 #[.slice Ao6 t109.length co6] ?_; (with_reducible refine (slices_Sort_string_string.calls (fun k_ => some k_ = (.slice Ao6 t109.length co6 : Value).ownBlock) (.slice Ao6 t109.length co6) t109 t112 w _ ?side1 ?side2 A3.out).mono ?_); (case side1 => repeat ((with_reducible exact HB.out))); (case side2 => exact Kd.R_tight rfl HO111.out); rintro e w7 ⟨rfl, hy0, hb, hkp⟩; refine ⟨_, rfl, ?_⟩; replace HO111 := Aside0.mk (Kd.R_reok rfl hy0 (fun k_ e_ => HO111.out.1 k_ e_)); replace HB := Aside0.mk (hb); clear hb hkp hy0) | ((with_reducible refine gate_callee (f := 37) rfl ?_); refine gL 15 Tryz.func37 #[.slice Ao6 t109.length co6] ?_; (with_reducible refine (slices_Compact_string_string.calls (fun k_ => some k_ = (.slice Ao6 t109.length co6 : Value).ownBlock) (.slice Ao6 t109.length co6) t112 t113 w _ ?side1 ?side2 A4.out).mono ?_); (case side1 => repeat ((with_reducible exact HB.out))); (case side2 => exact Kd.R_tight rfl HO111.out); rintro e w8 ⟨v114, rfl, ho0, hb, hkp⟩; refine ⟨_, rfl, ?_⟩; have n0_ := Aside0.mk (Kd.R_mono (ok' := fun k_ => True) ho0 (fun k_ hk_ => trivial)); have n1_ := Aside0.mk (hb); clear HB HO111; have HO115 := n0_; have HB := n1_; clear n0_ n1_ hb hkp ho0))
 go_loopg [5, 18] k (fun kq v5 v18 w' => ∃ (x5_1 : List Int) (x18_1 : Int), v18 = .int .i64 x18_1 ∧ Aside0 (dict_Of_string.l0 kq t113 x5_1 l0 (l0.length : Int) x18_1 = some (r1, r2)) ∧ Aside0 (kq ≤ k) ∧ Aside0 (Kd.R Kd.string 9 w' w.heap.size (fun _ => True) v114 t113) ∧ Aside0 (Kd.R (Kd.int .i64) 3 w' w.heap.size (fun _ => True) v5 x5_1) ∧ Aside0 (Below w.heap.size w w'))
 case atStart => exact ⟨(([] : List Int)), (0), (by rfl), H', ⟨Nat.le_refl _⟩, ⟨by exact HO115.out⟩, ⟨nl⟩, ⟨bh HB.out⟩⟩
 case round =>
  clear H'
  obtain ⟨x5_1, x18_1, rfl, HA, HK1, HO_4, HO_5, HB⟩ := hrel
  cases gk with
  | zero => exact absurd HA.out (by simp [dict_Of_string.l0])
  | succ k1 =>
   have H := HA.out
   clear HA
   simp only [dict_Of_string.l0] at H
   replace H := ifd H
   rcases H with ⟨-, c9b0, H⟩ | ⟨-, c9b0, H⟩
   ·replace H := ifn H
    obtain ⟨-, c10b0, H⟩ := H
    replace H := ifn H
    obtain ⟨-, c11b0, H⟩ := H
    replace H := bd H
    obtain ⟨⟨t117, t118⟩, A12, H⟩ := H
    dsimp only at H
    replace H := ifn H
    obtain ⟨c13, -, H⟩ := H
    have LMc13 := Aside0.mk c13
    clear c13
    obtain ⟨y119, hy119⟩ : ∃ y_ : List Int, y_ = (x5_1 ++ [t117]) := ⟨_, rfl⟩
    replace H : (dict_Of_string.l0 k1 t113 y119 l0 (l0.length : Int) (wrap64 (x18_1 + 1))) = some (r1, r2) := by (rw [hy119]; with_reducible exact H)
    have Ny119 := Aside0.mk hy119
    clear hy119
    have H' := Aside0.mk H
    clear H
    have p116 : 0 ≤ (x18_1 : Int) := ad
    have q116 : x18_1 < (l0.length : Int) := ad
    obtain ⟨ad116, e116, hx116_0⟩ := Kd.at_string HR0.out x18_1 p116 q116
    cases e116
    replace hx116_0 := cb HB.out.cell hx116_0
    replace p116 := eq_true p116
    replace q116 := eq_true q116
    obtain ⟨Ao14, co14, eo14⟩ := Kd.R_slice HO_4.out
    subst eo14
    go_wp2_with (first | ((with_reducible refine gate_callee (f := 38) rfl ?_); refine gL 25 Tryz.func38 #[.slice Ao14 t113.length co14, .string (rdOf ByteArray.empty l0 x18_1)] ?_; (with_reducible refine (slices_BinarySearch_string_string.calls k1 _ _ t113 (rdOf ByteArray.empty l0 x18_1) t117 t118 _ ?side1 ?side2 A12.out).mono ?_); (case side1 => exact cx (Kd.R_reads' HO_4.out).2.2); (case side2 => exact (Kd.R_reads' HO_4.out).2.1); rintro e w' ⟨rfl, ⟨nd, rfl⟩⟩; refine ⟨_, rfl, ?_⟩) | ((with_reducible refine gate_builtin (b := .append) (xs := #[.tmp 28, .tmp 30]) rfl ?_); at_builtin; refine Kd.R_append (Kd.int .i64) (w0 := w) w.heap.size rfl (.tmp 28) (.tmp 30) 23 3 (.int .i64 0) 8 rfl Tryz.underlying23 info3 rfl (by decide) (by omega) u5 x5_1 t117 [.int .i64 t117] (fun _ => True) (fun _ => False) rfl rfl ?aP (fun _ hk => hk.elim) ?aF ?aO ?aB ?aS ?aL ?_; (case aP => exact rfl); (case aB => exact (bh HB.out)); (case aF => exact (fun _ _ => trivial)); (case aO => exact (rx HO_5.out)); (case aS => exact (below_size (bh HB.out))); (case aL => have := LMc13.out; omega); intro v120 w15 ho hb hg hat; rw [← Ny119.out] at ho; have n0_ := Aside0.mk (Kd.R_over' (rx HO_4.out) (Kd.R_typed (rx HO_5.out)) (by decide) hg); have n1_ := Aside0.mk (hb); have n2_ := Aside0.mk (ho); clear HO_4 HB HO_5; have HO_4 := n0_; have HB := n1_; have HO121 := n2_; clear n0_ n1_ n2_ ho hb hg hat))
    go_roundg k1
    case measure => have := HK1.out; omega
    case rel => exact ⟨(y119), (wrap64 (x18_1 + 1)), (by rfl), H', ⟨by have := HK1.out; omega⟩, ⟨by exact HO_4.out⟩, ⟨by exact HO121.out⟩, ⟨bh HB.out⟩⟩
   ·simp only [Option.some.injEq, Prod.mk.injEq] at H
    obtain ⟨rfl, rfl⟩ := H
    go_wp2
    go_ret2
    exact ⟨_, _, er, by exact HO_4.out, by exact HO_5.out, bh HB.out⟩
end Go.Proofs.YtfohecpfenegkaaGreat.Print
end
section
namespace Go.Proofs.YtfohecpfenegkaaGreat.Print
open Go.RowKit Go.Proofs.YtfohecpfenegkaaGreatW.PrintWords Go.Proofs.YtfohecpfenegkaaGreatW.PrintLast Go.Proofs.YtfohecpfenegkaaGreatW.PrintMore
attribute [local go_sem] max2_int min2_int max_two min_two max_three min_three max_four min_four   -- for this text's walks alone
set_option linter.unusedVariables false
set_option linter.unusedSimpArgs false
/-! ### pack_Put: function 55 -/
mutual
def pack_Put.j0 : Nat → List Int → Int → Bool → Option (ByteArray × Int)
 | 0, _, _, _ => none
 | k + 1, x0, x1, x30 => if x30 = true then (some ((⟨#[]⟩ : ByteArray), 1)) else ((pack_Bytes.f (x0.length : Int) x1).bind fun t125 => (if 0 ≤ (wrap64 (t125 + 1)) then (if (wrap64 (t125 + 1) : Int).toNat ≤ 281474976710656 then (pack_Put.l0 k x1 (([] : List Int)) 0 0 x0 (x0.length : Int) 0) else (none)) else (none)))
def pack_Put.l0 : Nat → Int → List Int → Int → Int → List Int → Int → Int → Option (ByteArray × Int)
 | 0, _, _, _, _, _, _, _ => none
 | k + 1, x1, x6, x7, x8, x37, x38, x39 => if x39 < x38 then (if 0 ≤ x39 then (if x39 < (x37.length : Int) then (pack_Put.l1 k x1 x6 x7 x8 (IntKind.u64.wrap (rd x37 x39)) x1 x37 x38 x39) else (none)) else (none)) else (if x8 > 0 then (if x6.length < 140737488355328 then (some (strOfNums (x6 ++ [(x7) % 256]), 0)) else (none)) else (some (strOfNums x6, 0)))
def pack_Put.l1 : Nat → Int → List Int → Int → Int → Int → Int → List Int → Int → Int → Option (ByteArray × Int)
 | 0, _, _, _, _, _, _, _, _, _ => none
 | k + 1, x1, x6, x7, x8, x11, x12, x37, x38, x39 => if x12 > 0 then ((bits_Mask.f (mn (wrap64 (8 - x8)) x12)).bind fun t133 => (if 0 ≤ x8 then (if 0 ≤ (mn (wrap64 (8 - x8)) x12) then (if (wrap64 (x8 + (mn (wrap64 (8 - x8)) x12))) = 8 then (if x6.length < 140737488355328 then (pack_Put.l1 k x1 (x6 ++ [(Go.bits .or .u64 x7 (shl .u64 (Go.bits .and .u64 x11 (IntKind.u64.wrap (t133))) x8)) % 256]) 0 0 (shr .u64 x11 (mn (wrap64 (8 - x8)) x12)) (wrap64 (x12 - (mn (wrap64 (8 - x8)) x12))) x37 x38 x39) else (none)) else (pack_Put.l1 k x1 x6 (Go.bits .or .u64 x7 (shl .u64 (Go.bits .and .u64 x11 (IntKind.u64.wrap (t133))) x8)) (wrap64 (x8 + (mn (wrap64 (8 - x8)) x12))) (shr .u64 x11 (mn (wrap64 (8 - x8)) x12)) (wrap64 (x12 - (mn (wrap64 (8 - x8)) x12))) x37 x38 x39)) else (none)) else (none))) else (pack_Put.l0 k x1 x6 x7 x8 x37 x38 (wrap64 (x39 + 1)))
end
def pack_Put.f (k : Nat) (l0 : List Int) (a1 : Int) : Option (ByteArray × Int) := if a1 < 0 then (pack_Put.j0 k l0 a1 true) else (if a1 > 64 then (pack_Put.j0 k l0 a1 true) else (if (l0.length : Int) > 65536 then (pack_Put.j0 k l0 a1 true) else ((pack_Width.f k l0).bind fun t124 => (pack_Put.j0 k l0 a1 (decide (t124 > a1))))))
theorem pack_Put.j0_succ (k) (a0) (a1) (a2) : type_of% (@pack_Put.j0.eq_2 a0 a1 a2 k) := pack_Put.j0.eq_2 a0 a1 a2 k
theorem pack_Put.l0_succ (k) (a0) (a1) (a2) (a3) (a4) (a5) (a6) : type_of% (@pack_Put.l0.eq_2 a0 a1 a2 a3 a4 a5 a6 k) := pack_Put.l0.eq_2 a0 a1 a2 a3 a4 a5 a6 k
theorem pack_Put.l1_succ (k) (a0) (a1) (a2) (a3) (a4) (a5) (a6) (a7) (a8) : type_of% (@pack_Put.l1.eq_2 a0 a1 a2 a3 a4 a5 a6 a7 a8 k) := pack_Put.l1.eq_2 a0 a1 a2 a3 a4 a5 a6 a7 a8 k
theorem pack_Put.mono_l : ∀ k, (∀ y0 y1 y2, LeO (pack_Put.j0 k y0 y1 y2) (pack_Put.j0 (k + 1) y0 y1 y2)) ∧ (∀ y0 y1 y2 y3 y4 y5 y6, LeO (pack_Put.l0 k y0 y1 y2 y3 y4 y5 y6) (pack_Put.l0 (k + 1) y0 y1 y2 y3 y4 y5 y6)) ∧ (∀ y0 y1 y2 y3 y4 y5 y6 y7 y8, LeO (pack_Put.l1 k y0 y1 y2 y3 y4 y5 y6 y7 y8) (pack_Put.l1 (k + 1) y0 y1 y2 y3 y4 y5 y6 y7 y8))
 | 0 => ⟨fun _ _ _ r h => by simp [pack_Put.j0] at h, fun _ _ _ _ _ _ _ r h => by simp [pack_Put.l0] at h, fun _ _ _ _ _ _ _ _ _ r h => by simp [pack_Put.l1] at h⟩
 | k + 1 => by
  obtain ⟨ih0, ih1, ih2⟩ := pack_Put.mono_l k
  refine ⟨?_, ?_, ?_⟩
  ·intro y0 y1 y2
   unfold pack_Put.j0
   repeat' first | (with_reducible exact ih1 _ _ _ _ _ _ _) | (with_reducible exact LeO.refl _) | (with_reducible refine LeO.ite ?_ ?_) | (with_reducible refine LeO.bind ?_ (fun _ => ?_))
  ·intro y0 y1 y2 y3 y4 y5 y6
   unfold pack_Put.l0
   repeat' first | (with_reducible exact ih2 _ _ _ _ _ _ _ _ _) | (with_reducible exact LeO.refl _) | (with_reducible refine LeO.ite ?_ ?_)
  ·intro y0 y1 y2 y3 y4 y5 y6 y7 y8
   unfold pack_Put.l1
   repeat' first | (with_reducible exact ih1 _ _ _ _ _ _ _) | (with_reducible exact ih2 _ _ _ _ _ _ _ _ _) | (with_reducible exact LeO.refl _) | (with_reducible refine LeO.ite ?_ ?_) | (with_reducible refine LeO.bind ?_ (fun _ => ?_))
theorem pack_Put.mono : ∀ a0 a1 k, LeO (pack_Put.f k a0 a1) (pack_Put.f (k + 1) a0 a1) := by
 intro a0 a1 k
 obtain ⟨ih0, ih1, ih2⟩ := pack_Put.mono_l k
 unfold pack_Put.f
 repeat' first | (with_reducible exact ih0 _ _ _) | (with_reducible exact pack_Width.mono _ _) | (with_reducible refine LeO.ite ?_ ?_) | (with_reducible refine LeO.bind ?_ (fun _ => ?_))
set_option maxHeartbeats 8000000 in
set_option maxRecDepth 100000 in
theorem pack_Put.calls (k : Nat) (A0 : Option Addr) (c0 : Nat) (l0 : List Int) (a1 : Int) (r1 : ByteArray) (r2 : Int) (w : World) (hr0 : Kd.C (Kd.int .i64) w A0 l0.length l0) (hc0 : l0.length ≤ c0) (h : pack_Put.f k l0 a1 = some (r1, r2)) :
  Calls Tryz.prog 55 #[.slice A0 l0.length c0, .int .i64 a1] w fun e w' => e = .returned (.tuple #[.string r1, .int .i64 r2]) ∧ Below w.heap.size w w' := by
 have HR0 := Aside0.mk hr0
 have HC0 := Aside0.mk hc0
 clear hr0 hc0
 have HB := Aside0.mk (Below.refl w.heap.size w)
 have H := h
 clear h
 unfold pack_Put.f at H
 have HC3 := Aside0.mk H
 clear H
 go_enter Tryz.func55, Tryz.ntmps55
 go_upto_region 1 with (fail)
 go_cut [30] (fun v30 wc => ∃ (kq : Nat) (x30_2 : Bool), v30 = .bool x30_2 ∧ Aside0 (pack_Put.j0 kq l0 a1 x30_2 = some (r1, r2)) ∧ Aside0 (kq ≤ k) ∧ Aside0 (Below w.heap.size w wc))
 case first =>
  have H := HC3.out
  clear HC3
  replace H := ifd H
  rcases H with ⟨-, c4b0, H⟩ | ⟨-, c4b0, H⟩
  ·(skip)
   have H' := Aside0.mk H
   clear H
   go_wp2
   go_meet
   case rel => exact ⟨_, (true), (by rfl), H', ⟨by omega⟩, ⟨bh HB.out⟩⟩
  ·(skip)
   replace H := ifd H
   rcases H with ⟨-, c5b0, H⟩ | ⟨-, c5b0, H⟩
   ·have H' := Aside0.mk H
    clear H
    go_wp2
    go_meet
    case rel => exact ⟨_, (true), (by rfl), H', ⟨by omega⟩, ⟨bh HB.out⟩⟩
   ·replace H := ifd H
    rcases H with ⟨c6, c6b0, H⟩ | ⟨c6, c6b0, H⟩
    ·have c6b1 : decide (65536 < l0.length) = true := decide_eq_true (by omega)
     clear c6
     have H' := Aside0.mk H
     clear H
     go_wp2
     go_meet
     case rel => exact ⟨_, (true), (by rfl), H', ⟨by omega⟩, ⟨bh HB.out⟩⟩
    ·have c6b1 : decide (65536 < l0.length) = false := decide_eq_false (by omega)
     clear c6
     replace H := bd H
     obtain ⟨t124, A7, H⟩ := H
     have H' := Aside0.mk H
     clear H
     go_wp2_with ((go_at_call 40; (with_reducible refine (pack_Width.calls k _ _ l0 t124 _ ?side1 ?side2 A7.out).mono ?_); (case side1 => exact cx (Kd.C_below HR0.out HB.out)); (case side2 => exact HC0.out); rintro e w' ⟨rfl, ⟨nd, rfl⟩⟩; clear A7))
     go_meet
     case rel => exact ⟨_, (decide (t124 > a1)), (by rfl), H', ⟨by omega⟩, ⟨bh HB.out⟩⟩
 case rest =>
  clear HC3
  obtain ⟨kq, x30_2, rfl, HA, HJ2, HB⟩ := hcut
  cases kq with
  | zero => exact absurd HA.out (by simp [pack_Put.j0])
  | succ kj2 =>
   have H := HA.out
   clear HA
   simp only [pack_Put.j0] at H
   replace H := ifb H
   rcases H with ⟨rfl, H⟩ | ⟨rfl, H⟩
   ·simp only [Option.some.injEq, Prod.mk.injEq] at H
    obtain ⟨rfl, rfl⟩ := H
    go_wp2
    go_ret2
    exact ⟨er, bh HB.out⟩
   ·replace H := bd H
    obtain ⟨t125, A9, H⟩ := H
    obtain ⟨ji10, hji10⟩ : ∃ j_ : Int, (wrap64 (t125 + 1)) = j_ := ⟨_, rfl⟩
    replace H : (if 0 ≤ (ji10) then (if (ji10 : Int).toNat ≤ 281474976710656 then (pack_Put.l0 kj2 a1 (([] : List Int)) 0 0 l0 (l0.length : Int) 0) else (none)) else (none)) = some (r1, r2) := by (rw [hji10] at H; exact H)
    have hji10w : (IntKind.i64.wrap (t125 + 1)) = ji10 := (i64_w _).trans hji10
    replace H := ifn H
    obtain ⟨c11, -, H⟩ := H
    have c11b0 := eq_true c11
    have c11b1 : decide (0 ≤ (ji10)) = true := decide_eq_true c11
    clear c11
    replace H := ifn H
    obtain ⟨c12, -, H⟩ := H
    have c12b0 := eq_true c12
    have c12b1 : decide ((ji10 : Int).toNat ≤ 281474976710656) = true := decide_eq_true c12
    clear c12
    obtain ⟨y126, hy126⟩ : ∃ y_ : List Int, y_ = (([] : List Int)) := ⟨_, rfl⟩
    replace H : (pack_Put.l0 kj2 a1 y126 0 0 l0 (l0.length : Int) 0) = some (r1, r2) := by (rw [hy126]; with_reducible exact H)
    have Ny126 := Aside0.mk hy126
    clear hy126
    have H' := Aside0.mk H
    clear H
    go_wp2_with (first | ((with_reducible refine gate_callee (f := 64) rfl ?_); refine gL 34 Tryz.func64 #[.int .i64 (l0.length : Int), .int .i64 a1] ?_; (with_reducible refine (pack_Bytes.calls (l0.length : Int) a1 t125 _ A9.out).mono ?_); rintro e w' ⟨rfl, ⟨nd, rfl⟩⟩; refine ⟨_, rfl, ?_⟩) | ((with_reducible refine gate_dst (N := 36) rfl ?_); ((refine gate_guard (by rfl) ?_; dsimp only)); refine Kd.R_make0 (Kd.int .u8) _ 5 rfl (N := 36) rfl 76 _ _ rfl ji10 (by rfl) (by rfl) Tryz.underlying76 (.int .u8 0) 1 info5 rfl (by decide) (by omega) 0 (ok := fun _ => True) (okp := fun _ => True) rfl (fun _ hk => hk) trivial (of_decide_eq_true (by assumption)) (Nat.le_trans (Nat.mul_le_mul_right _ (of_decide_eq_true (by assumption) : ji10.toNat ≤ 281474976710656)) (by omega)) (Below.refl _ _) (Nat.le_refl _) ?_; intro v127 w13 ho14 hb hg_ hnew_; clear hg_ hnew_; (rw [← Ny126.out] at ho14); have HO128 := Aside0.mk (Kd.R_lower ho14 (below_size (bh HB.out))); replace HB := bsa HB hb; clear hb ho14))
    go_loopg [6, 7, 8, 39] kj2 (fun kq v6 v7 v8 v39 w' => ∃ (x6_2 : List Int) (x7_2 : Int) (x8_2 : Int) (x39_2 : Int), v7 = .int .u64 x7_2 ∧ v8 = .int .i64 x8_2 ∧ v39 = .int .i64 x39_2 ∧ Aside0 (pack_Put.l0 kq a1 x6_2 x7_2 x8_2 l0 (l0.length : Int) x39_2 = some (r1, r2)) ∧ Aside0 (kq ≤ kj2) ∧ Aside0 (Kd.R (Kd.int .u8) 5 w' w.heap.size (fun _ => True) v6 x6_2) ∧ Aside0 (Below w.heap.size w w'))
    case atStart => exact ⟨(y126), (0), (0), (0), (by rfl), (by rfl), (by rfl), H', ⟨Nat.le_refl _⟩, ⟨by exact HO128.out⟩, ⟨bh HB.out⟩⟩
    case round =>
     clear H' c11b0 c11b1 c12b0 c12b1
     obtain ⟨x6_2, x7_2, x8_2, x39_2, rfl, rfl, rfl, HA, HK2, HO_6, HB⟩ := hrel
     cases gk with
     | zero => exact absurd HA.out (by simp [pack_Put.l0])
     | succ k2 =>
      have H := HA.out
      clear HA
      simp only [pack_Put.l0] at H
      replace H := ifd H
      rcases H with ⟨-, c15b0, H⟩ | ⟨-, c15b0, H⟩
      ·replace H := ifn H
       obtain ⟨-, c16b0, H⟩ := H
       replace H := ifn H
       obtain ⟨-, c17b0, H⟩ := H
       have H' := Aside0.mk H
       clear H
       have p132 : 0 ≤ (x39_2 : Int) := ad
       have q132 : x39_2 < (l0.length : Int) := ad
       obtain ⟨ad132, e132, hx132_0⟩ := Kd.at_int HR0.out x39_2 p132 q132
       cases e132
       replace hx132_0 := cb HB.out.cell hx132_0
       replace p132 := eq_true p132
       replace q132 := eq_true q132
       go_wp2
       go_loopg [6, 7, 8, 11, 12] k2 (fun kq v6 v7 v8 v11 v12 w' => ∃ (x6_3 : List Int) (x7_3 : Int) (x8_3 : Int) (x11_3 : Int) (x12_3 : Int), v7 = .int .u64 x7_3 ∧ v8 = .int .i64 x8_3 ∧ v11 = .int .u64 x11_3 ∧ v12 = .int .i64 x12_3 ∧ Aside0 (pack_Put.l1 kq a1 x6_3 x7_3 x8_3 x11_3 x12_3 l0 (l0.length : Int) x39_2 = some (r1, r2)) ∧ Aside0 (kq ≤ k2) ∧ Aside0 (Kd.R (Kd.int .u8) 5 w' w.heap.size (fun _ => True) v6 x6_3) ∧ Aside0 (Below w.heap.size w w'))
       case atStart => exact ⟨(x6_2), (x7_2), (x8_2), (IntKind.u64.wrap (rd l0 x39_2)), (a1), (by rfl), (by rfl), (by rfl), (by rfl), H', ⟨Nat.le_refl _⟩, ⟨by exact HO_6.out⟩, ⟨bh HB.out⟩⟩
       case round =>
        clear H' c15b0 c16b0 c17b0 hx132_0 p132 q132
        obtain ⟨x6_3, x7_3, x8_3, x11_3, x12_3, rfl, rfl, rfl, rfl, HA, HK3, HO_6, HB⟩ := hrel
        cases gk with
        | zero => exact absurd HA.out (by simp [pack_Put.l1])
        | succ k3 =>
         have H := HA.out
         clear HA
         simp only [pack_Put.l1] at H
         replace H := ifd H
         rcases H with ⟨-, c18b0, H⟩ | ⟨-, c18b0, H⟩
         ·obtain ⟨ji19, hji19⟩ : ∃ j_ : Int, (mn (wrap64 (8 - x8_3)) x12_3) = j_ := ⟨_, rfl⟩
          replace H : ((bits_Mask.f (ji19)).bind fun t133 => (if 0 ≤ x8_3 then (if 0 ≤ (ji19) then (if (wrap64 (x8_3 + (ji19))) = 8 then (if x6_3.length < 140737488355328 then (pack_Put.l1 k3 a1 (x6_3 ++ [(Go.bits .or .u64 x7_3 (shl .u64 (Go.bits .and .u64 x11_3 (IntKind.u64.wrap (t133))) x8_3)) % 256]) 0 0 (shr .u64 x11_3 (ji19)) (wrap64 (x12_3 - (ji19))) l0 (l0.length : Int) x39_2) else (none)) else (pack_Put.l1 k3 a1 x6_3 (Go.bits .or .u64 x7_3 (shl .u64 (Go.bits .and .u64 x11_3 (IntKind.u64.wrap (t133))) x8_3)) (wrap64 (x8_3 + (ji19))) (shr .u64 x11_3 (ji19)) (wrap64 (x12_3 - (ji19))) l0 (l0.length : Int) x39_2)) else (none)) else (none))) = some (r1, r2) := by (rw [hji19] at H; exact H)
          have hji19_ : (if x12_3 < (wrap64 (8 - x8_3)) then x12_3 else (wrap64 (8 - x8_3))) = ji19 := hji19
          replace H := bd H
          obtain ⟨t133, A20, H⟩ := H
          replace H := ifn H
          obtain ⟨c21, -, H⟩ := H
          have c21b0 := eq_true c21
          have c21b1 : decide (0 ≤ x8_3) = true := decide_eq_true c21
          clear c21
          obtain ⟨ji22, hji22⟩ : ∃ j_ : Int, (shl .u64 (Go.bits .and .u64 x11_3 (IntKind.u64.wrap (t133))) x8_3) = j_ := ⟨_, rfl⟩
          replace H : (if 0 ≤ (ji19) then (if (wrap64 (x8_3 + (ji19))) = 8 then (if x6_3.length < 140737488355328 then (pack_Put.l1 k3 a1 (x6_3 ++ [(Go.bits .or .u64 x7_3 (ji22)) % 256]) 0 0 (shr .u64 x11_3 (ji19)) (wrap64 (x12_3 - (ji19))) l0 (l0.length : Int) x39_2) else (none)) else (pack_Put.l1 k3 a1 x6_3 (Go.bits .or .u64 x7_3 (ji22)) (wrap64 (x8_3 + (ji19))) (shr .u64 x11_3 (ji19)) (wrap64 (x12_3 - (ji19))) l0 (l0.length : Int) x39_2)) else (none)) = some (r1, r2) := by (rw [hji22] at H; exact H)
          have hji22_ : (IntKind.u64.wrap ((Go.bits .and .u64 x11_3 (IntKind.u64.wrap (t133))) * 2 ^ min x8_3.toNat 64)) = ji22 := hji22
          have hji22z : x8_3 ≤ 64 → (IntKind.u64.wrap ((Go.bits .and .u64 x11_3 (IntKind.u64.wrap (t133))) * 2 ^ x8_3.toNat)) = ji22 := shl_small hji22
          replace H := ifn H
          obtain ⟨c23, -, H⟩ := H
          have c23b0 := eq_true c23
          have c23b1 : decide (0 ≤ (ji19)) = true := decide_eq_true c23
          clear c23
          obtain ⟨ji24, hji24⟩ : ∃ j_ : Int, (shr .u64 x11_3 (ji19)) = j_ := ⟨_, rfl⟩
          replace H : (if (wrap64 (x8_3 + (ji19))) = 8 then (if x6_3.length < 140737488355328 then (pack_Put.l1 k3 a1 (x6_3 ++ [(Go.bits .or .u64 x7_3 (ji22)) % 256]) 0 0 ji24 (wrap64 (x12_3 - (ji19))) l0 (l0.length : Int) x39_2) else (none)) else (pack_Put.l1 k3 a1 x6_3 (Go.bits .or .u64 x7_3 (ji22)) (wrap64 (x8_3 + (ji19))) ji24 (wrap64 (x12_3 - (ji19))) l0 (l0.length : Int) x39_2)) = some (r1, r2) := by (rw [hji24] at H; exact H)
          have hji24_ : (x11_3 / 2 ^ min (ji19).toNat 64) = ji24 := hji24
          have hji24z : (ji19) ≤ 64 → (x11_3 / 2 ^ (ji19).toNat) = ji24 := shr_small hji24
          replace H := ife H
          rcases H with ⟨-, c25b0, c25b1, H⟩ | ⟨c25, c25b0, c25b1, H⟩
          ·replace H := ifn H
           obtain ⟨c26, -, H⟩ := H
           have LMc26 := Aside0.mk c26
           clear c26
           obtain ⟨y134, hy134⟩ : ∃ y_ : List Int, y_ = (x6_3 ++ [(Go.bits .or .u64 x7_3 (ji22)) % 256]) := ⟨_, rfl⟩
           replace H : (pack_Put.l1 k3 a1 y134 0 0 ji24 (wrap64 (x12_3 - (ji19))) l0 (l0.length : Int) x39_2) = some (r1, r2) := by (rw [hy134]; with_reducible exact H)
           have Ny134 := Aside0.mk hy134
           clear hy134
           have H' := Aside0.mk H
           clear H
           go_wp2_with (first | ((with_reducible refine gate_callee (f := 78) rfl ?_); refine gL 55 Tryz.func78 #[.int .i64 ji19] ?_; (with_reducible refine (bits_Mask.calls ji19 t133 _ A20.out).mono ?_); rintro e w' ⟨rfl, ⟨nd, rfl⟩⟩; refine ⟨_, rfl, ?_⟩) | ((with_reducible refine gate_builtin (b := .append) (xs := #[.tmp 72, .tmp 75]) rfl ?_); ((refine gate_guard (by rfl) ?_; dsimp only)); at_builtin; refine Kd.R_append (Kd.int .u8) (w0 := w) w.heap.size rfl (.tmp 72) (.tmp 75) 76 5 (.int .u8 0) 1 rfl Tryz.underlying76 info5 rfl (by decide) (by omega) u6 x6_3 ((Go.bits .or .u64 x7_3 (ji22)) % 256) [.int .u8 ((Go.bits .or .u64 x7_3 (ji22)) % 256)] (fun _ => True) (fun _ => False) rfl rfl ?aP (fun _ hk => hk.elim) ?aF ?aO ?aB ?aS ?aL ?_; (case aP => exact rfl); (case aB => exact (bh HB.out)); (case aF => exact (fun _ _ => trivial)); (case aO => exact (rx HO_6.out)); (case aS => exact (below_size (bh HB.out))); (case aL => have := LMc26.out; omega); intro v135 w27 ho hb hg hat; rw [← Ny134.out] at ho; have n0_ := Aside0.mk (hb); have n1_ := Aside0.mk (ho); clear HB HO_6; have HB := n0_; have HO136 := n1_; clear n0_ n1_ ho hb hg hat))
           go_roundg k3
           case measure => have := HJ2.out; have := HK2.out; have := HK3.out; omega
           case rel => exact ⟨(y134), (0), (0), (ji24), (wrap64 (x12_3 - (ji19))), (by rfl), (by rfl), (by rfl), (by rfl), (by exact H'), ⟨by have := HJ2.out; have := HK2.out; have := HK3.out; omega⟩, ⟨by exact HO136.out⟩, ⟨bh HB.out⟩⟩
          ·have H' := Aside0.mk H
           clear H
           go_wp2_with (((with_reducible refine gate_callee (f := 78) rfl ?_); refine gL 55 Tryz.func78 #[.int .i64 ji19] ?_; (with_reducible refine (bits_Mask.calls ji19 t133 _ A20.out).mono ?_); rintro e w' ⟨rfl, ⟨nd, rfl⟩⟩; refine ⟨_, rfl, ?_⟩))
           go_roundg k3
           case measure => have := HJ2.out; have := HK2.out; have := HK3.out; omega
           case rel => exact ⟨(x6_3), (Go.bits .or .u64 x7_3 (ji22)), (wrap64 (x8_3 + (ji19))), (ji24), (wrap64 (x12_3 - (ji19))), (by rfl), (by rfl), (by rfl), (by rfl), (by exact H'), ⟨by have := HJ2.out; have := HK2.out; have := HK3.out; omega⟩, ⟨by (with_reducible repeat (apply Kd.R_drewN)); exact HO_6.out⟩, ⟨bh HB.out⟩⟩
         ·have H' := Aside0.mk H
          clear H
          go_wp2
          go_roundg k3
          case measure => have := HJ2.out; have := HK2.out; have := HK3.out; omega
          case rel => exact ⟨(x6_3), (x7_3), (x8_3), (wrap64 (x39_2 + 1)), (by rfl), (by rfl), (by rfl), (by exact H'), ⟨by have := HJ2.out; have := HK2.out; have := HK3.out; omega⟩, ⟨by exact HO_6.out⟩, ⟨bh HB.out⟩⟩
      ·replace H := ifd H
       rcases H with ⟨-, c28b0, H⟩ | ⟨-, c28b0, H⟩
       ·replace H := ifn H
        obtain ⟨c29, -, H⟩ := H
        have LMc29 := Aside0.mk c29
        clear c29
        obtain ⟨y129, hy129⟩ : ∃ y_ : List Int, y_ = (x6_2 ++ [(x7_2) % 256]) := ⟨_, rfl⟩
        replace H : (some (strOfNums y129, 0)) = some (r1, r2) := by (rw [hy129]; with_reducible exact H)
        have Ny129 := Aside0.mk hy129
        clear hy129
        simp only [Option.some.injEq, Prod.mk.injEq] at H
        obtain ⟨rfl, rfl⟩ := H
        go_wp2_with (((with_reducible refine gate_builtin (b := .append) (xs := #[.tmp 80, .tmp 83]) rfl ?_); ((refine gate_guard (by rfl) ?_; dsimp only)); at_builtin; refine Kd.R_append (Kd.int .u8) (w0 := w) w.heap.size rfl (.tmp 80) (.tmp 83) 76 5 (.int .u8 0) 1 rfl Tryz.underlying76 info5 rfl (by decide) (by omega) u6 x6_2 ((x7_2) % 256) [.int .u8 ((x7_2) % 256)] (fun _ => True) (fun _ => False) rfl rfl ?aP (fun _ hk => hk.elim) ?aF ?aO ?aB ?aS ?aL ?_; (case aP => exact rfl); (case aB => exact (bh HB.out)); (case aF => exact (fun _ _ => trivial)); (case aO => exact (rx HO_6.out)); (case aS => exact (below_size (bh HB.out))); (case aL => have := LMc29.out; omega); intro v130 w30 ho hb hg hat; rw [← Ny129.out] at ho; have n0_ := Aside0.mk (hb); have n1_ := Aside0.mk (ho); clear HB HO_6; have HB := n0_; have HO131 := n1_; clear n0_ n1_ ho hb hg hat; have hcv31 := own_string (P := Tryz.prog) Tryz.underlying76 Tryz.underlying5 Tryz.underlying9 (Kd.own_of_R HO131.out)))
        go_ret2
        exact ⟨by rfl, bh HB.out⟩
       ·simp only [Option.some.injEq, Prod.mk.injEq] at H
        obtain ⟨rfl, rfl⟩ := H
        have hcv32 := own_string (P := Tryz.prog) Tryz.underlying76 Tryz.underlying5 Tryz.underlying9 (Kd.own_of_R HO_6.out)
        go_wp2
        go_ret2
        exact ⟨by rfl, bh HB.out⟩
/-! ### bits_Zig: function 68 -/
def bits_Zig.f (a0 : Int) : Option (Int) := some (wrap64 (Go.bits .xor .u64 (IntKind.u64.wrap ((IntKind.u64.wrap (a0)) * 2)) (IntKind.u64.wrap (a0 / 9223372036854775808))))
set_option maxHeartbeats 8000000 in
set_option maxRecDepth 100000 in
theorem bits_Zig.calls (a0 : Int) (r : Int) (w : World) (h : bits_Zig.f a0 = some r) :
  Calls Tryz.prog 68 #[.int .i64 a0] w fun e w' => e = .returned (.int .i64 r) ∧ Drawn0 w w' := by
 have H := h
 clear h
 unfold bits_Zig.f at H
 obtain rfl := Option.some.inj H
 go_enter Tryz.func68, Tryz.ntmps68
 go_wp2
 go_ret
 exact ⟨by rfl, by repeat (exact Drawn0.refl _)⟩
/-! ### vint_Put: function 56 (a contract of the session's own) -/
def vint_Put.loop : Nat → Int → List Int
  | 0, x => [x % 256]
  | d + 1, x => if 128 ≤ x then Go.bits .or .u8 (x % 256) 128 :: vint_Put.loop d (x / 128) else [x % 256]
def vint_Put.f (a0 : Int) : Option (ByteArray) := (bits_Zig.f a0).bind fun z => some (strOfNums (vint_Put.loop 9 (IntKind.u64.wrap z)))
theorem vint_Put.zero : (Tryz.prog.info? 99).map (fun i => (i.zero, i.size)) = some (some (.agg (arrI .u8 (List.replicate 10 0))), 10) := by kernel_rfl
set_option maxHeartbeats 1600000 in
theorem vint_Put.calls (a0 : Int) (r : ByteArray) (w : World) (h : vint_Put.f a0 = some r) :
    Calls Tryz.prog 56 #[.int .i64 a0] w fun e w' => e = .returned (.string r) ∧ Below w.heap.size w w' := by
 obtain ⟨z, hz, hr⟩ := Option.bind_eq_some_iff.1 h
 obtain rfl := Option.some.inj hr
 have A1 := Aside0.mk hz
 clear h hz hr
 go_enter Tryz.func56, Tryz.ntmps56
 go_wp2_with (first | ((with_reducible refine gate_dst (N := 3) rfl ?_); refine arr_alloc (w0 := w) w.heap.size rfl 99 rfl _ 10 vint_Put.zero (Below.refl _ _) (Nat.le_refl _) ?_; intro g w1 hg hb hs HB1 hbs1 hgr1) | ((with_reducible refine gate_callee (f := 68) rfl ?_); refine gL 7 Tryz.func68 #[.int .i64 a0] ?_; (with_reducible refine (bits_Zig.calls a0 z _ A1.out).mono ?_); rintro e w2 ⟨rfl, hd⟩; refine ⟨_, rfl, ?_⟩; have HB2 := Aside0.mk (below_then HB1 hbs1 hd.below); have HG2 := Aside0.mk (show w2.heap[g]? = _ from (hd.below.block g (blk_lt hg)).trans hg); clear hd))
 have HX := Aside0.mk hb
 clear hg hb hs HB1 hbs1 hgr1
 go_loopw [4, 5] (fun v4 v5 wr => ∃ (k d : Nat) (x kk : Int) (l : List Int), Aside0 (k + d = 9) ∧ Aside0 (l.length = 10) ∧ Aside0 (0 ≤ x ∧ x < 2 * 128 ^ d) ∧ Aside0 (kk = (k : Int)) ∧ Aside0 (l.take k ++ vint_Put.loop d x = vint_Put.loop 9 (IntKind.u64.wrap z)) ∧ v4 = .int .u64 x ∧ v5 = .int .i64 kk ∧ Aside0 (wr.heap[g]? = some (.cells (arrI .u8 l) 99 (0, 0))) ∧ Aside0 (Below w.heap.size w wr)) (fun _ v5 _ => 10 - (intOf v5).toNat)
 case atStart => exact ⟨0, 9, IntKind.u64.wrap z, 0, List.replicate 10 0, ⟨rfl⟩, ⟨rfl⟩, ⟨by have e : (2 : Int) * 128 ^ 9 = 18446744073709551616 := by decide
                                                                                            rw [e]; simp [IntKind.wrap, IntKind.bits, IntKind.signed]; omega⟩, ⟨rfl⟩, ⟨rfl⟩, by rfl, rfl, HG2, HB2⟩
 case round =>
   obtain ⟨k, d, x, kk, l, HKD, HLN, HXB, HKK, HT, rfl, rfl, HG, HB⟩ := hrel
   have hk0 : (0 : Int) ≤ kk := by have := HKK.out; omega
   have hk1 : kk < 10 := by have := HKK.out; have := HKD.out; omega
   have hc := arrI_cell HG.out kk.toNat (by rw [HLN.out]; omega)
   have hf : wr.frozen? ⟨g, kk.toNat, none⟩ = false := blk_frozen HG.out kk.toNat
   generalize l.getD kk.toNat 0 = old at hc
   by_cases hge : x ≥ 128
   ·go_wp2
    go_roundw
    case rel =>
      have hkk := HKK.out
      have hkd := HKD.out
      have hxb := HXB.out
      have hln := HLN.out
      obtain ⟨d', rfl⟩ : ∃ d', d = d' + 1 := by
        rcases d with _ | d'
        ·simp only [Int.pow_zero] at hxb; omega
        ·exact ⟨d', rfl⟩
      have hput := arrI_put HG.out kk.toNat (Go.bits .or .u8 (x % 256) 128)
      refine ⟨k + 1, d', x / 128, wrap64 (kk + 1), l.set kk.toNat (Go.bits .or .u8 (x % 256) 128), ⟨by omega⟩, ⟨by rw [List.length_set]; exact hln⟩, ⟨by omega, ?_⟩, ⟨by unfold wrap64; omega⟩, ⟨?_⟩, by rfl, by (unfold wrap64; go_num), ⟨by exact hput⟩, ⟨HB.out.setCell HX.out _⟩⟩
      ·rw [Int.pow_succ] at hxb
       have := hxb.2
       omega
      ·rw [← HT.out]
       have e : kk.toNat = k := by omega
       have h1 : k < (l.set k (Go.bits .or .u8 (x % 256) 128)).length := by rw [List.length_set]; omega
       rw [e, List.take_succ_eq_append_getElem h1, List.getElem_set_self, List.take_set_of_le (Nat.le_refl _)]
       simp only [vint_Put.loop, if_pos (show (128 : Int) ≤ x from hge), List.append_assoc, List.cons_append, List.nil_append]
    case measure => have := HKK.out; (simp [intOf]; omega)
   ·have hput := arrI_put HG.out kk.toNat (x % 256)
    have hll : (l.set kk.toNat (x % 256)).length = 10 := by rw [List.length_set]; exact HLN.out
    have hrd := arrI_reads hput (kk + 1).toNat (by rw [hll]; omega) (by omega)
    have hstr := Kd.C_string (P := Tryz.prog) (src := 76) (dst := 9) (e := 5) (c := 10) Tryz.underlying76 Tryz.underlying5 Tryz.underlying9 hrd
    have hsl := run_slice_arr (P := Tryz.prog) (W := wr.setCell ⟨g, kk.toNat, none⟩ (.int .u8 (x % 256))) Tryz.underlying99 (e := 5) (by kernel_rfl) g .i64 (kk + 1) (by omega) (by omega) (by omega)
    have HE : Aside0 ((l.set kk.toNat (x % 256)).take (kk + 1).toNat = vint_Put.loop 9 (IntKind.u64.wrap z)) := ⟨by
      have hkk := HKK.out
      have e : kk.toNat = k := by omega
      have e1 : (kk + 1).toNat = k + 1 := by omega
      have h1 : k < (l.set k (x % 256)).length := by rw [List.length_set, HLN.out]; have := HKD.out; omega
      have hlast : vint_Put.loop d x = [x % 256] := by
        cases d with
        | zero => rfl
        | succ d => simp only [vint_Put.loop, if_neg (show ¬ (128 : Int) ≤ x from hge)]
      rw [← HT.out, e, e1, List.take_succ_eq_append_getElem h1, List.getElem_set_self, List.take_set_of_le (Nat.le_refl _), hlast]⟩
    have HLL := Aside0.mk hput
    clear hput hll hrd
    go_wp2
    go_ret
    exact ⟨by rw [HE.out]; rfl, HB.out.setCell HX.out _⟩
/-! ### dict_put_string_fn34: function 33 -/
def dict_put_string_fn34.f (k : Nat) (l0 : List ByteArray)  : Option (ByteArray × Int) := if (l0.length : Int) > 65536 then (some ((⟨#[]⟩ : ByteArray), 1)) else (if (l0.length : Int) = 0 then (some ((⟨#[]⟩ : ByteArray), 0)) else ((dict_Of_string.f k l0).bind fun bt137 => ((plain_PutTexts.f k bt137.1).bind fun bt143 => (if bt143.2 = 0 then ((pack_Width.f k bt137.2).bind fun t145 => ((pack_Put.f k bt137.2 t145).bind fun bt146 => ((vint_Put.f (bt137.1.length : Int)).bind fun t148 => (if t148.size + bt143.1.size ≤ 9223372036854775807 then (if (t148 ++ bt143.1).size + bt146.1.size ≤ 9223372036854775807 then (some ((t148 ++ bt143.1) ++ bt146.1, bt146.2)) else (none)) else (none))))) else (some ((⟨#[]⟩ : ByteArray), bt143.2))))))
set_option maxHeartbeats 8000000 in
set_option maxRecDepth 100000 in
theorem dict_put_string_fn34.calls (k : Nat) (A0 : Option Addr) (c0 : Nat) (l0 : List ByteArray)  (r1 : ByteArray) (r2 : Int) (w : World) (hr0 : Kd.C Kd.string w A0 l0.length l0) (hc0 : l0.length ≤ c0) (h : dict_put_string_fn34.f k l0 = some (r1, r2)) :
  Calls Tryz.prog 33 #[.slice A0 l0.length c0, .func (.func 34) #[] #[]] w fun e w' => e = .returned (.tuple #[.string r1, .int .i64 r2]) ∧ Below w.heap.size w w' := by
 have HR0 := Aside0.mk hr0
 have HC0 := Aside0.mk hc0
 clear hr0 hc0
 have HB := Aside0.mk (Below.refl w.heap.size w)
 have H := h
 clear h
 unfold dict_put_string_fn34.f at H
 replace H := ifd H
 rcases H with ⟨c3, c3b0, H⟩ | ⟨c3, c3b0, H⟩
 ·have c3b1 : decide (65536 < l0.length) = true := decide_eq_true (by omega)
  clear c3
  simp only [Option.some.injEq, Prod.mk.injEq] at H
  obtain ⟨rfl, rfl⟩ := H
  go_enter Tryz.func33, Tryz.ntmps33
  go_wp2
  go_ret2
  exact ⟨er, bh HB.out⟩
 ·have c3b1 : decide (65536 < l0.length) = false := decide_eq_false (by omega)
  clear c3
  replace H := ife H
  rcases H with ⟨-, c4b0, c4b1, H⟩ | ⟨c4, c4b0, c4b1, H⟩
  ·simp only [Option.some.injEq, Prod.mk.injEq] at H
   obtain ⟨rfl, rfl⟩ := H
   go_enter Tryz.func33, Tryz.ntmps33
   go_wp2
   go_ret2
   exact ⟨er, bh HB.out⟩
  ·have c4b2 : ¬ (l0 = []) := fun h_ => c4 (by rw [h_]; rfl)
   replace H := bd H
   obtain ⟨⟨t137, t138⟩, A5, H⟩ := H
   dsimp only at H
   replace H := bd H
   obtain ⟨⟨t143, t144⟩, A6, H⟩ := H
   dsimp only at H
   replace H := ife H
   rcases H with ⟨-, c7b0, c7b1, H⟩ | ⟨c7, c7b0, c7b1, H⟩
   ·replace H := bd H
    obtain ⟨t145, A8, H⟩ := H
    replace H := bd H
    obtain ⟨⟨t146, t147⟩, A9, H⟩ := H
    dsimp only at H
    replace H := bd H
    obtain ⟨t148, A10, H⟩ := H
    replace H := ifn H
    obtain ⟨c11, -, H⟩ := H
    have c11b0 := eq_true c11
    have c11b1 : decide (t148.size + t143.size ≤ 9223372036854775807) = true := decide_eq_true c11
    have c11b2 : (9223372036854775807 < t148.size + t143.size) = False := eq_false (Nat.not_lt.2 c11)
    replace H := ifn H
    obtain ⟨c12, -, H⟩ := H
    have c12b0 := eq_true c12
    have c12b1 : decide ((t148 ++ t143).size + t146.size ≤ 9223372036854775807) = true := decide_eq_true c12
    ((have c12b1s := c12b1; simp only [ByteArray.size_append] at c12b1s))
    have c12b2 : (9223372036854775807 < (t148 ++ t143).size + t146.size) = False := eq_false (Nat.not_lt.2 c12)
    ((have c12b2s := c12b2; simp only [ByteArray.size_append] at c12b2s))
    simp only [Option.some.injEq, Prod.mk.injEq] at H
    obtain ⟨rfl, rfl⟩ := H
    go_enter Tryz.func33, Tryz.ntmps33
    go_wp2_with (first | ((with_reducible refine gate_callee (f := 15) rfl ?_); refine gL 21 Tryz.func15 #[.slice A0 l0.length c0] ?_; (with_reducible refine (dict_Of_string.calls k _ _ l0 t137 t138 _ ?side1 ?side2 A5.out).mono ?_); (case side1 => exact cx HR0.out); (case side2 => exact HC0.out); rintro e w13 ⟨v139, v141, rfl, ho0, ho1, hb⟩; refine ⟨_, rfl, ?_⟩; have HO140 := Aside0.mk (Kd.R_lower ho0 (below_size (bh HB.out))); have HO142 := Aside0.mk (Kd.R_lower ho1 (below_size (bh HB.out))); replace HB := bsa HB hb; clear hb ho0 ho1; obtain ⟨Ao14, co14, eo14⟩ := Kd.R_slice HO140.out; subst eo14) | ((with_reducible refine gate_list ?_); refine gate_value rfl ?_; refine goesV_ (some 27) rfl rfl Tryz.func34 (by kernel_rfl) rfl #[.slice Ao14 t137.length co14] rfl (by rfl) (by (simp only [List.map_toArray, List.map_cons, List.map_nil]); rfl) ?_; (with_reducible refine (plain_PutTexts.calls k _ _ t137 t143 t144 _ ?side1 ?side2 A6.out).mono ?_); (case side1 => exact cx (Kd.R_reads' HO140.out).2.2); (case side2 => exact (Kd.R_reads' HO140.out).2.1); rintro e w15 ⟨rfl, hb⟩; refine ⟨_, rfl, ?_⟩; replace HO140 := rba HO140 hb; replace HO142 := rba HO142 hb; replace HB := bsa HB hb; clear hb; obtain ⟨Ao16, co16, eo16⟩ := Kd.R_slice HO142.out; subst eo16) | ((with_reducible refine gate_callee (f := 40) rfl ?_); refine gL 36 Tryz.func40 #[.slice Ao16 t138.length co16] ?_; (with_reducible refine (pack_Width.calls k _ _ t138 t145 _ ?side1 ?side2 A8.out).mono ?_); (case side1 => exact cx (Kd.R_reads' HO142.out).2.2); (case side2 => exact (Kd.R_reads' HO142.out).2.1); rintro e w' ⟨rfl, ⟨nd, rfl⟩⟩; refine ⟨_, rfl, ?_⟩) | ((with_reducible refine gate_callee (f := 55) rfl ?_); refine gL 37 Tryz.func55 #[.slice Ao16 t138.length co16, .int .i64 t145] ?_; (with_reducible refine (pack_Put.calls k _ _ t138 t145 t146 t147 _ ?side1 ?side2 A9.out).mono ?_); (case side1 => exact cx (Kd.R_reads' HO142.out).2.2); (case side2 => exact (Kd.R_reads' HO142.out).2.1); rintro e w17 ⟨rfl, hb⟩; refine ⟨_, rfl, ?_⟩; replace HO140 := rba HO140 hb; replace HO142 := rba HO142 hb; replace HB := bsa HB hb; clear hb) | ((with_reducible refine gate_callee (f := 56) rfl ?_); refine gL 42 Tryz.func56 #[.int .i64 (t137.length : Int)] ?_; (with_reducible refine (vint_Put.calls (t137.length : Int) t148 _ A10.out).mono ?_); rintro e w18 ⟨rfl, hb⟩; refine ⟨_, rfl, ?_⟩; replace HO140 := rba HO140 hb; replace HO142 := rba HO142 hb; replace HB := bsa HB hb; clear hb))
    go_ret2
    exact ⟨er, bh HB.out⟩
   ·simp only [Option.some.injEq, Prod.mk.injEq] at H
    obtain ⟨rfl, rfl⟩ := H
    go_enter Tryz.func33, Tryz.ntmps33
    go_wp2_with (first | ((with_reducible refine gate_callee (f := 15) rfl ?_); refine gL 21 Tryz.func15 #[.slice A0 l0.length c0] ?_; (with_reducible refine (dict_Of_string.calls k _ _ l0 t137 t138 _ ?side1 ?side2 A5.out).mono ?_); (case side1 => exact cx HR0.out); (case side2 => exact HC0.out); rintro e w19 ⟨v139, v141, rfl, ho0, ho1, hb⟩; refine ⟨_, rfl, ?_⟩; have HO140 := Aside0.mk (Kd.R_lower ho0 (below_size (bh HB.out))); have HO142 := Aside0.mk (Kd.R_lower ho1 (below_size (bh HB.out))); replace HB := bsa HB hb; clear hb ho0 ho1; obtain ⟨Ao20, co20, eo20⟩ := Kd.R_slice HO140.out; subst eo20) | ((with_reducible refine gate_list ?_); refine gate_value rfl ?_; refine goesV_ (some 27) rfl rfl Tryz.func34 (by kernel_rfl) rfl #[.slice Ao20 t137.length co20] rfl (by rfl) (by (simp only [List.map_toArray, List.map_cons, List.map_nil]); rfl) ?_; (with_reducible refine (plain_PutTexts.calls k _ _ t137 t143 t144 _ ?side1 ?side2 A6.out).mono ?_); (case side1 => exact cx (Kd.R_reads' HO140.out).2.2); (case side2 => exact (Kd.R_reads' HO140.out).2.1); rintro e w21 ⟨rfl, hb⟩; refine ⟨_, rfl, ?_⟩; replace HO140 := rba HO140 hb; replace HO142 := rba HO142 hb; replace HB := bsa HB hb; clear hb))
    go_ret2
    exact ⟨er, bh HB.out⟩
/-! ### dict_PutTexts: function 12 -/
def dict_PutTexts.f (k : Nat) (l0 : List ByteArray) : Option (ByteArray × Int) := (dict_put_string_fn34.f k l0).bind fun bt149 => (some (bt149.1, bt149.2))
set_option maxHeartbeats 8000000 in
set_option maxRecDepth 100000 in
theorem dict_PutTexts.calls (k : Nat) (A0 : Option Addr) (c0 : Nat) (l0 : List ByteArray) (r1 : ByteArray) (r2 : Int) (w : World) (hr0 : Kd.C Kd.string w A0 l0.length l0) (hc0 : l0.length ≤ c0) (h : dict_PutTexts.f k l0 = some (r1, r2)) :
  Calls Tryz.prog 12 #[.slice A0 l0.length c0] w fun e w' => e = .returned (.tuple #[.string r1, .int .i64 r2]) ∧ Below w.heap.size w w' := by
 have HR0 := Aside0.mk hr0
 have HC0 := Aside0.mk hc0
 clear hr0 hc0
 have HB := Aside0.mk (Below.refl w.heap.size w)
 have H := h
 clear h
 unfold dict_PutTexts.f at H
 replace H := bd H
 obtain ⟨⟨t149, t150⟩, A2, H⟩ := H
 dsimp only at H
 simp only [Option.some.injEq, Prod.mk.injEq] at H
 obtain ⟨rfl, rfl⟩ := H
 go_enter Tryz.func12, Tryz.ntmps12
 go_wp2_with (((with_reducible refine gate_callee (f := 33) rfl ?_); refine gL 5 Tryz.func33 #[.slice A0 l0.length c0, .func (.func 34) #[] #[]] ?_; (with_reducible refine (dict_put_string_fn34.calls k _ _ l0  t149 t150 _ ?side1 ?side2 A2.out).mono ?_); (case side1 => exact cx HR0.out); (case side2 => exact HC0.out); rintro e w3 ⟨rfl, hb⟩; refine ⟨_, rfl, ?_⟩; replace HB := bsa HB hb; clear hb))
 go_ret2
 exact ⟨er, bh HB.out⟩
/-! ### bits_Zag: function 42 -/
def bits_Zag.f (a0 : Int) : Option (Int) := some (wrap64 (Go.bits .xor .u64 ((IntKind.u64.wrap (a0)) / 2) (IntKind.u64.wrap (-(Go.bits .and .u64 (IntKind.u64.wrap (a0)) 1)))))
set_option maxHeartbeats 8000000 in
set_option maxRecDepth 100000 in
theorem bits_Zag.calls (a0 : Int) (r : Int) (w : World) (h : bits_Zag.f a0 = some r) :
  Calls Tryz.prog 42 #[.int .i64 a0] w fun e w' => e = .returned (.int .i64 r) ∧ Drawn0 w w' := by
 have H := h
 clear h
 unfold bits_Zag.f at H
 obtain rfl := Option.some.inj H
 go_enter Tryz.func42, Tryz.ntmps42
 go_wp2
 go_ret
 exact ⟨by rfl, by repeat (exact Drawn0.refl _)⟩
/-! ### vint_Len: function 43 -/
def vint_Len.f (k : Nat) (a0 : Int) : Option (Int) := (bits_Zig.f a0).bind fun t151 => ((bits_Width.f k t151).bind fun t152 => (some (mx 1 (wrap64 (Int.tdiv (wrap64 ((wrap64 (t152 + 7)) - 1)) 7)))))
theorem vint_Len.mono : ∀ a0 k, LeO (vint_Len.f k a0) (vint_Len.f (k + 1) a0) := by
 intro a0 k
 unfold vint_Len.f
 repeat' first | (with_reducible exact bits_Width.mono _ _) | (with_reducible exact LeO.refl _) | (with_reducible refine LeO.bind ?_ (fun _ => ?_))
set_option maxHeartbeats 8000000 in
set_option maxRecDepth 100000 in
theorem vint_Len.calls (k : Nat) (a0 : Int) (r : Int) (w : World) (h : vint_Len.f k a0 = some r) :
  Calls Tryz.prog 43 #[.int .i64 a0] w fun e w' => e = .returned (.int .i64 r) ∧ Below w.heap.size w w' := by
 have HB := Aside0.mk (Below.refl w.heap.size w)
 have H := h
 clear h
 unfold vint_Len.f at H
 replace H := bd H
 obtain ⟨t151, A2, H⟩ := H
 replace H := bd H
 obtain ⟨t152, A3, H⟩ := H
 obtain ⟨ji4, hji4⟩ : ∃ j_ : Int, (mx 1 (wrap64 (Int.tdiv (wrap64 ((wrap64 (t152 + 7)) - 1)) 7))) = j_ := ⟨_, rfl⟩
 replace H : (some ji4) = some r := by (rw [hji4] at H; exact H)
 ((have hji4l : 1 ≤ ji4 := by (rw [← hji4]; unfold mx; (repeat' split) <;> omega)))
 ((have hji4m : 0 ≤ ji4 := by omega))
 have hji4_ : (if 1 < (wrap64 (Int.tdiv (wrap64 ((wrap64 (t152 + 7)) - 1)) 7)) then (wrap64 (Int.tdiv (wrap64 ((wrap64 (t152 + 7)) - 1)) 7)) else 1) = ji4 := hji4
 obtain rfl := Option.some.inj H
 go_enter Tryz.func43, Tryz.ntmps43
 go_wp2_with (first | ((with_reducible refine gate_callee (f := 68) rfl ?_); refine gL 4 Tryz.func68 #[.int .i64 a0] ?_; (with_reducible refine (bits_Zig.calls a0 t151 _ A2.out).mono ?_); rintro e w' ⟨rfl, ⟨nd, rfl⟩⟩; refine ⟨_, rfl, ?_⟩) | ((with_reducible refine gate_callee (f := 66) rfl ?_); refine gL 5 Tryz.func66 #[.int .i64 t151] ?_; (with_reducible refine (bits_Width.calls k t151 t152 _ A3.out).mono ?_); rintro e w' ⟨rfl, ⟨nd, rfl⟩⟩; refine ⟨_, rfl, ?_⟩))
 go_ret
 exact ⟨by rfl, bh HB.out⟩
end Go.Proofs.YtfohecpfenegkaaGreat.Print
end
section
namespace Go.Proofs.YtfohecpfenegkaaGreat.Print
open Go.RowKit Go.Proofs.YtfohecpfenegkaaGreatW.PrintWords Go.Proofs.YtfohecpfenegkaaGreatW.PrintLast Go.Proofs.YtfohecpfenegkaaGreatW.PrintMore
attribute [local go_sem] max2_int min2_int max_two min_two max_three min_three max_four min_four   -- for this text's walks alone
set_option linter.unusedVariables false
set_option linter.unusedSimpArgs false
/-! ### vint_Take: function 18 -/
def vint_Take.l0 : Nat → ByteArray → Int → Int → Int → Option (Int × Int × Int)
 | 0, _, _, _, _ => none
 | k + 1, x0, x5, x11, x12 => if x12 < x11 then (if 0 ≤ x12 then (if x12 < (x0.size : Int) then (if 0 ≤ (wrap64 (7 * x12)) then (if (bt x0 x12) ≥ 128 then (vint_Take.l0 k x0 (Go.bits .or .u64 x5 (shl .u64 (IntKind.u64.wrap (Go.bits .andNot .u8 (bt x0 x12) 128)) (wrap64 (7 * x12)))) x11 (wrap64 (x12 + 1))) else ((bits_Zag.f (wrap64 (Go.bits .or .u64 x5 (shl .u64 (IntKind.u64.wrap (Go.bits .andNot .u8 (bt x0 x12) 128)) (wrap64 (7 * x12)))))).bind fun t153 => ((vint_Len.f k t153).bind fun t154 => (if t154 = (wrap64 (x12 + 1)) then (if x12 < 9 then (some (t153, wrap64 (x12 + 1), 0)) else (if (bt x0 x12) = 1 then (some (t153, wrap64 (x12 + 1), 0)) else (some (0, 0, 20)))) else (some (0, 0, 20)))))) else (none)) else (none)) else (none)) else (some (0, 0, 20))
def vint_Take.f (k : Nat) (a0 : ByteArray) : Option (Int × Int × Int) := vint_Take.l0 k a0 0 (mn (a0.size : Int) 10) 0
theorem vint_Take.l0_succ (k) (a0) (a1) (a2) (a3) : type_of% (@vint_Take.l0.eq_2 a0 a1 a2 a3 k) := vint_Take.l0.eq_2 a0 a1 a2 a3 k
theorem vint_Take.mono_l : ∀ k, (∀ y0 y1 y2 y3, LeO (vint_Take.l0 k y0 y1 y2 y3) (vint_Take.l0 (k + 1) y0 y1 y2 y3))
 | 0 => fun _ _ _ _ r h => by simp [vint_Take.l0] at h
 | k + 1 => by
  have ih0 := vint_Take.mono_l k
  ·intro y0 y1 y2 y3
   unfold vint_Take.l0
   repeat' first | (with_reducible exact ih0 _ _ _ _) | (with_reducible exact vint_Len.mono _ _) | (with_reducible exact LeO.refl _) | (with_reducible refine LeO.ite ?_ ?_) | (with_reducible refine LeO.bind ?_ (fun _ => ?_))
theorem vint_Take.mono : ∀ a0 k, LeO (vint_Take.f k a0) (vint_Take.f (k + 1) a0) := by
 intro a0 k
 have ih0 := vint_Take.mono_l k
 unfold vint_Take.f
 repeat' (with_reducible exact ih0 _ _ _ _)
set_option maxHeartbeats 8000000 in
set_option maxRecDepth 100000 in
theorem vint_Take.calls (k : Nat) (a0 : ByteArray) (r1 : Int) (r2 : Int) (r3 : Int) (w : World) (h : vint_Take.f k a0 = some (r1, r2, r3)) :
  Calls Tryz.prog 18 #[.string a0] w fun e w' => e = .returned (.tuple #[.int .i64 r1, .int .i64 r2, .int .i64 r3]) ∧ Below w.heap.size w w' := by
 have HB := Aside0.mk (Below.refl w.heap.size w)
 have H := h
 clear h
 unfold vint_Take.f at H
 obtain ⟨ji2, hji2⟩ : ∃ j_ : Int, (mn (a0.size : Int) 10) = j_ := ⟨_, rfl⟩
 replace H : (vint_Take.l0 k a0 0 ji2 0) = some (r1, r2, r3) := by (rw [hji2] at H; exact H)
 ((have hji2h : ji2 ≤ 10 := by (rw [← hji2]; unfold mn; (repeat' split) <;> omega)))
 ((have hji2g : ji2 ≤ 64 := by omega))
 ((have hji2l : 0 ≤ ji2 := by (rw [← hji2]; unfold mn; (repeat' split) <;> omega)))
 ((have hji2m : 0 ≤ ji2 := by omega))
 have hji2_ : (if 10 < (a0.size : Int) then 10 else (a0.size : Int)) = ji2 := hji2
 have H' := Aside0.mk H
 clear H
 go_enter Tryz.func18, Tryz.ntmps18
 go_wp2
 go_loopg [5, 12] k (fun kq v5 v12 w' => ∃ (x5_1 : Int) (x12_1 : Int), v5 = .int .u64 x5_1 ∧ v12 = .int .i64 x12_1 ∧ Aside0 (vint_Take.l0 kq a0 x5_1 ji2 x12_1 = some (r1, r2, r3)) ∧ Aside0 (kq ≤ k) ∧ Aside0 (Below w.heap.size w w'))
 case atStart => exact ⟨(0), (0), (by rfl), (by rfl), H', ⟨Nat.le_refl _⟩, ⟨bh HB.out⟩⟩
 case round =>
  clear H'
  obtain ⟨x5_1, x12_1, rfl, rfl, HA, HK1, HB⟩ := hrel
  cases gk with
  | zero => exact absurd HA.out (by simp [vint_Take.l0])
  | succ k1 =>
   have H := HA.out
   clear HA
   simp only [vint_Take.l0] at H
   replace H := ifd H
   rcases H with ⟨-, c3b0, H⟩ | ⟨-, c3b0, H⟩
   ·replace H := ifn H
    obtain ⟨-, c4b0, H⟩ := H
    replace H := ifn H
    obtain ⟨-, c5b0, H⟩ := H
    obtain ⟨ji7, hji7⟩ : ∃ j_ : Int, (wrap64 (7 * x12_1)) = j_ := ⟨_, rfl⟩
    replace H : (if 0 ≤ (ji7) then (if (bt a0 x12_1) ≥ 128 then (vint_Take.l0 k1 a0 (Go.bits .or .u64 x5_1 (shl .u64 (IntKind.u64.wrap (Go.bits .andNot .u8 (bt a0 x12_1) 128)) (ji7))) ji2 (wrap64 (x12_1 + 1))) else ((bits_Zag.f (wrap64 (Go.bits .or .u64 x5_1 (shl .u64 (IntKind.u64.wrap (Go.bits .andNot .u8 (bt a0 x12_1) 128)) (ji7))))).bind fun t153 => ((vint_Len.f k1 t153).bind fun t154 => (if t154 = (wrap64 (x12_1 + 1)) then (if x12_1 < 9 then (some (t153, wrap64 (x12_1 + 1), 0)) else (if (bt a0 x12_1) = 1 then (some (t153, wrap64 (x12_1 + 1), 0)) else (some (0, 0, 20)))) else (some (0, 0, 20)))))) else (none)) = some (r1, r2, r3) := by (rw [hji7] at H; exact H)
    have hji7w : (IntKind.i64.wrap (7 * x12_1)) = ji7 := (i64_w _).trans hji7
    replace H := ifn H
    obtain ⟨c8, -, H⟩ := H
    have c8b0 := eq_true c8
    have c8b1 : decide (0 ≤ (ji7)) = true := decide_eq_true c8
    clear c8
    obtain ⟨ji9, hji9⟩ : ∃ j_ : Int, (shl .u64 (IntKind.u64.wrap (Go.bits .andNot .u8 (bt a0 x12_1) 128)) (ji7)) = j_ := ⟨_, rfl⟩
    replace H : (if (bt a0 x12_1) ≥ 128 then (vint_Take.l0 k1 a0 (Go.bits .or .u64 x5_1 (ji9)) ji2 (wrap64 (x12_1 + 1))) else ((bits_Zag.f (wrap64 (Go.bits .or .u64 x5_1 (ji9)))).bind fun t153 => ((vint_Len.f k1 t153).bind fun t154 => (if t154 = (wrap64 (x12_1 + 1)) then (if x12_1 < 9 then (some (t153, wrap64 (x12_1 + 1), 0)) else (if (bt a0 x12_1) = 1 then (some (t153, wrap64 (x12_1 + 1), 0)) else (some (0, 0, 20)))) else (some (0, 0, 20)))))) = some (r1, r2, r3) := by (rw [hji9] at H; exact H)
    have hji9_ : (IntKind.u64.wrap ((IntKind.u64.wrap (Go.bits .andNot .u8 (bt a0 x12_1) 128)) * 2 ^ min (ji7).toNat 64)) = ji9 := hji9
    have hji9z : (ji7) ≤ 64 → (IntKind.u64.wrap ((IntKind.u64.wrap (Go.bits .andNot .u8 (bt a0 x12_1) 128)) * 2 ^ (ji7).toNat)) = ji9 := shl_small hji9
    replace H := ifd H
    rcases H with ⟨-, c10b0, H⟩ | ⟨-, c10b0, H⟩
    ·have H' := Aside0.mk H
     clear H
     have p6 : 0 ≤ (x12_1 : Int) := ad
     have q6 : x12_1 < (a0.size : Int) := ad
     have hx6 := bt_at a0 x12_1
     replace p6 := eq_true p6
     replace q6 := eq_true q6
     go_wp2
     go_roundg k1
     case measure => have := HK1.out; omega
     case rel => exact ⟨(Go.bits .or .u64 x5_1 (ji9)), (wrap64 (x12_1 + 1)), (by rfl), (by rfl), (by exact H'), ⟨by have := HK1.out; omega⟩, ⟨bh HB.out⟩⟩
    ·replace H := bd H
     obtain ⟨t153, A11, H⟩ := H
     replace H := bd H
     obtain ⟨t154, A12, H⟩ := H
     replace H := ife H
     rcases H with ⟨-, c13b0, c13b1, H⟩ | ⟨c13, c13b0, c13b1, H⟩
     ·replace H := ifd H
      rcases H with ⟨-, c14b0, H⟩ | ⟨-, c14b0, H⟩
      ·simp only [Option.some.injEq, Prod.mk.injEq] at H
       obtain ⟨rfl, rfl, rfl⟩ := H
       have p6 : 0 ≤ (x12_1 : Int) := ad
       have q6 : x12_1 < (a0.size : Int) := ad
       have hx6 := bt_at a0 x12_1
       replace p6 := eq_true p6
       replace q6 := eq_true q6
       go_wp2_with (first | ((with_reducible refine gate_callee (f := 42) rfl ?_); refine gL 30 Tryz.func42 #[.int .i64 (wrap64 (Go.bits .or .u64 x5_1 (ji9)))] ?_; (with_reducible refine (bits_Zag.calls (wrap64 (Go.bits .or .u64 x5_1 (ji9))) t153 _ A11.out).mono ?_); rintro e w' ⟨rfl, ⟨nd, rfl⟩⟩; refine ⟨_, rfl, ?_⟩) | ((with_reducible refine gate_callee (f := 43) rfl ?_); refine gL 32 Tryz.func43 #[.int .i64 t153] ?_; (with_reducible refine (vint_Len.calls k1 t153 t154 _ A12.out).mono ?_); rintro e w15 ⟨rfl, hb⟩; refine ⟨_, rfl, ?_⟩; replace HB := bsa HB hb; clear hb))
       go_ret3
       exact ⟨by rfl, bh HB.out⟩
      ·replace H := ife H
       rcases H with ⟨-, c16b0, c16b1, H⟩ | ⟨c16, c16b0, c16b1, H⟩
       ·simp only [Option.some.injEq, Prod.mk.injEq] at H
        obtain ⟨rfl, rfl, rfl⟩ := H
        have p6 : 0 ≤ (x12_1 : Int) := ad
        have q6 : x12_1 < (a0.size : Int) := ad
        have hx6 := bt_at a0 x12_1
        replace p6 := eq_true p6
        replace q6 := eq_true q6
        go_wp2_with (first | ((with_reducible refine gate_callee (f := 42) rfl ?_); refine gL 30 Tryz.func42 #[.int .i64 (wrap64 (Go.bits .or .u64 x5_1 (ji9)))] ?_; (with_reducible refine (bits_Zag.calls (wrap64 (Go.bits .or .u64 x5_1 (ji9))) t153 _ A11.out).mono ?_); rintro e w' ⟨rfl, ⟨nd, rfl⟩⟩; refine ⟨_, rfl, ?_⟩) | ((with_reducible refine gate_callee (f := 43) rfl ?_); refine gL 32 Tryz.func43 #[.int .i64 t153] ?_; (with_reducible refine (vint_Len.calls k1 t153 t154 _ A12.out).mono ?_); rintro e w17 ⟨rfl, hb⟩; refine ⟨_, rfl, ?_⟩; replace HB := bsa HB hb; clear hb))
        go_ret3
        exact ⟨by rfl, bh HB.out⟩
       ·simp only [Option.some.injEq, Prod.mk.injEq] at H
        obtain ⟨rfl, rfl, rfl⟩ := H
        have p6 : 0 ≤ (x12_1 : Int) := ad
        have q6 : x12_1 < (a0.size : Int) := ad
        have hx6 := bt_at a0 x12_1
        replace p6 := eq_true p6
        replace q6 := eq_true q6
        go_wp2_with (first | ((with_reducible refine gate_callee (f := 42) rfl ?_); refine gL 30 Tryz.func42 #[.int .i64 (wrap64 (Go.bits .or .u64 x5_1 (ji9)))] ?_; (with_reducible refine (bits_Zag.calls (wrap64 (Go.bits .or .u64 x5_1 (ji9))) t153 _ A11.out).mono ?_); rintro e w' ⟨rfl, ⟨nd, rfl⟩⟩; refine ⟨_, rfl, ?_⟩) | ((with_reducible refine gate_callee (f := 43) rfl ?_); refine gL 32 Tryz.func43 #[.int .i64 t153] ?_; (with_reducible refine (vint_Len.calls k1 t153 t154 _ A12.out).mono ?_); rintro e w18 ⟨rfl, hb⟩; refine ⟨_, rfl, ?_⟩; replace HB := bsa HB hb; clear hb))
        go_ret3
        exact ⟨by rfl, bh HB.out⟩
     ·simp only [Option.some.injEq, Prod.mk.injEq] at H
      obtain ⟨rfl, rfl, rfl⟩ := H
      have p6 : 0 ≤ (x12_1 : Int) := ad
      have q6 : x12_1 < (a0.size : Int) := ad
      have hx6 := bt_at a0 x12_1
      replace p6 := eq_true p6
      replace q6 := eq_true q6
      go_wp2_with (first | ((with_reducible refine gate_callee (f := 42) rfl ?_); refine gL 30 Tryz.func42 #[.int .i64 (wrap64 (Go.bits .or .u64 x5_1 (ji9)))] ?_; (with_reducible refine (bits_Zag.calls (wrap64 (Go.bits .or .u64 x5_1 (ji9))) t153 _ A11.out).mono ?_); rintro e w' ⟨rfl, ⟨nd, rfl⟩⟩; refine ⟨_, rfl, ?_⟩) | ((with_reducible refine gate_callee (f := 43) rfl ?_); refine gL 32 Tryz.func43 #[.int .i64 t153] ?_; (with_reducible refine (vint_Len.calls k1 t153 t154 _ A12.out).mono ?_); rintro e w19 ⟨rfl, hb⟩; refine ⟨_, rfl, ?_⟩; replace HB := bsa HB hb; clear hb))
      go_ret3
      exact ⟨by rfl, bh HB.out⟩
   ·simp only [Option.some.injEq, Prod.mk.injEq] at H
    obtain ⟨rfl, rfl, rfl⟩ := H
    go_wp2
    go_ret3
    exact ⟨by rfl, bh HB.out⟩
/-! ### dict_TakeInts_1: function 17 -/
def dict_TakeInts_1.f (k : Nat) (a0 : ByteArray) : Option (Int × Int) := (vint_Take.f k a0).bind fun bt155 => (if bt155.2.2 = 0 then (some (bt155.1, bt155.2.1)) else (some (0, 0)))
theorem dict_TakeInts_1.mono : ∀ a0 k, LeO (dict_TakeInts_1.f k a0) (dict_TakeInts_1.f (k + 1) a0) := by
 intro a0 k
 unfold dict_TakeInts_1.f
 repeat' first | (with_reducible exact vint_Take.mono _ _) | (with_reducible exact LeO.refl _) | (with_reducible refine LeO.bind ?_ (fun _ => ?_))
set_option maxHeartbeats 8000000 in
set_option maxRecDepth 100000 in
theorem dict_TakeInts_1.calls (k : Nat) (a0 : ByteArray) (r1 : Int) (r2 : Int) (w : World) (h : dict_TakeInts_1.f k a0 = some (r1, r2)) :
  Calls Tryz.prog 17 #[.string a0] w fun e w' => e = .returned (.tuple #[.int .i64 r1, .int .i64 r2]) ∧ Below w.heap.size w w' := by
 have HB := Aside0.mk (Below.refl w.heap.size w)
 have H := h
 clear h
 unfold dict_TakeInts_1.f at H
 replace H := bd H
 obtain ⟨⟨t155, t156, t157⟩, A2, H⟩ := H
 dsimp only at H
 replace H := ife H
 rcases H with ⟨-, c3b0, c3b1, H⟩ | ⟨c3, c3b0, c3b1, H⟩
 ·simp only [Option.some.injEq, Prod.mk.injEq] at H
  obtain ⟨rfl, rfl⟩ := H
  go_enter Tryz.func17, Tryz.ntmps17
  go_wp2_with (((with_reducible refine gate_callee (f := 18) rfl ?_); refine gL 9 Tryz.func18 #[.string a0] ?_; (with_reducible refine (vint_Take.calls k a0 t155 t156 t157 _ A2.out).mono ?_); rintro e w4 ⟨rfl, hb⟩; refine ⟨_, rfl, ?_⟩; replace HB := bsa HB hb; clear hb))
  go_ret2
  exact ⟨er, bh HB.out⟩
 ·simp only [Option.some.injEq, Prod.mk.injEq] at H
  obtain ⟨rfl, rfl⟩ := H
  go_enter Tryz.func17, Tryz.ntmps17
  go_wp2_with (((with_reducible refine gate_callee (f := 18) rfl ?_); refine gL 9 Tryz.func18 #[.string a0] ?_; (with_reducible refine (vint_Take.calls k a0 t155 t156 t157 _ A2.out).mono ?_); rintro e w5 ⟨rfl, hb⟩; refine ⟨_, rfl, ?_⟩; replace HB := bsa HB hb; clear hb))
  go_ret2
  exact ⟨er, bh HB.out⟩
/-! ### pack_word: function 65 -/
def pack_word.l0 : Nat → ByteArray → Int → Int → Int → Int → Option (Int)
 | 0, _, _, _, _, _ => none
 | k + 1, x0, x2, x7, x8, x9 => if x9 < x2 then (if 0 ≤ (x8 / 8) then (if (x8 / 8) < (x0.size : Int) then (if 0 ≤ (Go.bits .and .i64 x8 7) then ((bits_Mask.f (mn (wrap64 (8 - (Go.bits .and .i64 x8 7))) (wrap64 (x2 - x9)))).bind fun t158 => (if 0 ≤ x9 then (pack_word.l0 k x0 x2 (Go.bits .or .u64 x7 (shl .u64 (Go.bits .and .u64 (shr .u64 (IntKind.u64.wrap (bt x0 (x8 / 8))) (Go.bits .and .i64 x8 7)) (IntKind.u64.wrap (t158))) x9)) (wrap64 (x8 + (mn (wrap64 (8 - (Go.bits .and .i64 x8 7))) (wrap64 (x2 - x9))))) (wrap64 (x9 + (mn (wrap64 (8 - (Go.bits .and .i64 x8 7))) (wrap64 (x2 - x9)))))) else (none))) else (none)) else (none)) else (none)) else (some (wrap64 (x7)))
def pack_word.f (k : Nat) (a0 : ByteArray) (a1 : Int) (a2 : Int) : Option (Int) := pack_word.l0 k a0 a2 0 (wrap64 (a1 * a2)) 0
theorem pack_word.l0_succ (k) (a0) (a1) (a2) (a3) (a4) : type_of% (@pack_word.l0.eq_2 a0 a1 a2 a3 a4 k) := pack_word.l0.eq_2 a0 a1 a2 a3 a4 k
theorem pack_word.mono_l : ∀ k, (∀ y0 y1 y2 y3 y4, LeO (pack_word.l0 k y0 y1 y2 y3 y4) (pack_word.l0 (k + 1) y0 y1 y2 y3 y4))
 | 0 => fun _ _ _ _ _ r h => by simp [pack_word.l0] at h
 | k + 1 => by
  have ih0 := pack_word.mono_l k
  ·intro y0 y1 y2 y3 y4
   unfold pack_word.l0
   repeat' first | (with_reducible exact ih0 _ _ _ _ _) | (with_reducible exact LeO.refl _) | (with_reducible refine LeO.ite ?_ ?_) | (with_reducible refine LeO.bind ?_ (fun _ => ?_))
theorem pack_word.mono : ∀ a0 a1 a2 k, LeO (pack_word.f k a0 a1 a2) (pack_word.f (k + 1) a0 a1 a2) := by
 intro a0 a1 a2 k
 have ih0 := pack_word.mono_l k
 unfold pack_word.f
 repeat' (with_reducible exact ih0 _ _ _ _ _)
set_option maxHeartbeats 8000000 in
set_option maxRecDepth 100000 in
theorem pack_word.calls (k : Nat) (a0 : ByteArray) (a1 : Int) (a2 : Int) (r : Int) (w : World) (h : pack_word.f k a0 a1 a2 = some r) :
  Calls Tryz.prog 65 #[.string a0, .int .i64 a1, .int .i64 a2] w fun e w' => e = .returned (.int .i64 r) ∧ Below w.heap.size w w' := by
 have HB := Aside0.mk (Below.refl w.heap.size w)
 have H := h
 clear h
 unfold pack_word.f at H
 have H' := Aside0.mk H
 clear H
 go_enter Tryz.func65, Tryz.ntmps65
 go_wp2
 repeat (go_quiet (fail))
 go_loopg [7, 8, 9] k (fun kq v7 v8 v9 w' => ∃ (x7_1 : Int) (x8_1 : Int) (x9_1 : Int), v7 = .int .u64 x7_1 ∧ v8 = .int .i64 x8_1 ∧ v9 = .int .i64 x9_1 ∧ Aside0 (pack_word.l0 kq a0 a2 x7_1 x8_1 x9_1 = some r) ∧ Aside0 (kq ≤ k) ∧ Aside0 (Below w.heap.size w w'))
 case atStart => exact ⟨(0), (wrap64 (a1 * a2)), (0), (by rfl), (by rfl), (by rfl), H', ⟨Nat.le_refl _⟩, ⟨bh HB.out⟩⟩
 case round =>
  clear H'
  obtain ⟨x7_1, x8_1, x9_1, rfl, rfl, rfl, HA, HK1, HB⟩ := hrel
  cases gk with
  | zero => exact absurd HA.out (by simp [pack_word.l0])
  | succ k1 =>
   have H := HA.out
   clear HA
   simp only [pack_word.l0] at H
   replace H := ifd H
   rcases H with ⟨-, c4b0, H⟩ | ⟨-, c4b0, H⟩
   ·obtain ⟨ji5, hji5⟩ : ∃ j_ : Int, (mn (wrap64 (8 - (Go.bits .and .i64 x8_1 7))) (wrap64 (a2 - x9_1))) = j_ := ⟨_, rfl⟩
    replace H : (if 0 ≤ (x8_1 / 8) then (if (x8_1 / 8) < (a0.size : Int) then (if 0 ≤ (Go.bits .and .i64 x8_1 7) then ((bits_Mask.f (ji5)).bind fun t158 => (if 0 ≤ x9_1 then (pack_word.l0 k1 a0 a2 (Go.bits .or .u64 x7_1 (shl .u64 (Go.bits .and .u64 (shr .u64 (IntKind.u64.wrap (bt a0 (x8_1 / 8))) (Go.bits .and .i64 x8_1 7)) (IntKind.u64.wrap (t158))) x9_1)) (wrap64 (x8_1 + (ji5))) (wrap64 (x9_1 + (ji5)))) else (none))) else (none)) else (none)) else (none)) = some r := by (rw [hji5] at H; exact H)
    have hji5_ : (if (wrap64 (a2 - x9_1)) < (wrap64 (8 - (Go.bits .and .i64 x8_1 7))) then (wrap64 (a2 - x9_1)) else (wrap64 (8 - (Go.bits .and .i64 x8_1 7)))) = ji5 := hji5
    obtain ⟨ji6, hji6⟩ : ∃ j_ : Int, (x8_1 / 8) = j_ := ⟨_, rfl⟩
    replace H : (if 0 ≤ (ji6) then (if (ji6) < (a0.size : Int) then (if 0 ≤ (Go.bits .and .i64 x8_1 7) then ((bits_Mask.f (ji5)).bind fun t158 => (if 0 ≤ x9_1 then (pack_word.l0 k1 a0 a2 (Go.bits .or .u64 x7_1 (shl .u64 (Go.bits .and .u64 (shr .u64 (IntKind.u64.wrap (bt a0 (ji6))) (Go.bits .and .i64 x8_1 7)) (IntKind.u64.wrap (t158))) x9_1)) (wrap64 (x8_1 + (ji5))) (wrap64 (x9_1 + (ji5)))) else (none))) else (none)) else (none)) else (none)) = some r := by (rw [hji6] at H; exact H)
    replace H := ifn H
    obtain ⟨-, c7b0, H⟩ := H
    replace H := ifn H
    obtain ⟨-, c8b0, H⟩ := H
    replace H := ifn H
    obtain ⟨c10, -, H⟩ := H
    have c10b0 := eq_true c10
    have c10b1 : decide (0 ≤ (Go.bits .and .i64 x8_1 7)) = true := decide_eq_true c10
    clear c10
    obtain ⟨ji11, hji11⟩ : ∃ j_ : Int, (shr .u64 (IntKind.u64.wrap (bt a0 (ji6))) (Go.bits .and .i64 x8_1 7)) = j_ := ⟨_, rfl⟩
    replace H : ((bits_Mask.f (ji5)).bind fun t158 => (if 0 ≤ x9_1 then (pack_word.l0 k1 a0 a2 (Go.bits .or .u64 x7_1 (shl .u64 (Go.bits .and .u64 (ji11) (IntKind.u64.wrap (t158))) x9_1)) (wrap64 (x8_1 + (ji5))) (wrap64 (x9_1 + (ji5)))) else (none))) = some r := by (rw [hji11] at H; exact H)
    have hji11_ : ((IntKind.u64.wrap (bt a0 (ji6))) / 2 ^ min (Go.bits .and .i64 x8_1 7).toNat 64) = ji11 := hji11
    have hji11z : (Go.bits .and .i64 x8_1 7) ≤ 64 → ((IntKind.u64.wrap (bt a0 (ji6))) / 2 ^ (Go.bits .and .i64 x8_1 7).toNat) = ji11 := shr_small hji11
    replace H := bd H
    obtain ⟨t158, A12, H⟩ := H
    replace H := ifn H
    obtain ⟨c13, -, H⟩ := H
    have c13b0 := eq_true c13
    have c13b1 : decide (0 ≤ x9_1) = true := decide_eq_true c13
    clear c13
    obtain ⟨ji14, hji14⟩ : ∃ j_ : Int, (shl .u64 (Go.bits .and .u64 (ji11) (IntKind.u64.wrap (t158))) x9_1) = j_ := ⟨_, rfl⟩
    replace H : (pack_word.l0 k1 a0 a2 (Go.bits .or .u64 x7_1 (ji14)) (wrap64 (x8_1 + (ji5))) (wrap64 (x9_1 + (ji5)))) = some r := by (rw [hji14] at H; exact H)
    have hji14_ : (IntKind.u64.wrap ((Go.bits .and .u64 (ji11) (IntKind.u64.wrap (t158))) * 2 ^ min x9_1.toNat 64)) = ji14 := hji14
    have hji14z : x9_1 ≤ 64 → (IntKind.u64.wrap ((Go.bits .and .u64 (ji11) (IntKind.u64.wrap (t158))) * 2 ^ x9_1.toNat)) = ji14 := shl_small hji14
    have H' := Aside0.mk H
    clear H
    have p9 : 0 ≤ ((ji6) : Int) := ad
    have q9 : (ji6) < (a0.size : Int) := ad
    have hx9 := bt_at a0 (ji6)
    replace p9 := eq_true p9
    replace q9 := eq_true q9
    go_wp2_with (fail)
    repeat (go_quiet ((go_at_call 78; (with_reducible refine (bits_Mask.calls ji5 t158 _ A12.out).mono ?_); rintro e w' ⟨rfl, ⟨nd, rfl⟩⟩; (exact ⟨rfl, _, World.drewN_drewN _ _ _⟩))); go_wp2_with (fail))
    go_roundg k1
    case measure => have := HK1.out; omega
    case rel => exact ⟨(Go.bits .or .u64 x7_1 (ji14)), (wrap64 (x8_1 + (ji5))), (wrap64 (x9_1 + (ji5))), (by rfl), (by rfl), (by rfl), (by exact H'), ⟨by have := HK1.out; omega⟩, ⟨bh HB.out⟩⟩
   ·obtain rfl := Option.some.inj H
    go_wp2
    repeat (go_quiet (fail))
    go_ret
    exact ⟨er, bh HB.out⟩
/-! ### pack_Take: function 39 -/
mutual
def pack_Take.j0 : Nat → ByteArray → Int → Int → Bool → Option (List Int × Int)
 | 0, _, _, _, _ => none
 | k + 1, x0, x1, x2, x24 => if x24 = true then (some (([] : List Int), 1)) else ((pack_Bytes.f x1 x2).bind fun t159 => (if (x0.size : Int) = t159 then (if (Go.bits .and .i64 (wrap64 (x1 * x2)) 7) > 0 then (if 0 ≤ (wrap64 ((x0.size : Int) - 1)) then (if (wrap64 ((x0.size : Int) - 1)) < (x0.size : Int) then (if 0 ≤ (Go.bits .and .i64 (wrap64 (x1 * x2)) 7) then (pack_Take.j1 k x0 x1 x2 (decide ((shr .u8 (bt x0 (wrap64 ((x0.size : Int) - 1))) (Go.bits .and .i64 (wrap64 (x1 * x2)) 7)) > 0))) else (none)) else (none)) else (none)) else (pack_Take.j1 k x0 x1 x2 false)) else (some (([] : List Int), 20))))
def pack_Take.j1 : Nat → ByteArray → Int → Int → Bool → Option (List Int × Int)
 | 0, _, _, _, _ => none
 | k + 1, x0, x1, x2, x46 => if x46 = true then (some (([] : List Int), 20)) else (if 0 ≤ x1 then (if (x1 : Int).toNat ≤ 35184372088832 then (pack_Take.l0 k x0 x2 (List.replicate (x1 : Int).toNat 0) x1 0) else (none)) else (none))
def pack_Take.l0 : Nat → ByteArray → Int → List Int → Int → Int → Option (List Int × Int)
 | 0, _, _, _, _, _ => none
 | k + 1, x0, x2, x9, x49, x50 => if x50 < x49 then ((pack_word.f k x0 x50 x2).bind fun t163 => (if 0 ≤ x50 then (if x50 < (x9.length : Int) then (pack_Take.l0 k x0 x2 (x9.set (x50 : Int).toNat t163) x49 (wrap64 (x50 + 1))) else (none)) else (none))) else (some (x9, 0))
end
def pack_Take.f (k : Nat) (a0 : ByteArray) (a1 : Int) (a2 : Int) : Option (List Int × Int) := if a2 < 0 then (pack_Take.j0 k a0 a1 a2 true) else (if a2 > 64 then (pack_Take.j0 k a0 a1 a2 true) else (if a1 < 0 then (pack_Take.j0 k a0 a1 a2 true) else (pack_Take.j0 k a0 a1 a2 (decide (a1 > 65536)))))
theorem pack_Take.j0_succ (k) (a0) (a1) (a2) (a3) : type_of% (@pack_Take.j0.eq_2 a0 a1 a2 a3 k) := pack_Take.j0.eq_2 a0 a1 a2 a3 k
theorem pack_Take.j1_succ (k) (a0) (a1) (a2) (a3) : type_of% (@pack_Take.j1.eq_2 a0 a1 a2 a3 k) := pack_Take.j1.eq_2 a0 a1 a2 a3 k
theorem pack_Take.l0_succ (k) (a0) (a1) (a2) (a3) (a4) : type_of% (@pack_Take.l0.eq_2 a0 a1 a2 a3 a4 k) := pack_Take.l0.eq_2 a0 a1 a2 a3 a4 k
theorem pack_Take.mono_l : ∀ k, (∀ y0 y1 y2 y3, LeO (pack_Take.j0 k y0 y1 y2 y3) (pack_Take.j0 (k + 1) y0 y1 y2 y3)) ∧ (∀ y0 y1 y2 y3, LeO (pack_Take.j1 k y0 y1 y2 y3) (pack_Take.j1 (k + 1) y0 y1 y2 y3)) ∧ (∀ y0 y1 y2 y3 y4, LeO (pack_Take.l0 k y0 y1 y2 y3 y4) (pack_Take.l0 (k + 1) y0 y1 y2 y3 y4))
 | 0 => ⟨fun _ _ _ _ r h => by simp [pack_Take.j0] at h, fun _ _ _ _ r h => by simp [pack_Take.j1] at h, fun _ _ _ _ _ r h => by simp [pack_Take.l0] at h⟩
 | k + 1 => by
  obtain ⟨ih0, ih1, ih2⟩ := pack_Take.mono_l k
  refine ⟨?_, ?_, ?_⟩
  ·intro y0 y1 y2 y3
   unfold pack_Take.j0
   repeat' first | (with_reducible exact ih1 _ _ _ _) | (with_reducible exact LeO.refl _) | (with_reducible refine LeO.ite ?_ ?_) | (with_reducible refine LeO.bind ?_ (fun _ => ?_))
  ·intro y0 y1 y2 y3
   unfold pack_Take.j1
   repeat' first | (with_reducible exact ih2 _ _ _ _ _) | (with_reducible exact LeO.refl _) | (with_reducible refine LeO.ite ?_ ?_)
  ·intro y0 y1 y2 y3 y4
   unfold pack_Take.l0
   repeat' first | (with_reducible exact ih2 _ _ _ _ _) | (with_reducible exact pack_word.mono _ _ _ _) | (with_reducible exact LeO.refl _) | (with_reducible refine LeO.ite ?_ ?_) | (with_reducible refine LeO.bind ?_ (fun _ => ?_))
theorem pack_Take.mono : ∀ a0 a1 a2 k, LeO (pack_Take.f k a0 a1 a2) (pack_Take.f (k + 1) a0 a1 a2) := by
 intro a0 a1 a2 k
 obtain ⟨ih0, ih1, ih2⟩ := pack_Take.mono_l k
 unfold pack_Take.f
 repeat' first | (with_reducible exact ih0 _ _ _ _) | (with_reducible refine LeO.ite ?_ ?_)
set_option maxHeartbeats 8000000 in
set_option maxRecDepth 100000 in
theorem pack_Take.calls (k : Nat) (a0 : ByteArray) (a1 : Int) (a2 : Int) (r1 : List Int) (r2 : Int) (w : World) (h : pack_Take.f k a0 a1 a2 = some (r1, r2)) :
  Calls Tryz.prog 39 #[.string a0, .int .i64 a1, .int .i64 a2] w fun e w' => ∃ v0_ : Value, e = .returned (.tuple #[v0_, .int .i64 r2]) ∧ Kd.R (Kd.int .i64) 3 w' w.heap.size (fun _ => True) v0_ r1 ∧ Below w.heap.size w w' := by
 have HB := Aside0.mk (Below.refl w.heap.size w)
 have H := h
 clear h
 unfold pack_Take.f at H
 have HC4 := Aside0.mk H
 clear H
 go_enter Tryz.func39, Tryz.ntmps39
 go_upto_region 1 with (fail)
 go_cut [24] (fun v24 wc => ∃ (kq : Nat) (x24_3 : Bool), v24 = .bool x24_3 ∧ Aside0 (pack_Take.j0 kq a0 a1 a2 x24_3 = some (r1, r2)) ∧ Aside0 (kq ≤ k) ∧ Aside0 (Below w.heap.size w wc))
 case first =>
  have H := HC4.out
  clear HC4
  replace H := ifd H
  rcases H with ⟨-, c5b0, H⟩ | ⟨-, c5b0, H⟩
  ·(skip)
   have H' := Aside0.mk H
   clear H
   go_wp2
   go_meet
   case rel => exact ⟨_, (true), (by rfl), H', ⟨by omega⟩, ⟨bh HB.out⟩⟩
  ·(skip)
   replace H := ifd H
   rcases H with ⟨-, c6b0, H⟩ | ⟨-, c6b0, H⟩
   ·have H' := Aside0.mk H
    clear H
    go_wp2
    go_meet
    case rel => exact ⟨_, (true), (by rfl), H', ⟨by omega⟩, ⟨bh HB.out⟩⟩
   ·replace H := ifd H
    rcases H with ⟨-, c7b0, H⟩ | ⟨-, c7b0, H⟩
    ·have H' := Aside0.mk H
     clear H
     go_wp2
     go_meet
     case rel => exact ⟨_, (true), (by rfl), H', ⟨by omega⟩, ⟨bh HB.out⟩⟩
    ·have H' := Aside0.mk H
     clear H
     go_wp2
     go_meet
     case rel => exact ⟨_, (decide (a1 > 65536)), (by rfl), H', ⟨by omega⟩, ⟨bh HB.out⟩⟩
 case rest =>
  clear HC4
  obtain ⟨kq, x24_3, rfl, HA, HJ3, HB⟩ := hcut
  cases kq with
  | zero => exact absurd HA.out (by simp [pack_Take.j0])
  | succ kj3 =>
   have H := HA.out
   clear HA
   simp only [pack_Take.j0] at H
   replace H := ifb H
   rcases H with ⟨rfl, H⟩ | ⟨rfl, H⟩
   ·simp only [Option.some.injEq, Prod.mk.injEq] at H
    obtain ⟨rfl, rfl⟩ := H
    go_wp2
    go_ret2
    exact ⟨_, er, nl, bh HB.out⟩
   ·replace H := bd H
    obtain ⟨t159, A9, H⟩ := H
    replace H := ife H
    rcases H with ⟨-, c10b0, c10b1, H⟩ | ⟨c10, c10b0, c10b1, H⟩
    ·have HC11 := Aside0.mk H
     clear H
     go_upto_region 6 with (((with_reducible refine gate_callee (f := 64) rfl ?_); refine gL 29 Tryz.func64 #[.int .i64 a1, .int .i64 a2] ?_; (with_reducible refine (pack_Bytes.calls a1 a2 t159 _ A9.out).mono ?_); rintro e w' ⟨rfl, ⟨nd, rfl⟩⟩; refine ⟨_, rfl, ?_⟩))
     go_cut [46] (fun v46 wc => ∃ (kq : Nat) (x46_10 : Bool), v46 = .bool x46_10 ∧ Aside0 (pack_Take.j1 kq a0 a1 a2 x46_10 = some (r1, r2)) ∧ Aside0 (kq ≤ kj3) ∧ Aside0 (Below w.heap.size w wc))
     case first =>
      have H := HC11.out
      clear HC11
      replace H := ifd H
      rcases H with ⟨-, c12b0, H⟩ | ⟨-, c12b0, H⟩
      ·(skip)
       obtain ⟨ji13, hji13⟩ : ∃ j_ : Int, (wrap64 ((a0.size : Int) - 1)) = j_ := ⟨_, rfl⟩
       replace H : (if 0 ≤ (ji13) then (if (ji13) < (a0.size : Int) then (if 0 ≤ (Go.bits .and .i64 (wrap64 (a1 * a2)) 7) then (pack_Take.j1 kj3 a0 a1 a2 (decide ((shr .u8 (bt a0 (ji13)) (Go.bits .and .i64 (wrap64 (a1 * a2)) 7)) > 0))) else (none)) else (none)) else (none)) = some (r1, r2) := by (rw [hji13] at H; exact H)
       have hji13w : (IntKind.i64.wrap ((a0.size : Int) - 1)) = ji13 := (i64_w _).trans hji13
       replace H := ifn H
       obtain ⟨-, c14b0, H⟩ := H
       replace H := ifn H
       obtain ⟨-, c15b0, H⟩ := H
       obtain ⟨ji17, hji17⟩ : ∃ j_ : Int, (Go.bits .and .i64 (wrap64 (a1 * a2)) 7) = j_ := ⟨_, rfl⟩
       replace H : (if 0 ≤ (ji17) then (pack_Take.j1 kj3 a0 a1 a2 (decide ((shr .u8 (bt a0 (ji13)) (ji17)) > 0))) else (none)) = some (r1, r2) := by (rw [hji17] at H; exact H)
       (rw [hji17] at c12b0)
       replace H := ifn H
       obtain ⟨c18, -, H⟩ := H
       have c18b0 := eq_true c18
       have c18b1 : decide (0 ≤ (ji17)) = true := decide_eq_true c18
       clear c18
       obtain ⟨ji19, hji19⟩ : ∃ j_ : Int, (shr .u8 (bt a0 (ji13)) (ji17)) = j_ := ⟨_, rfl⟩
       replace H : (pack_Take.j1 kj3 a0 a1 a2 (decide ((ji19) > 0))) = some (r1, r2) := by (rw [hji19] at H; exact H)
       have hji19_ : ((bt a0 (ji13)) / 2 ^ min (ji17).toNat 8) = ji19 := hji19
       have hji19z : (ji17) ≤ 8 → ((bt a0 (ji13)) / 2 ^ (ji17).toNat) = ji19 := shr_small hji19
       have H' := Aside0.mk H
       clear H
       have p16 : 0 ≤ ((ji13) : Int) := ad
       have q16 : (ji13) < (a0.size : Int) := ad
       have hx16 := bt_at a0 (ji13)
       replace p16 := eq_true p16
       replace q16 := eq_true q16
       go_wp2
       go_meet
       case rel => exact ⟨_, (decide ((ji19) > 0)), (by rfl), (by exact H'), ⟨by have := HJ3.out; omega⟩, ⟨bh HB.out⟩⟩
      ·(skip)
       have H' := Aside0.mk H
       clear H
       go_wp2
       go_meet
       case rel => exact ⟨_, (false), (by rfl), H', ⟨by have := HJ3.out; omega⟩, ⟨bh HB.out⟩⟩
     case rest =>
      clear HC11 c10b0 c10b1
      obtain ⟨kq, x46_10, rfl, HA, HJ10, HB⟩ := hcut
      cases kq with
      | zero => exact absurd HA.out (by simp [pack_Take.j1])
      | succ kj10 =>
       have H := HA.out
       clear HA
       simp only [pack_Take.j1] at H
       replace H := ifb H
       rcases H with ⟨rfl, H⟩ | ⟨rfl, H⟩
       ·simp only [Option.some.injEq, Prod.mk.injEq] at H
        obtain ⟨rfl, rfl⟩ := H
        go_wp2
        go_ret2
        exact ⟨_, er, nl, bh HB.out⟩
       ·replace H := ifn H
        obtain ⟨c21, -, H⟩ := H
        have c21b0 := eq_true c21
        have c21b1 : decide (0 ≤ a1) = true := decide_eq_true c21
        clear c21
        replace H := ifn H
        obtain ⟨c22, -, H⟩ := H
        have c22b0 := eq_true c22
        have c22b1 : decide ((a1 : Int).toNat ≤ 35184372088832) = true := decide_eq_true c22
        clear c22
        obtain ⟨y160, hy160⟩ : ∃ y_ : List Int, y_ = (List.replicate (a1 : Int).toNat 0) := ⟨_, rfl⟩
        replace H : (pack_Take.l0 kj10 a0 a2 y160 a1 0) = some (r1, r2) := by (rw [hy160]; with_reducible exact H)
        have Ny160 := Aside0.mk hy160
        clear hy160
        have H' := Aside0.mk H
        clear H
        go_wp2_with (((with_reducible refine gate_dst (N := 48) rfl ?_); ((refine gate_guard (by rfl) ?_; dsimp only)); refine Kd.R_make (Kd.int .i64) _ 3 rfl (N := 48) rfl 23 _ _ rfl a1 rfl rfl Tryz.underlying23 (.int .i64 0) 8 info3 rfl (by decide) (by omega) 0 (ok := fun _ => True) (okp := fun _ => True) rfl (fun _ hk => hk) trivial (of_decide_eq_true (by assumption)) (Nat.le_trans (Nat.mul_le_mul_right _ (of_decide_eq_true (by assumption) : a1.toNat ≤ 35184372088832)) (by omega)) (Below.refl _ _) (Nat.le_refl _) ?_; intro v161 w23 ho24 hb hg_ hnew_; clear hg_ hnew_; (rw [← Ny160.out] at ho24); have HO162 := Aside0.mk (Kd.R_lower ho24 (below_size (bh HB.out))); replace HB := bsa HB hb; clear hb ho24))
        go_loopg [50] kj10 (fun kq v50 w' => ∃ (x9_3 : List Int) (x50_3 : Int), v50 = .int .i64 x50_3 ∧ Aside0 (pack_Take.l0 kq a0 a2 x9_3 a1 x50_3 = some (r1, r2)) ∧ Aside0 (kq ≤ kj10) ∧ Aside0 (Kd.R (Kd.int .i64) 3 w' w.heap.size (fun _ => True) v161 x9_3) ∧ Aside0 (Below w.heap.size w w'))
        case atStart => exact ⟨(y160), (0), (by rfl), H', ⟨Nat.le_refl _⟩, ⟨by exact HO162.out⟩, ⟨bh HB.out⟩⟩
        case round =>
         clear H' c21b0 c21b1 c22b0 c22b1
         obtain ⟨x9_3, x50_3, rfl, HA, HK3, HO_9, HB⟩ := hrel
         cases gk with
         | zero => exact absurd HA.out (by simp [pack_Take.l0])
         | succ k3 =>
          have H := HA.out
          clear HA
          simp only [pack_Take.l0] at H
          replace H := ifd H
          rcases H with ⟨-, c25b0, H⟩ | ⟨-, c25b0, H⟩
          ·replace H := bd H
           obtain ⟨t163, A26, H⟩ := H
           replace H := ifn H
           obtain ⟨-, c27b0, H⟩ := H
           replace H := ifn H
           obtain ⟨-, c28b0, H⟩ := H
           obtain ⟨y164, hy164⟩ : ∃ y_ : List Int, y_ = (x9_3.set (x50_3 : Int).toNat t163) := ⟨_, rfl⟩
           replace H : (pack_Take.l0 k3 a0 a2 y164 a1 (wrap64 (x50_3 + 1))) = some (r1, r2) := by (rw [hy164]; with_reducible exact H)
           have Ny164 := Aside0.mk hy164
           clear hy164
           have H' := Aside0.mk H
           clear H
           go_wp2_with (first | ((with_reducible refine gate_callee (f := 65) rfl ?_); refine gL 58 Tryz.func65 #[.string a0, .int .i64 x50_3, .int .i64 a2] ?_; (with_reducible refine (pack_word.calls k3 a0 x50_3 a2 t163 _ A26.out).mono ?_); rintro e w30 ⟨rfl, hb⟩; refine ⟨_, rfl, ?_⟩; replace HO_9 := rba HO_9 hb; replace HB := bsa HB hb; clear hb; have p29 : 0 ≤ (x50_3 : Int) := ad; have q29 : (x50_3 : Int) < ((x9_3.length : Int) : Int) := ad; obtain ⟨go29, co29, eo29, gb29, gl29, cl29, HG29⟩ := Kd.R_form HO_9.out (by omega); (cases eo29); have GB29 := Aside0.mk gb29; have GG29 := Aside0.mk HG29; clear gb29 gl29 HG29; obtain ⟨hx29_0, hf29_0⟩ := Kd.R_celln 0 HO_9.out (x50_3 : Int) p29 q29; replace p29 := eq_true p29; replace q29 := eq_true q29; obtain ⟨hy31_, hz31_⟩ := Kd.R_celln 0 HO_9.out (x50_3 : Int) (of_decide_eq_true (by assumption)) (of_decide_eq_true (by assumption)); have HP31 := Kd.R_putg HO_9.out (x50_3 : Int) t163) | ((with_reducible refine gate_store (t := 3) (p := 59) rfl ?_); refine stE 3 59 (w30.setCell ⟨go29, (x50_3 : Int).toNat, none⟩ (.int .i64 t163)) ?_; intro w32 hw; have hg : w30.grownBy w32 (some go29) := (by rw [hw]; exact HP31.2); have hp_ : Kd.R (Kd.int .i64) 3 w32 w.heap.size (fun _ => True) (.slice (some ⟨go29, 0, none⟩) x9_3.length co29) y164 := (by rw [hw, Ny164.out]; exact HP31.1); clear HP31; replace HO_9 := Aside0.mk (hp_); replace HB := Aside0.mk ((by rw [hw]; exact below_set (HB.out) GB29.out : Below w.heap.size w w32)); clear hg hw hp_))
           go_roundg k3
           case measure => have := HJ3.out; have := HJ10.out; have := HK3.out; omega
           case rel => exact ⟨(y164), (wrap64 (x50_3 + 1)), (by rfl), H', ⟨by have := HJ3.out; have := HJ10.out; have := HK3.out; omega⟩, ⟨by exact HO_9.out⟩, ⟨bh HB.out⟩⟩
          ·simp only [Option.some.injEq, Prod.mk.injEq] at H
           obtain ⟨rfl, rfl⟩ := H
           go_wp2
           go_ret2
           exact ⟨_, er, by exact HO_9.out, bh HB.out⟩
    ·simp only [Option.some.injEq, Prod.mk.injEq] at H
     obtain ⟨rfl, rfl⟩ := H
     go_wp2_with (((with_reducible refine gate_callee (f := 64) rfl ?_); refine gL 29 Tryz.func64 #[.int .i64 a1, .int .i64 a2] ?_; (with_reducible refine (pack_Bytes.calls a1 a2 t159 _ A9.out).mono ?_); rintro e w' ⟨rfl, ⟨nd, rfl⟩⟩; refine ⟨_, rfl, ?_⟩))
     go_ret2
     exact ⟨_, er, nl, bh HB.out⟩
end Go.Proofs.YtfohecpfenegkaaGreat.Print
end
section
namespace Go.Proofs.YtfohecpfenegkaaGreat.Print
open Go.RowKit Go.Proofs.YtfohecpfenegkaaGreatW.PrintWords Go.Proofs.YtfohecpfenegkaaGreatW.PrintLast Go.Proofs.YtfohecpfenegkaaGreatW.PrintMore
attribute [local go_sem] max2_int min2_int max_two min_two max_three min_three max_four min_four   -- for this text's walks alone
set_option linter.unusedVariables false
set_option linter.unusedSimpArgs false
/-! ### slices_Index_bool_bool: function 67 -/
def slices_Index_bool_bool.l0 : Nat → List Bool → Bool → Int → Int → Option (Int)
 | 0, _, _, _, _ => none
 | k + 1, x0, x1, x7, x8 => if x8 < x7 then (if 0 ≤ x8 then (if x8 < (x0.length : Int) then (if (x1 == (rdOf false x0 x8)) = true then (some x8) else (slices_Index_bool_bool.l0 k x0 x1 x7 (wrap64 (x8 + 1)))) else (none)) else (none)) else (some (-1))
def slices_Index_bool_bool.f (k : Nat) (l0 : List Bool) (a1 : Bool) : Option (Int) := slices_Index_bool_bool.l0 k l0 a1 (l0.length : Int) 0
theorem slices_Index_bool_bool.l0_succ (k) (a0) (a1) (a2) (a3) : type_of% (@slices_Index_bool_bool.l0.eq_2 a0 a1 a2 a3 k) := slices_Index_bool_bool.l0.eq_2 a0 a1 a2 a3 k
theorem slices_Index_bool_bool.mono_l : ∀ k, (∀ y0 y1 y2 y3, LeO (slices_Index_bool_bool.l0 k y0 y1 y2 y3) (slices_Index_bool_bool.l0 (k + 1) y0 y1 y2 y3))
 | 0 => fun _ _ _ _ r h => by simp [slices_Index_bool_bool.l0] at h
 | k + 1 => by
  have ih0 := slices_Index_bool_bool.mono_l k
  ·intro y0 y1 y2 y3
   unfold slices_Index_bool_bool.l0
   repeat' first | (with_reducible exact ih0 _ _ _ _) | (with_reducible exact LeO.refl _) | (with_reducible refine LeO.ite ?_ ?_)
theorem slices_Index_bool_bool.mono : ∀ a0 a1 k, LeO (slices_Index_bool_bool.f k a0 a1) (slices_Index_bool_bool.f (k + 1) a0 a1) := by
 intro a0 a1 k
 have ih0 := slices_Index_bool_bool.mono_l k
 unfold slices_Index_bool_bool.f
 repeat' (with_reducible exact ih0 _ _ _ _)
set_option maxHeartbeats 8000000 in
set_option maxRecDepth 100000 in
theorem slices_Index_bool_bool.calls (k : Nat) (A0 : Option Addr) (c0 : Nat) (l0 : List Bool) (a1 : Bool) (r : Int) (w : World) (hr0 : Kd.C Kd.bool w A0 l0.length l0) (hc0 : l0.length ≤ c0) (h : slices_Index_bool_bool.f k l0 a1 = some r) :
  Calls Tryz.prog 67 #[.slice A0 l0.length c0, .bool a1] w fun e w' => e = .returned (.int .i64 r) ∧ Drawn0 w w' := by
 have HR0 := Aside0.mk hr0
 have HC0 := Aside0.mk hc0
 clear hr0 hc0
 have H := h
 clear h
 unfold slices_Index_bool_bool.f at H
 have H' := Aside0.mk H
 clear H
 go_enter Tryz.func67, Tryz.ntmps67
 go_wp2
 go_loopg [8] k (fun kq v8 w' => ∃ (x8_1 : Int), v8 = .int .i64 x8_1 ∧ Aside0 (slices_Index_bool_bool.l0 kq l0 a1 (l0.length : Int) x8_1 = some r) ∧ Aside0 (kq ≤ k) ∧ Drawn0 w w')
 case atStart => exact ⟨(0), (by rfl), H', ⟨Nat.le_refl _⟩, by repeat (exact Drawn0.refl _)⟩
 case round =>
  clear H'
  obtain ⟨x8_1, rfl, HA, HK1, ⟨m1, rfl⟩⟩ := hrel
  cases gk with
  | zero => exact absurd HA.out (by simp [slices_Index_bool_bool.l0])
  | succ k1 =>
   have H := HA.out
   clear HA
   simp only [slices_Index_bool_bool.l0] at H
   replace H := ifd H
   rcases H with ⟨-, c3b0, H⟩ | ⟨-, c3b0, H⟩
   ·replace H := ifn H
    obtain ⟨-, c4b0, H⟩ := H
    replace H := ifn H
    obtain ⟨-, c5b0, H⟩ := H
    replace H := ifd H
    rcases H with ⟨c6, -, H⟩ | ⟨c6, -, H⟩
    ·have c6b0 : (a1 == (rdOf false l0 x8_1)) = true := c6
     ((have c6b1 : decide (a1 = (rdOf false l0 x8_1)) = true := by simpa using c6))
     ((have c6b2 : (a1 == (rdOf false l0 x8_1)) = true := by simpa using c6))
     clear c6
     obtain rfl := Option.some.inj H
     have p165 : 0 ≤ (x8_1 : Int) := ad
     have q165 : x8_1 < (l0.length : Int) := ad
     obtain ⟨ad165, e165, hx165_0⟩ := Kd.at_bool HR0.out x8_1 p165 q165
     cases e165
     replace p165 := eq_true p165
     replace q165 := eq_true q165
     go_wp2
     go_ret
     exact ⟨by rfl, by repeat (first | exact Drawn0.refl _ | apply Drawn0.step)⟩
    ·have c6b0 : (a1 == (rdOf false l0 x8_1)) = false := by simpa using c6
     ((have c6b1 : decide (a1 = (rdOf false l0 x8_1)) = false := by simpa using c6))
     ((have c6b2 : (a1 == (rdOf false l0 x8_1)) = false := by simpa using c6))
     ((have c6b3 : ¬ (a1 = (rdOf false l0 x8_1)) := by simpa using c6))
     clear c6
     have H' := Aside0.mk H
     clear H
     have p165 : 0 ≤ (x8_1 : Int) := ad
     have q165 : x8_1 < (l0.length : Int) := ad
     obtain ⟨ad165, e165, hx165_0⟩ := Kd.at_bool HR0.out x8_1 p165 q165
     cases e165
     replace p165 := eq_true p165
     replace q165 := eq_true q165
     go_wp2
     go_roundg k1
     case measure => have := HK1.out; omega
     case rel => exact ⟨(wrap64 (x8_1 + 1)), (by rfl), H', ⟨by have := HK1.out; omega⟩, by repeat (first | exact Drawn0.refl _ | apply Drawn0.step)⟩
   ·obtain rfl := Option.some.inj H
    go_wp2
    go_ret
    exact ⟨by rfl, by repeat (first | exact Drawn0.refl _ | apply Drawn0.step)⟩
/-! ### slices_Contains_bool_bool: function 41 -/
def slices_Contains_bool_bool.f (k : Nat) (l0 : List Bool) (a1 : Bool) : Option (Bool) := (slices_Index_bool_bool.f k l0 a1).bind fun t166 => (some (decide (t166 ≥ 0)))
theorem slices_Contains_bool_bool.mono : ∀ a0 a1 k, LeO (slices_Contains_bool_bool.f k a0 a1) (slices_Contains_bool_bool.f (k + 1) a0 a1) := by
 intro a0 a1 k
 unfold slices_Contains_bool_bool.f
 repeat' first | (with_reducible exact slices_Index_bool_bool.mono _ _ _) | (with_reducible exact LeO.refl _) | (with_reducible refine LeO.bind ?_ (fun _ => ?_))
set_option maxHeartbeats 8000000 in
set_option maxRecDepth 100000 in
theorem slices_Contains_bool_bool.calls (k : Nat) (A0 : Option Addr) (c0 : Nat) (l0 : List Bool) (a1 : Bool) (r : Bool) (w : World) (hr0 : Kd.C Kd.bool w A0 l0.length l0) (hc0 : l0.length ≤ c0) (h : slices_Contains_bool_bool.f k l0 a1 = some r) :
  Calls Tryz.prog 41 #[.slice A0 l0.length c0, .bool a1] w fun e w' => e = .returned (.bool r) ∧ Drawn0 w w' := by
 have HR0 := Aside0.mk hr0
 have HC0 := Aside0.mk hc0
 clear hr0 hc0
 have H := h
 clear h
 unfold slices_Contains_bool_bool.f at H
 replace H := bd H
 obtain ⟨t166, A3, H⟩ := H
 obtain rfl := Option.some.inj H
 go_enter Tryz.func41, Tryz.ntmps41
 go_wp2_with (((with_reducible refine gate_callee (f := 67) rfl ?_); refine gL 7 Tryz.func67 #[.slice A0 l0.length c0, .bool a1] ?_; (with_reducible refine (slices_Index_bool_bool.calls k _ _ l0 a1 t166 _ ?side1 ?side2 A3.out).mono ?_); (case side1 => exact cx HR0.out); (case side2 => exact HC0.out); rintro e w' ⟨rfl, ⟨nd, rfl⟩⟩; refine ⟨_, rfl, ?_⟩))
 go_ret
 exact ⟨by rfl, by repeat (first | exact Drawn0.refl _ | apply Drawn0.step)⟩
end Go.Proofs.YtfohecpfenegkaaGreat.Print
end
section
namespace Go.Proofs.YtfohecpfenegkaaGreat.Print
open Go.RowKit Go.Proofs.YtfohecpfenegkaaGreatW.PrintWords Go.Proofs.YtfohecpfenegkaaGreatW.PrintLast Go.Proofs.YtfohecpfenegkaaGreatW.PrintMore
attribute [local go_sem] max2_int min2_int max_two min_two max_three min_three max_four min_four   -- for this text's walks alone
set_option linter.unusedVariables false
set_option linter.unusedSimpArgs false
/-! ### dict_take_int_fn17: function 16 -/
mutual
def dict_take_int_fn17.j0 : Nat → ByteArray → Int → Bool → Option (List Int × List Int × Int)
 | 0, _, _, _ => none
 | k + 1, x0, x1, x25 => if x25 = true then (some (([] : List Int), ([] : List Int), 1)) else (if x1 = 0 then (if x0.toList = ([] : List UInt8) then (some (([] : List Int), ([] : List Int), 0)) else (some (([] : List Int), ([] : List Int), 20))) else ((vint_Take.f k x0).bind fun bt167 => (if bt167.2.2 = 0 then (if bt167.1 < 1 then (dict_take_int_fn17.j1 k x0 x1 bt167.1 bt167.2.1 true) else (dict_take_int_fn17.j1 k x0 x1 bt167.1 bt167.2.1 (decide (bt167.1 > x1)))) else (dict_take_int_fn17.j1 k x0 x1 bt167.1 bt167.2.1 true))))
def dict_take_int_fn17.j1 : Nat → ByteArray → Int → Int → Int → Bool → Option (List Int × List Int × Int)
 | 0, _, _, _, _, _ => none
 | k + 1, x0, x1, x9, x10, x46 => if x46 = true then (some (([] : List Int), ([] : List Int), 20)) else (dict_take_int_fn17.l0 k x0 x1 x9 x10 ([] : List Int) x9 0)
def dict_take_int_fn17.l0 : Nat → ByteArray → Int → Int → Int → List Int → Int → Int → Option (List Int × List Int × Int)
 | 0, _, _, _, _, _, _, _ => none
 | k + 1, x0, x1, x9, x10, x12, x47, x48 => if x48 < x47 then (if 0 ≤ x10 then (if x10 ≤ (x0.size : Int) then ((dict_TakeInts_1.f k (x0.extract (x10 : Int).toNat x0.size)).bind fun bt170 => (if bt170.2 = 0 then (some (([] : List Int), ([] : List Int), 20)) else (if x48 > 0 then (if 0 ≤ (wrap64 (x48 - 1)) then (if (wrap64 (x48 - 1)) < (x12.length : Int) then (if bt170.1 ≤ (rd x12 (wrap64 (x48 - 1))) then (some (([] : List Int), ([] : List Int), 20)) else (if x12.length < 17592186044416 then (dict_take_int_fn17.l0 k x0 x1 x9 (wrap64 (x10 + bt170.2)) (x12 ++ [bt170.1]) x47 (wrap64 (x48 + 1))) else (none))) else (none)) else (none)) else (if x12.length < 17592186044416 then (dict_take_int_fn17.l0 k x0 x1 x9 (wrap64 (x10 + bt170.2)) (x12 ++ [bt170.1]) x47 (wrap64 (x48 + 1))) else (none))))) else (none)) else (none)) else (if 0 ≤ x10 then (if x10 ≤ (x0.size : Int) then ((pack_Width.f k (([wrap64 (x9 - 1)] : List Int))).bind fun t182 => ((pack_Take.f k (x0.extract (x10 : Int).toNat x0.size) x1 t182).bind fun bt183 => (if bt183.2 = 0 then (if 0 ≤ x9 then (if (x9 : Int).toNat ≤ 281474976710656 then (dict_take_int_fn17.l1 k x9 x12 bt183.1 (List.replicate (x9 : Int).toNat false) bt183.1 (bt183.1.length : Int) 0) else (none)) else (none)) else (some (([] : List Int), ([] : List Int), 20))))) else (none)) else (none))
def dict_take_int_fn17.l1 : Nat → Int → List Int → List Int → List Bool → List Int → Int → Int → Option (List Int × List Int × Int)
 | 0, _, _, _, _, _, _, _ => none
 | k + 1, x9, x12, x16, x17, x98, x99, x100 => if x100 < x99 then (if 0 ≤ x100 then (if x100 < (x98.length : Int) then (if (rd x98 x100) < 0 then (some (([] : List Int), ([] : List Int), 20)) else (if (rd x98 x100) ≥ x9 then (some (([] : List Int), ([] : List Int), 20)) else (if 0 ≤ (rd x98 x100) then (if (rd x98 x100) < (x17.length : Int) then (dict_take_int_fn17.l1 k x9 x12 x16 (x17.set ((rd x98 x100) : Int).toNat true) x98 x99 (wrap64 (x100 + 1))) else (none)) else (none)))) else (none)) else (none)) else ((slices_Contains_bool_bool.f k x17 false).bind fun t192 => (if t192 = true then (some (([] : List Int), ([] : List Int), 20)) else (some (x12, x16, 0))))
end
def dict_take_int_fn17.f (k : Nat) (a0 : ByteArray) (a1 : Int)  : Option (List Int × List Int × Int) := if a1 < 0 then (dict_take_int_fn17.j0 k a0 a1 true) else (dict_take_int_fn17.j0 k a0 a1 (decide (a1 > 65536)))
theorem dict_take_int_fn17.j0_succ (k) (a0) (a1) (a2) : type_of% (@dict_take_int_fn17.j0.eq_2 a0 a1 a2 k) := dict_take_int_fn17.j0.eq_2 a0 a1 a2 k
theorem dict_take_int_fn17.j1_succ (k) (a0) (a1) (a2) (a3) (a4) : type_of% (@dict_take_int_fn17.j1.eq_2 a0 a1 a2 a3 a4 k) := dict_take_int_fn17.j1.eq_2 a0 a1 a2 a3 a4 k
theorem dict_take_int_fn17.l0_succ (k) (a0) (a1) (a2) (a3) (a4) (a5) (a6) : type_of% (@dict_take_int_fn17.l0.eq_2 a0 a1 a2 a3 a4 a5 a6 k) := dict_take_int_fn17.l0.eq_2 a0 a1 a2 a3 a4 a5 a6 k
theorem dict_take_int_fn17.l1_succ (k) (a0) (a1) (a2) (a3) (a4) (a5) (a6) : type_of% (@dict_take_int_fn17.l1.eq_2 a0 a1 a2 a3 a4 a5 a6 k) := dict_take_int_fn17.l1.eq_2 a0 a1 a2 a3 a4 a5 a6 k
theorem dict_take_int_fn17.mono_l : ∀ k, (∀ y0 y1 y2, LeO (dict_take_int_fn17.j0 k y0 y1 y2) (dict_take_int_fn17.j0 (k + 1) y0 y1 y2)) ∧ (∀ y0 y1 y2 y3 y4, LeO (dict_take_int_fn17.j1 k y0 y1 y2 y3 y4) (dict_take_int_fn17.j1 (k + 1) y0 y1 y2 y3 y4)) ∧ (∀ y0 y1 y2 y3 y4 y5 y6, LeO (dict_take_int_fn17.l0 k y0 y1 y2 y3 y4 y5 y6) (dict_take_int_fn17.l0 (k + 1) y0 y1 y2 y3 y4 y5 y6)) ∧ (∀ y0 y1 y2 y3 y4 y5 y6, LeO (dict_take_int_fn17.l1 k y0 y1 y2 y3 y4 y5 y6) (dict_take_int_fn17.l1 (k + 1) y0 y1 y2 y3 y4 y5 y6))
 | 0 => ⟨fun _ _ _ r h => by simp [dict_take_int_fn17.j0] at h, fun _ _ _ _ _ r h => by simp [dict_take_int_fn17.j1] at h, fun _ _ _ _ _ _ _ r h => by simp [dict_take_int_fn17.l0] at h, fun _ _ _ _ _ _ _ r h => by simp [dict_take_int_fn17.l1] at h⟩
 | k + 1 => by
  obtain ⟨ih0, ih1, ih2, ih3⟩ := dict_take_int_fn17.mono_l k
  refine ⟨?_, ?_, ?_, ?_⟩
  ·intro y0 y1 y2
   unfold dict_take_int_fn17.j0
   repeat' first | (with_reducible exact ih1 _ _ _ _ _) | (with_reducible exact vint_Take.mono _ _) | (with_reducible exact LeO.refl _) | (with_reducible refine LeO.ite ?_ ?_) | (with_reducible refine LeO.bind ?_ (fun _ => ?_))
  ·intro y0 y1 y2 y3 y4
   unfold dict_take_int_fn17.j1
   repeat' first | (with_reducible exact ih2 _ _ _ _ _ _ _) | (with_reducible exact LeO.refl _) | (with_reducible refine LeO.ite ?_ ?_)
  ·intro y0 y1 y2 y3 y4 y5 y6
   unfold dict_take_int_fn17.l0
   repeat' first | (with_reducible exact ih2 _ _ _ _ _ _ _) | (with_reducible exact ih3 _ _ _ _ _ _ _) | (with_reducible exact dict_TakeInts_1.mono _ _) | (with_reducible exact pack_Take.mono _ _ _ _) | (with_reducible exact pack_Width.mono _ _) | (with_reducible exact LeO.refl _) | (with_reducible refine LeO.ite ?_ ?_) | (with_reducible refine LeO.bind ?_ (fun _ => ?_))
  ·intro y0 y1 y2 y3 y4 y5 y6
   unfold dict_take_int_fn17.l1
   repeat' first | (with_reducible exact ih3 _ _ _ _ _ _ _) | (with_reducible exact slices_Contains_bool_bool.mono _ _ _) | (with_reducible exact LeO.refl _) | (with_reducible refine LeO.ite ?_ ?_) | (with_reducible refine LeO.bind ?_ (fun _ => ?_))
theorem dict_take_int_fn17.mono : ∀ a0 a1 k, LeO (dict_take_int_fn17.f k a0 a1) (dict_take_int_fn17.f (k + 1) a0 a1) := by
 intro a0 a1 k
 obtain ⟨ih0, ih1, ih2, ih3⟩ := dict_take_int_fn17.mono_l k
 unfold dict_take_int_fn17.f
 repeat' first | (with_reducible exact ih0 _ _ _) | (with_reducible refine LeO.ite ?_ ?_)
def dict_take_int_fn17.T20 : Bool × List (List Nat × List Nat) := (true, [([], []), ([], []), ([0, 1], [0, 1]), ([], []), ([], []), ([4], [4]), ([5], [5]), ([6], [6]), ([2, 3, 7, 7], [2, 3, 7]), ([8], [8]), ([9], [9]), ([9], [9]), ([10, 8, 0, 1, 2, 3, 4, 5, 6, 7, 8, 9, 10], [10]), ([11, 12, 0, 1, 2, 3, 4, 5, 6, 7, 8, 9, 10, 11, 12], [11])])
def dict_take_int_fn17.B20 : List Nat := [0, 0, 3, 0, 0, 16, 48, 112, 255, 511, 1023, 1023, 2047, 8191]
theorem dict_take_int_fn17.tab20 : rtab .any (opsOf Tryz.f16 20) = dict_take_int_fn17.T20 := by kernel_rfl
theorem dict_take_int_fn17.bits20 : waitsOk dict_take_int_fn17.T20.2 dict_take_int_fn17.B20 = true := by kernel_rfl
set_option maxHeartbeats 8000000 in
set_option maxRecDepth 100000 in
theorem dict_take_int_fn17.calls (k : Nat) (a0 : ByteArray) (a1 : Int)  (r1 : List Int) (r2 : List Int) (r3 : Int) (w : World) (h : dict_take_int_fn17.f k a0 a1 = some (r1, r2, r3)) :
  Calls Tryz.prog 16 #[.string a0, .int .i64 a1, .func (.func 17) #[] #[]] w fun e w' => ∃ v0_ v1_ : Value, e = .returned (.tuple #[v0_, v1_, .int .i64 r3]) ∧ Kd.R (Kd.int .i64) 3 w' w.heap.size (fun k_ => some k_ ≠ (v1_ : Value).ownBlock) v0_ r1 ∧ Kd.R (Kd.int .i64) 3 w' w.heap.size (fun k_ => some k_ ≠ (v0_ : Value).ownBlock) v1_ r2 ∧ Below w.heap.size w w' := by
 have HB := Aside0.mk (Below.refl w.heap.size w)
 have H := h
 clear h
 unfold dict_take_int_fn17.f at H
 have HC4 := Aside0.mk H
 clear H
 go_enter Tryz.func16, Tryz.ntmps16
 go_upto_region 1 with (fail)
 go_cut [25] (fun v25 wc => ∃ (kq : Nat) (x25_3 : Bool), v25 = .bool x25_3 ∧ Aside0 (dict_take_int_fn17.j0 kq a0 a1 x25_3 = some (r1, r2, r3)) ∧ Aside0 (kq ≤ k) ∧ Aside0 (Below w.heap.size w wc))
 case first =>
  have H := HC4.out
  clear HC4
  replace H := ifd H
  rcases H with ⟨-, c5b0, H⟩ | ⟨-, c5b0, H⟩
  ·(skip)
   have H' := Aside0.mk H
   clear H
   go_wp2
   go_meet
   case rel => exact ⟨_, (true), (by rfl), H', ⟨by omega⟩, ⟨bh HB.out⟩⟩
  ·(skip)
   have H' := Aside0.mk H
   clear H
   go_wp2
   go_meet
   case rel => exact ⟨_, (decide (a1 > 65536)), (by rfl), H', ⟨by omega⟩, ⟨bh HB.out⟩⟩
 case rest =>
  clear HC4
  obtain ⟨kq, x25_3, rfl, HA, HJ3, HB⟩ := hcut
  cases kq with
  | zero => exact absurd HA.out (by simp [dict_take_int_fn17.j0])
  | succ kj3 =>
   have H := HA.out
   clear HA
   simp only [dict_take_int_fn17.j0] at H
   replace H := ifb H
   rcases H with ⟨rfl, H⟩ | ⟨rfl, H⟩
   ·simp only [Option.some.injEq, Prod.mk.injEq] at H
    obtain ⟨rfl, rfl, rfl⟩ := H
    go_wp2
    go_ret3
    exact ⟨_, _, er, nl, nl, bh HB.out⟩
   ·replace H := ife H
    rcases H with ⟨-, c7b0, c7b1, H⟩ | ⟨c7, c7b0, c7b1, H⟩
    ·replace H := ife H
     rcases H with ⟨-, c8b0, c8b1, H⟩ | ⟨c8, c8b0, c8b1, H⟩
     ·simp only [Option.some.injEq, Prod.mk.injEq] at H
      obtain ⟨rfl, rfl, rfl⟩ := H
      go_wp2
      go_ret3
      exact ⟨_, _, er, nl, nl, bh HB.out⟩
     ·simp only [Option.some.injEq, Prod.mk.injEq] at H
      obtain ⟨rfl, rfl, rfl⟩ := H
      go_wp2
      go_ret3
      exact ⟨_, _, er, nl, nl, bh HB.out⟩
    ·replace H := bd H
     obtain ⟨⟨t167, t168, t169⟩, A9, H⟩ := H
     dsimp only at H
     have HC10 := Aside0.mk H
     clear H
     go_upto_region 8 with (((with_reducible refine gate_callee (f := 18) rfl ?_); refine gL 32 Tryz.func18 #[.string a0] ?_; (with_reducible refine (vint_Take.calls kj3 a0 t167 t168 t169 _ A9.out).mono ?_); rintro e w11 ⟨rfl, hb⟩; refine ⟨_, rfl, ?_⟩; replace HB := bsa HB hb; clear hb))
     go_cut [46] (fun v46 wc => ∃ (kq : Nat) (x46_9 : Bool), v46 = .bool x46_9 ∧ Aside0 (dict_take_int_fn17.j1 kq a0 a1 t167 t168 x46_9 = some (r1, r2, r3)) ∧ Aside0 (kq ≤ kj3) ∧ Aside0 (Below w.heap.size w wc))
     case first =>
      have H := HC10.out
      clear HC10
      replace H := ife H
      rcases H with ⟨-, c12b0, c12b1, H⟩ | ⟨c12, c12b0, c12b1, H⟩
      ·(skip)
       replace H := ifd H
       rcases H with ⟨-, c13b0, H⟩ | ⟨-, c13b0, H⟩
       ·have H' := Aside0.mk H
        clear H
        go_wp2
        go_meet
        case rel => exact ⟨_, (true), (by rfl), H', ⟨by have := HJ3.out; omega⟩, ⟨bh HB.out⟩⟩
       ·have H' := Aside0.mk H
        clear H
        go_wp2
        go_meet
        case rel => exact ⟨_, (decide (t167 > a1)), (by rfl), H', ⟨by have := HJ3.out; omega⟩, ⟨bh HB.out⟩⟩
      ·(skip)
       have H' := Aside0.mk H
       clear H
       go_wp2
       go_meet
       case rel => exact ⟨_, (true), (by rfl), H', ⟨by have := HJ3.out; omega⟩, ⟨bh HB.out⟩⟩
     case rest =>
      clear HC10 c7 c7b0 c7b1
      obtain ⟨kq, x46_9, rfl, HA, HJ9, HB⟩ := hcut
      cases kq with
      | zero => exact absurd HA.out (by simp [dict_take_int_fn17.j1])
      | succ kj9 =>
       have H := HA.out
       clear HA
       simp only [dict_take_int_fn17.j1] at H
       replace H := ifb H
       rcases H with ⟨rfl, H⟩ | ⟨rfl, H⟩
       ·simp only [Option.some.injEq, Prod.mk.injEq] at H
        obtain ⟨rfl, rfl, rfl⟩ := H
        go_wp2
        go_ret3
        exact ⟨_, _, er, nl, nl, bh HB.out⟩
       ·have H' := Aside0.mk H
        clear H
        go_wp2
        go_loopg [10, 12, 48] kj9 (fun kq v10 v12 v48 w' => ∃ (x10_3 : Int) (x12_3 : List Int) (x48_3 : Int), v10 = .int .i64 x10_3 ∧ v48 = .int .i64 x48_3 ∧ Aside0 (dict_take_int_fn17.l0 kq a0 a1 t167 x10_3 x12_3 t167 x48_3 = some (r1, r2, r3)) ∧ Aside0 (kq ≤ kj9) ∧ Aside0 (Kd.R (Kd.int .i64) 3 w' w.heap.size (fun _ => True) v12 x12_3) ∧ Aside0 (Below w.heap.size w w'))
        case atStart => exact ⟨(t168), (([] : List Int)), (0), (by rfl), (by rfl), H', ⟨Nat.le_refl _⟩, ⟨nl⟩, ⟨bh HB.out⟩⟩
        case round =>
         clear H'
         obtain ⟨x10_3, x12_3, x48_3, rfl, rfl, HA, HK3, HO_12, HB⟩ := hrel
         cases gk with
         | zero => exact absurd HA.out (by simp [dict_take_int_fn17.l0])
         | succ k3 =>
          have H := HA.out
          clear HA
          simp only [dict_take_int_fn17.l0] at H
          replace H := ifd H
          rcases H with ⟨-, c15b0, H⟩ | ⟨-, c15b0, H⟩
          ·replace H := ifn H
           obtain ⟨c16, -, H⟩ := H
           have c16b0 := eq_true c16
           have c16b1 : decide (0 ≤ x10_3) = true := decide_eq_true c16
           clear c16
           replace H := ifn H
           obtain ⟨c17, -, H⟩ := H
           have c17b0 := eq_true c17
           have c17b1 : decide (x10_3 ≤ (a0.size : Int)) = true := decide_eq_true c17
           clear c17
           replace H := bd H
           obtain ⟨⟨t170, t171⟩, A18, H⟩ := H
           dsimp only at H
           replace H := ife H
           rcases H with ⟨-, c19b0, c19b1, H⟩ | ⟨c19, c19b0, c19b1, H⟩
           ·simp only [Option.some.injEq, Prod.mk.injEq] at H
            obtain ⟨rfl, rfl, rfl⟩ := H
            go_wp2_with (((with_reducible refine gate_list ?_); refine gate_value rfl ?_; refine goesV_ (some 56) rfl rfl Tryz.func17 (by kernel_rfl) rfl #[.string (a0.extract (x10_3 : Int).toNat a0.size)] rfl (by rfl) (by (simp only [List.map_toArray, List.map_cons, List.map_nil]); rfl) ?_; (with_reducible refine (dict_TakeInts_1.calls k3 (a0.extract (x10_3 : Int).toNat a0.size) t170 t171 _ A18.out).mono ?_); rintro e w20 ⟨rfl, hb⟩; refine ⟨_, rfl, ?_⟩; replace HO_12 := rba HO_12 hb; replace HB := bsa HB hb; clear hb))
            go_ret3
            exact ⟨_, _, er, nl, nl, bh HB.out⟩
           ·replace H := ifd H
            rcases H with ⟨-, c21b0, H⟩ | ⟨-, c21b0, H⟩
            ·obtain ⟨ji22, hji22⟩ : ∃ j_ : Int, (wrap64 (x48_3 - 1)) = j_ := ⟨_, rfl⟩
             replace H : (if 0 ≤ (ji22) then (if (ji22) < (x12_3.length : Int) then (if t170 ≤ (rd x12_3 (ji22)) then (some (([] : List Int), ([] : List Int), 20)) else (if x12_3.length < 17592186044416 then (dict_take_int_fn17.l0 k3 a0 a1 t167 (wrap64 (x10_3 + t171)) (x12_3 ++ [t170]) t167 (wrap64 (x48_3 + 1))) else (none))) else (none)) else (none)) = some (r1, r2, r3) := by (rw [hji22] at H; exact H)
             have hji22w : (IntKind.i64.wrap (x48_3 - 1)) = ji22 := (i64_w _).trans hji22
             replace H := ifn H
             obtain ⟨-, c23b0, H⟩ := H
             replace H := ifn H
             obtain ⟨-, c24b0, H⟩ := H
             replace H := ifd H
             rcases H with ⟨-, c25b0, H⟩ | ⟨-, c25b0, H⟩
             ·simp only [Option.some.injEq, Prod.mk.injEq] at H
              obtain ⟨rfl, rfl, rfl⟩ := H
              go_wp2_with (((with_reducible refine gate_list ?_); refine gate_value rfl ?_; refine goesV_ (some 56) rfl rfl Tryz.func17 (by kernel_rfl) rfl #[.string (a0.extract (x10_3 : Int).toNat a0.size)] rfl (by rfl) (by (simp only [List.map_toArray, List.map_cons, List.map_nil]); rfl) ?_; (with_reducible refine (dict_TakeInts_1.calls k3 (a0.extract (x10_3 : Int).toNat a0.size) t170 t171 _ A18.out).mono ?_); rintro e w26 ⟨rfl, hb⟩; refine ⟨_, rfl, ?_⟩; replace HO_12 := rba HO_12 hb; replace HB := bsa HB hb; clear hb; obtain ⟨Ao27, co27, eo27⟩ := Kd.R_slice HO_12.out; subst eo27; have p172 : 0 ≤ ((ji22) : Int) := ad; have q172 : (ji22) < (x12_3.length : Int) := ad; obtain ⟨ad172, e172, hx172_0⟩ := Kd.at_int (Kd.R_reads' HO_12.out).2.2 (ji22) p172 q172; cases e172; replace p172 := eq_true p172; replace q172 := eq_true q172))
              go_ret3
              exact ⟨_, _, by rfl, nl, nl, bh HB.out⟩
             ·replace H := ifn H
              obtain ⟨c28, -, H⟩ := H
              have LMc28 := Aside0.mk c28
              clear c28
              obtain ⟨y173, hy173⟩ : ∃ y_ : List Int, y_ = (x12_3 ++ [t170]) := ⟨_, rfl⟩
              replace H : (dict_take_int_fn17.l0 k3 a0 a1 t167 (wrap64 (x10_3 + t171)) y173 t167 (wrap64 (x48_3 + 1))) = some (r1, r2, r3) := by (rw [hy173]; with_reducible exact H)
              have Ny173 := Aside0.mk hy173
              clear hy173
              have H' := Aside0.mk H
              clear H
              go_wp2_with (first | ((with_reducible refine gate_list ?_); refine gate_value rfl ?_; refine goesV_ (some 56) rfl rfl Tryz.func17 (by kernel_rfl) rfl #[.string (a0.extract (x10_3 : Int).toNat a0.size)] rfl (by rfl) (by (simp only [List.map_toArray, List.map_cons, List.map_nil]); rfl) ?_; (with_reducible refine (dict_TakeInts_1.calls k3 (a0.extract (x10_3 : Int).toNat a0.size) t170 t171 _ A18.out).mono ?_); rintro e w29 ⟨rfl, hb⟩; refine ⟨_, rfl, ?_⟩; replace HO_12 := rba HO_12 hb; replace HB := bsa HB hb; clear hb; obtain ⟨Ao30, co30, eo30⟩ := Kd.R_slice HO_12.out; subst eo30; have p172 : 0 ≤ ((ji22) : Int) := ad; have q172 : (ji22) < (x12_3.length : Int) := ad; obtain ⟨ad172, e172, hx172_0⟩ := Kd.at_int (Kd.R_reads' HO_12.out).2.2 (ji22) p172 q172; cases e172; replace p172 := eq_true p172; replace q172 := eq_true q172) | ((with_reducible refine gate_builtin (b := .append) (xs := #[.tmp 74, .tmp 76]) rfl ?_); at_builtin; refine Kd.R_append (Kd.int .i64) (w0 := w) w.heap.size rfl (.tmp 74) (.tmp 76) 23 3 (.int .i64 0) 8 rfl Tryz.underlying23 info3 rfl (by decide) (by omega) (.slice (some ad172) x12_3.length co30) x12_3 t170 [.int .i64 t170] (fun _ => True) (fun _ => False) rfl rfl ?aP (fun _ hk => hk.elim) ?aF ?aO ?aB ?aS ?aL ?_; (case aP => exact rfl); (case aB => exact (bh HB.out)); (case aF => exact (fun _ _ => trivial)); (case aO => exact (rx HO_12.out)); (case aS => exact (below_size (bh HB.out))); (case aL => have := LMc28.out; omega); intro v174 w31 ho hb hg hat; rw [← Ny173.out] at ho; have n0_ := Aside0.mk (hb); have n1_ := Aside0.mk (ho); clear HB HO_12; have HB := n0_; have HO175 := n1_; clear n0_ n1_ ho hb hg hat))
              go_roundg k3
              case measure => have := HJ3.out; have := HJ9.out; have := HK3.out; omega
              case rel => exact ⟨(wrap64 (x10_3 + t171)), (y173), (wrap64 (x48_3 + 1)), (by rfl), (by rfl), (by exact H'), ⟨by have := HJ3.out; have := HJ9.out; have := HK3.out; omega⟩, ⟨by exact HO175.out⟩, ⟨bh HB.out⟩⟩
            ·replace H := ifn H
             obtain ⟨c32, -, H⟩ := H
             have LMc32 := Aside0.mk c32
             clear c32
             obtain ⟨y176, hy176⟩ : ∃ y_ : List Int, y_ = (x12_3 ++ [t170]) := ⟨_, rfl⟩
             replace H : (dict_take_int_fn17.l0 k3 a0 a1 t167 (wrap64 (x10_3 + t171)) y176 t167 (wrap64 (x48_3 + 1))) = some (r1, r2, r3) := by (rw [hy176]; with_reducible exact H)
             have Ny176 := Aside0.mk hy176
             clear hy176
             have H' := Aside0.mk H
             clear H
             go_wp2_with (first | ((with_reducible refine gate_list ?_); refine gate_value rfl ?_; refine goesV_ (some 56) rfl rfl Tryz.func17 (by kernel_rfl) rfl #[.string (a0.extract (x10_3 : Int).toNat a0.size)] rfl (by rfl) (by (simp only [List.map_toArray, List.map_cons, List.map_nil]); rfl) ?_; (with_reducible refine (dict_TakeInts_1.calls k3 (a0.extract (x10_3 : Int).toNat a0.size) t170 t171 _ A18.out).mono ?_); rintro e w33 ⟨rfl, hb⟩; refine ⟨_, rfl, ?_⟩; replace HO_12 := rba HO_12 hb; replace HB := bsa HB hb; clear hb) | ((with_reducible refine gate_builtin (b := .append) (xs := #[.tmp 74, .tmp 76]) rfl ?_); at_builtin; refine Kd.R_append (Kd.int .i64) (w0 := w) w.heap.size rfl (.tmp 74) (.tmp 76) 23 3 (.int .i64 0) 8 rfl Tryz.underlying23 info3 rfl (by decide) (by omega) u12 x12_3 t170 [.int .i64 t170] (fun _ => True) (fun _ => False) rfl rfl ?aP (fun _ hk => hk.elim) ?aF ?aO ?aB ?aS ?aL ?_; (case aP => exact rfl); (case aB => exact (bh HB.out)); (case aF => exact (fun _ _ => trivial)); (case aO => exact (rx HO_12.out)); (case aS => exact (below_size (bh HB.out))); (case aL => have := LMc32.out; omega); intro v177 w34 ho hb hg hat; rw [← Ny176.out] at ho; have n0_ := Aside0.mk (hb); have n1_ := Aside0.mk (ho); clear HB HO_12; have HB := n0_; have HO178 := n1_; clear n0_ n1_ ho hb hg hat))
             go_roundg k3
             case measure => have := HJ3.out; have := HJ9.out; have := HK3.out; omega
             case rel => exact ⟨(wrap64 (x10_3 + t171)), (y176), (wrap64 (x48_3 + 1)), (by rfl), (by rfl), H', ⟨by have := HJ3.out; have := HJ9.out; have := HK3.out; omega⟩, ⟨by exact HO178.out⟩, ⟨bh HB.out⟩⟩
          ·replace H := ifn H
           obtain ⟨c35, -, H⟩ := H
           have c35b0 := eq_true c35
           have c35b1 : decide (0 ≤ x10_3) = true := decide_eq_true c35
           clear c35
           replace H := ifn H
           obtain ⟨c36, -, H⟩ := H
           have c36b0 := eq_true c36
           have c36b1 : decide (x10_3 ≤ (a0.size : Int)) = true := decide_eq_true c36
           clear c36
           obtain ⟨y179, hy179⟩ : ∃ y_ : List Int, y_ = (([wrap64 (t167 - 1)] : List Int)) := ⟨_, rfl⟩
           replace H : ((pack_Width.f k3 y179).bind fun t182 => ((pack_Take.f k3 (a0.extract (x10_3 : Int).toNat a0.size) a1 t182).bind fun bt183 => (if bt183.2 = 0 then (if 0 ≤ t167 then (if (t167 : Int).toNat ≤ 281474976710656 then (dict_take_int_fn17.l1 k3 t167 x12_3 bt183.1 (List.replicate (t167 : Int).toNat false) bt183.1 (bt183.1.length : Int) 0) else (none)) else (none)) else (some (([] : List Int), ([] : List Int), 20))))) = some (r1, r2, r3) := by (rw [hy179]; with_reducible exact H)
           have Ny179 := Aside0.mk hy179
           clear hy179
           replace H := bd H
           obtain ⟨t182, A37, H⟩ := H
           replace H := bd H
           obtain ⟨⟨t183, t184⟩, A38, H⟩ := H
           dsimp only at H
           replace H := ife H
           rcases H with ⟨-, c39b0, c39b1, H⟩ | ⟨c39, c39b0, c39b1, H⟩
           ·replace H := ifn H
            obtain ⟨c40, -, H⟩ := H
            have c40b0 := eq_true c40
            have c40b1 : decide (0 ≤ t167) = true := decide_eq_true c40
            clear c40
            replace H := ifn H
            obtain ⟨c41, -, H⟩ := H
            have c41b0 := eq_true c41
            have c41b1 : decide ((t167 : Int).toNat ≤ 281474976710656) = true := decide_eq_true c41
            clear c41
            obtain ⟨y187, hy187⟩ : ∃ y_ : List Bool, y_ = (List.replicate (t167 : Int).toNat false) := ⟨_, rfl⟩
            replace H : (dict_take_int_fn17.l1 k3 t167 x12_3 t183 y187 t183 (t183.length : Int) 0) = some (r1, r2, r3) := by (rw [hy187]; with_reducible exact H)
            have Ny187 := Aside0.mk hy187
            clear hy187
            have H' := Aside0.mk H
            clear H
            go_wp2
            replace HO_12 := Aside0.mk (Kd.R_drew HO_12.out)
            replace HB := Aside0.mk (below_drew1 HB.out)
            refine start_ (n := 14) (S := fun w' => True) (ds := []) #[false, false, false, false, false, false, false, false, false, false, false, false, false, false] (by kernel_rfl) rfl rfl trivial (fun hHeld => ?_); refine with_tabW dict_take_int_fn17.tab20 dict_take_int_fn17.bits20 (fun HT_ HW_ => ?_)
            generalize wr.drew = w42 at HO_12 HB hHeld ⊢
            refine puA HT_ 0 83 (bv 14 1) ?_
            refine puA HT_ 1 84 (bv 14 3) ?_
            refine puA HT_ 2 85 (bv 14 7) ?_
            refine puA HT_ 3 86 (bv 14 15) ?_
            refine puA HT_ 4 87 (bv 14 31) ?_
            refine puA HT_ 5 88 (bv 14 63) ?_
            refine one_ (i := 6) (N := some 89) #[true, true, true, true, true, true, true, false, false, false, false, false, false, false] rfl rfl (one_of HT_.out (by kernel_rfl)) (by decide) (fun K hK => ?_)
            refine Kd.R_lit_step (Kd.int .i64) _ 3 ?hg (N := 89) ?hd (xs := ([wrap64 (t167 - 1)] : List Int)) (inner := [.int .i64 (wrap64 (t167 - 1))]) (ok := fun _ => True) (okp := fun _ => True) ?hr ?hp (fun _ hk => hk) trivial (Below.refl _ _) (Nat.le_refl _) (by simp) ?_; (case hd => rfl); (case hg => rfl); (case hr => (go_simp; done)); (case hp => exact (Reps.one (show Kd.M (Kd.int .i64) _ _ _ (wrap64 (t167 - 1)) [.int .i64 (wrap64 (t167 - 1))] from rfl) (Reps.none _ _)))
            intro v180 w43 ho44 hb hg_ hnew_
            clear hg_ hnew_
            (rw [← Ny179.out] at ho44)
            have HO181 := Aside0.mk (Kd.R_lower (Kd.R_new' ho44 (Kd.R_lt (rx HO_12.out))) (below_size (bh HB.out)))
            replace HO_12 := Aside0.mk (Kd.R_elder' (rx HO_12.out) (Kd.R_base ho44) hb)
            replace HB := bsa HB hb
            clear hb ho44
            obtain ⟨Ao45, co45, eo45⟩ := Kd.R_slice HO181.out
            (subst eo45)
            refine hK.out _ _ trivial (fun hHeld => ?_)
            clear hK K
            refine norm_ (a' := ?_) ?_ ?_
            rotate_left
            ·show Act.put _ (some 89) _ = _
             simp only [Act.put, List.setIfInBounds_toArray, List.set_cons_zero, List.set_cons_succ, i64_w, i32_w]
             rfl
            refine one_ (i := 7) (N := some 90) #[true, true, true, true, true, true, true, true, false, false, false, false, false, false] rfl rfl (one_of HT_.out (by kernel_rfl)) (by decide) (fun K hK => ?_)
            refine goes_ Tryz.func40 (by kernel_rfl) rfl #[.slice Ao45 y179.length co45] (by rfl) rfl rfl (by (simp only [List.map_toArray, List.map_cons, List.map_nil]); rfl) ?_
            with_reducible refine (pack_Width.calls k3 _ _ y179 t182 _ ?side1 ?side2 A37.out).mono ?_
            (case side1 => exact cx (Kd.R_reads' HO181.out).2.2)
            (case side2 => exact (Kd.R_reads' HO181.out).2.1)
            rintro e w' ⟨rfl, ⟨nd, rfl⟩⟩
            refine ⟨_, rfl, ?_⟩
            refine hK.out _ _ trivial (fun hHeld => ?_)
            clear hK K
            refine norm_ (a' := ?_) ?_ ?_
            rotate_left
            ·show Act.put _ (some 90) _ = _
             simp only [Act.put, List.setIfInBounds_toArray, List.set_cons_zero, List.set_cons_succ, i64_w, i32_w]
             rfl
            refine one_ (i := 8) (N := some 91) #[true, true, true, true, true, true, true, true, true, false, false, false, false, false] rfl rfl (one_of HT_.out (by kernel_rfl)) (by decide) (fun K hK => ?_)
            refine goes_ Tryz.func39 (by kernel_rfl) rfl #[.string (a0.extract (x10_3 : Int).toNat a0.size), .int .i64 a1, .int .i64 t182] (by rfl) rfl rfl (by (simp only [List.map_toArray, List.map_cons, List.map_nil]); rfl) ?_
            with_reducible refine (pack_Take.calls k3 (a0.extract (x10_3 : Int).toNat a0.size) a1 t182 t183 t184 _ A38.out).mono ?_
            rintro e w46 ⟨v185, rfl, ho0, hb⟩
            refine ⟨_, rfl, ?_⟩
            have HO186 := Aside0.mk (Kd.R_lower (Kd.R_new' (Kd.R_new' ho0 (Kd.R_lt (rx HO_12.out))) (Kd.R_lt (rx HO181.out))) (below_size (bh HB.out)))
            replace HO_12 := Aside0.mk (Kd.R_elder' (rx HO_12.out) (Kd.R_base ho0) hb)
            replace HO181 := Aside0.mk (Kd.R_elder' (rx HO181.out) (Kd.R_base ho0) hb)
            replace HB := bsa HB hb
            clear hb ho0
            refine hK.out _ _ trivial (fun hHeld => ?_)
            clear hK K
            refine norm_ (a' := ?_) ?_ ?_
            rotate_left
            ·show Act.put _ (some 91) _ = _
             simp only [Act.put, List.setIfInBounds_toArray, List.set_cons_zero, List.set_cons_succ, i64_w, i32_w]
             rfl
            refine puA HT_ 9 82 (bv 14 1023) ?_
            refine puA HT_ 10 92 (bv 14 2047) ?_
            refine puA HT_ 11 93 (bv 14 4095) ?_
            refine puA HT_ 12 16 (bv 14 8191) ?_
            refine puA HT_ 13 11 (bv 14 16383) ?_
            refine done_ (done_of HT_.out (by kernel_rfl)) ?_
            go_wp2_with (((with_reducible refine gate_dst (N := 97) rfl ?_); refine Kd.R_make Kd.bool _ 4 rfl (N := 97) rfl 63 _ _ rfl t167 rfl rfl Tryz.underlying63 (.bool false) 1 info4 rfl (by decide) (by omega) false (ok := fun _ => True) (okp := fun _ => True) rfl (fun _ hk => hk) trivial (of_decide_eq_true (by assumption)) (Nat.le_trans (Nat.mul_le_mul_right _ (of_decide_eq_true (by assumption) : t167.toNat ≤ 281474976710656)) (by omega)) (Below.refl _ _) (Nat.le_refl _) ?_; intro v188 w47 ho48 hb hg_ hnew_; clear hg_ hnew_; (rw [← Ny187.out] at ho48); replace HO_12 := rba HO_12 hb; replace HO181 := rba HO181 hb; replace HO186 := rba HO186 hb; have HO189 := Aside0.mk (Kd.R_lower ho48 (below_size (bh HB.out))); replace HB := bsa HB hb; clear hb ho48; obtain ⟨Ao49, co49, eo49⟩ := Kd.R_slice HO186.out; subst eo49))
            go_loopg [100] k3 (fun kq v100 w' => ∃ (x17_4 : List Bool) (x100_4 : Int), v100 = .int .i64 x100_4 ∧ Aside0 (dict_take_int_fn17.l1 kq t167 x12_3 t183 x17_4 t183 (t183.length : Int) x100_4 = some (r1, r2, r3)) ∧ Aside0 (kq ≤ k3) ∧ Aside0 (Kd.R (Kd.int .i64) 3 w' w.heap.size (fun k_ => some k_ ≠ ((.slice Ao49 t183.length co49) : Value).ownBlock ∧ some k_ ≠ ((.slice Ao49 t183.length co49) : Value).ownBlock) u12 x12_3) ∧ Aside0 (Kd.R (Kd.int .i64) 3 w' w.heap.size (fun k_ => some k_ ≠ (u12 : Value).ownBlock) (.slice Ao49 t183.length co49) t183) ∧ Aside0 (Kd.R Kd.bool 4 w' w.heap.size (fun _ => True) v188 x17_4) ∧ Aside0 (Kd.R (Kd.int .i64) 3 w' w.heap.size (fun k_ => some k_ ≠ (u12 : Value).ownBlock) (.slice Ao49 t183.length co49) t183) ∧ Aside0 (Below w.heap.size w w'))
            case atStart => exact ⟨(y187), (0), (by rfl), H', ⟨Nat.le_refl _⟩, ⟨by exact Kd.R_mono HO_12.out (fun _ hk => ⟨hk.2, hk.2⟩)⟩, ⟨by exact Kd.R_mono HO186.out (fun _ hk => hk.1.2)⟩, ⟨by exact HO189.out⟩, ⟨by exact Kd.R_mono HO186.out (fun _ hk => hk.1.2)⟩, ⟨bh HB.out⟩⟩
            case round =>
             clear H' c15b0 c35b0 c35b1 c36b0 c36b1 c39b0 c39b1 c40b0 c40b1 c41b0 c41b1
             obtain ⟨x17_4, x100_4, rfl, HA, HK4, HO_12, HO_16, HO_17, HO_98, HB⟩ := hrel
             cases gk with
             | zero => exact absurd HA.out (by simp [dict_take_int_fn17.l1])
             | succ k4 =>
              have H := HA.out
              clear HA
              simp only [dict_take_int_fn17.l1] at H
              replace H := ifd H
              rcases H with ⟨-, c50b0, H⟩ | ⟨-, c50b0, H⟩
              ·replace H := ifn H
               obtain ⟨-, c51b0, H⟩ := H
               replace H := ifn H
               obtain ⟨-, c52b0, H⟩ := H
               replace H := ifd H
               rcases H with ⟨-, c53b0, H⟩ | ⟨-, c53b0, H⟩
               ·simp only [Option.some.injEq, Prod.mk.injEq] at H
                obtain ⟨rfl, rfl, rfl⟩ := H
                have p190 : 0 ≤ (x100_4 : Int) := ad
                have q190 : x100_4 < (t183.length : Int) := ad
                obtain ⟨ad190, e190, hx190_0⟩ := Kd.at_int (Kd.R_reads' HO_98.out).2.2 x100_4 p190 q190
                cases e190
                replace p190 := eq_true p190
                replace q190 := eq_true q190
                go_wp2
                go_ret3
                exact ⟨_, _, er, nl, nl, bh HB.out⟩
               ·replace H := ifd H
                rcases H with ⟨-, c54b0, H⟩ | ⟨-, c54b0, H⟩
                ·simp only [Option.some.injEq, Prod.mk.injEq] at H
                 obtain ⟨rfl, rfl, rfl⟩ := H
                 have p190 : 0 ≤ (x100_4 : Int) := ad
                 have q190 : x100_4 < (t183.length : Int) := ad
                 obtain ⟨ad190, e190, hx190_0⟩ := Kd.at_int (Kd.R_reads' HO_98.out).2.2 x100_4 p190 q190
                 cases e190
                 replace p190 := eq_true p190
                 replace q190 := eq_true q190
                 go_wp2
                 go_ret3
                 exact ⟨_, _, er, nl, nl, bh HB.out⟩
                ·replace H := ifn H
                 obtain ⟨-, c55b0, H⟩ := H
                 replace H := ifn H
                 obtain ⟨-, c56b0, H⟩ := H
                 obtain ⟨y191, hy191⟩ : ∃ y_ : List Bool, y_ = (x17_4.set ((rd t183 x100_4) : Int).toNat true) := ⟨_, rfl⟩
                 replace H : (dict_take_int_fn17.l1 k4 t167 x12_3 t183 y191 t183 (t183.length : Int) (wrap64 (x100_4 + 1))) = some (r1, r2, r3) := by (rw [hy191]; with_reducible exact H)
                 have Ny191 := Aside0.mk hy191
                 clear hy191
                 have H' := Aside0.mk H
                 clear H
                 have p190 : 0 ≤ (x100_4 : Int) := ad
                 have q190 : x100_4 < (t183.length : Int) := ad
                 obtain ⟨ad190, e190, hx190_0⟩ := Kd.at_int (Kd.R_reads' HO_98.out).2.2 x100_4 p190 q190
                 cases e190
                 replace p190 := eq_true p190
                 replace q190 := eq_true q190
                 have p57 : 0 ≤ ((rd t183 x100_4) : Int) := ad
                 have q57 : ((rd t183 x100_4) : Int) < ((x17_4.length : Int) : Int) := ad
                 obtain ⟨go57, co57, eo57, gb57, gl57, cl57, HG57⟩ := Kd.R_form HO_17.out (by omega)
                 (cases eo57)
                 have GB57 := Aside0.mk gb57
                 have GG57 := Aside0.mk HG57
                 clear gb57 gl57 HG57
                 obtain ⟨hx57_0, hf57_0⟩ := Kd.R_celln false HO_17.out ((rd t183 x100_4) : Int) p57 q57
                 replace p57 := eq_true p57
                 replace q57 := eq_true q57
                 have HP58 := Kd.R_putg HO_17.out ((rd t183 x100_4) : Int) true
                 go_wp2_with (((with_reducible refine gate_store (t := 4) (p := 113) rfl ?_); refine stE 4 113 (wr.setCell ⟨go57, ((rd t183 x100_4) : Int).toNat, none⟩ (.bool true)) ?_; intro w59 hw; have hg : wr.grownBy w59 (some go57) := (by rw [hw]; exact HP58.2); have hp_ : Kd.R Kd.bool 4 w59 w.heap.size (fun _ => True) (.slice (some ⟨go57, 0, none⟩) x17_4.length co57) y191 := (by rw [hw, Ny191.out]; exact HP58.1); clear HP58; replace HO_12 := Aside0.mk (Kd.R_over' (v := (.slice (some ⟨go57, 0, none⟩) x17_4.length co57)) (rx HO_12.out) (Kd.R_typed HO_17.out) (by decide) hg); replace HO_16 := Aside0.mk (Kd.R_over' (v := (.slice (some ⟨go57, 0, none⟩) x17_4.length co57)) (rx HO_16.out) (Kd.R_typed HO_17.out) (by decide) hg); replace HO_98 := Aside0.mk (Kd.R_over' (v := (.slice (some ⟨go57, 0, none⟩) x17_4.length co57)) (rx HO_98.out) (Kd.R_typed HO_17.out) (by decide) hg); replace HO_17 := Aside0.mk (hp_); replace HB := Aside0.mk ((by rw [hw]; exact below_set (HB.out) GB57.out : Below w.heap.size w w59)); clear hg hw hp_))
                 go_roundg k4
                 case measure => have := HJ3.out; have := HJ9.out; have := HK3.out; have := HK4.out; omega
                 case rel => exact ⟨(y191), (wrap64 (x100_4 + 1)), (by rfl), H', ⟨by have := HJ3.out; have := HJ9.out; have := HK3.out; have := HK4.out; omega⟩, ⟨by exact HO_12.out⟩, ⟨by exact HO_16.out⟩, ⟨by exact HO_17.out⟩, ⟨by exact HO_98.out⟩, ⟨bh HB.out⟩⟩
              ·replace H := bd H
               obtain ⟨t192, A60, H⟩ := H
               replace H := ifb H
               rcases H with ⟨rfl, H⟩ | ⟨rfl, H⟩
               ·simp only [Option.some.injEq, Prod.mk.injEq] at H
                obtain ⟨rfl, rfl, rfl⟩ := H
                obtain ⟨Ao62, co62, eo62⟩ := Kd.R_slice HO_17.out
                subst eo62
                go_wp2_with (((with_reducible refine gate_callee (f := 41) rfl ?_); refine gL 116 Tryz.func41 #[.slice Ao62 x17_4.length co62, .bool false] ?_; (with_reducible refine (slices_Contains_bool_bool.calls k4 _ _ x17_4 false true _ ?side1 ?side2 A60.out).mono ?_); (case side1 => exact cx (Kd.R_reads' HO_17.out).2.2); (case side2 => exact (Kd.R_reads' HO_17.out).2.1); rintro e w' ⟨rfl, ⟨nd, rfl⟩⟩; refine ⟨_, rfl, ?_⟩))
                go_ret3
                exact ⟨_, _, er, nl, nl, bh HB.out⟩
               ·simp only [Option.some.injEq, Prod.mk.injEq] at H
                obtain ⟨rfl, rfl, rfl⟩ := H
                obtain ⟨Ao63, co63, eo63⟩ := Kd.R_slice HO_17.out
                subst eo63
                go_wp2_with (((with_reducible refine gate_callee (f := 41) rfl ?_); refine gL 116 Tryz.func41 #[.slice Ao63 x17_4.length co63, .bool false] ?_; (with_reducible refine (slices_Contains_bool_bool.calls k4 _ _ x17_4 false false _ ?side1 ?side2 A60.out).mono ?_); (case side1 => exact cx (Kd.R_reads' HO_17.out).2.2); (case side2 => exact (Kd.R_reads' HO_17.out).2.1); rintro e w' ⟨rfl, ⟨nd, rfl⟩⟩; refine ⟨_, rfl, ?_⟩))
                go_ret3
                exact ⟨_, _, er, by (with_reducible repeat (apply Kd.R_drewN)); exact Kd.R_mono HO_12.out (fun _ hk => hk.1), by (with_reducible repeat (apply Kd.R_drewN)); exact HO_16.out, bh HB.out⟩
           ·simp only [Option.some.injEq, Prod.mk.injEq] at H
            obtain ⟨rfl, rfl, rfl⟩ := H
            go_wp2
            replace HO_12 := Aside0.mk (Kd.R_drew HO_12.out)
            replace HB := Aside0.mk (below_drew1 HB.out)
            refine start_ (n := 14) (S := fun w' => True) (ds := []) #[false, false, false, false, false, false, false, false, false, false, false, false, false, false] (by kernel_rfl) rfl rfl trivial (fun hHeld => ?_); refine with_tabW dict_take_int_fn17.tab20 dict_take_int_fn17.bits20 (fun HT_ HW_ => ?_)
            generalize wr.drew = w64 at HO_12 HB hHeld ⊢
            refine puA HT_ 0 83 (bv 14 1) ?_
            refine puA HT_ 1 84 (bv 14 3) ?_
            refine puA HT_ 2 85 (bv 14 7) ?_
            refine puA HT_ 3 86 (bv 14 15) ?_
            refine puA HT_ 4 87 (bv 14 31) ?_
            refine puA HT_ 5 88 (bv 14 63) ?_
            refine one_ (i := 6) (N := some 89) #[true, true, true, true, true, true, true, false, false, false, false, false, false, false] rfl rfl (one_of HT_.out (by kernel_rfl)) (by decide) (fun K hK => ?_)
            refine Kd.R_lit_step (Kd.int .i64) _ 3 ?hg (N := 89) ?hd (xs := ([wrap64 (t167 - 1)] : List Int)) (inner := [.int .i64 (wrap64 (t167 - 1))]) (ok := fun _ => True) (okp := fun _ => True) ?hr ?hp (fun _ hk => hk) trivial (Below.refl _ _) (Nat.le_refl _) (by simp) ?_; (case hd => rfl); (case hg => rfl); (case hr => (go_simp; done)); (case hp => exact (Reps.one (show Kd.M (Kd.int .i64) _ _ _ (wrap64 (t167 - 1)) [.int .i64 (wrap64 (t167 - 1))] from rfl) (Reps.none _ _)))
            intro v180 w65 ho66 hb hg_ hnew_
            clear hg_ hnew_
            (rw [← Ny179.out] at ho66)
            have HO181 := Aside0.mk (Kd.R_lower (Kd.R_new' ho66 (Kd.R_lt (rx HO_12.out))) (below_size (bh HB.out)))
            replace HO_12 := Aside0.mk (Kd.R_elder' (rx HO_12.out) (Kd.R_base ho66) hb)
            replace HB := bsa HB hb
            clear hb ho66
            obtain ⟨Ao67, co67, eo67⟩ := Kd.R_slice HO181.out
            (subst eo67)
            refine hK.out _ _ trivial (fun hHeld => ?_)
            clear hK K
            refine norm_ (a' := ?_) ?_ ?_
            rotate_left
            ·show Act.put _ (some 89) _ = _
             simp only [Act.put, List.setIfInBounds_toArray, List.set_cons_zero, List.set_cons_succ, i64_w, i32_w]
             rfl
            refine one_ (i := 7) (N := some 90) #[true, true, true, true, true, true, true, true, false, false, false, false, false, false] rfl rfl (one_of HT_.out (by kernel_rfl)) (by decide) (fun K hK => ?_)
            refine goes_ Tryz.func40 (by kernel_rfl) rfl #[.slice Ao67 y179.length co67] (by rfl) rfl rfl (by (simp only [List.map_toArray, List.map_cons, List.map_nil]); rfl) ?_
            with_reducible refine (pack_Width.calls k3 _ _ y179 t182 _ ?side1 ?side2 A37.out).mono ?_
            (case side1 => exact cx (Kd.R_reads' HO181.out).2.2)
            (case side2 => exact (Kd.R_reads' HO181.out).2.1)
            rintro e w' ⟨rfl, ⟨nd, rfl⟩⟩
            refine ⟨_, rfl, ?_⟩
            refine hK.out _ _ trivial (fun hHeld => ?_)
            clear hK K
            refine norm_ (a' := ?_) ?_ ?_
            rotate_left
            ·show Act.put _ (some 90) _ = _
             simp only [Act.put, List.setIfInBounds_toArray, List.set_cons_zero, List.set_cons_succ, i64_w, i32_w]
             rfl
            refine one_ (i := 8) (N := some 91) #[true, true, true, true, true, true, true, true, true, false, false, false, false, false] rfl rfl (one_of HT_.out (by kernel_rfl)) (by decide) (fun K hK => ?_)
            refine goes_ Tryz.func39 (by kernel_rfl) rfl #[.string (a0.extract (x10_3 : Int).toNat a0.size), .int .i64 a1, .int .i64 t182] (by rfl) rfl rfl (by (simp only [List.map_toArray, List.map_cons, List.map_nil]); rfl) ?_
            with_reducible refine (pack_Take.calls k3 (a0.extract (x10_3 : Int).toNat a0.size) a1 t182 t183 t184 _ A38.out).mono ?_
            rintro e w68 ⟨v185, rfl, ho0, hb⟩
            refine ⟨_, rfl, ?_⟩
            have HO186 := Aside0.mk (Kd.R_lower (Kd.R_new' (Kd.R_new' ho0 (Kd.R_lt (rx HO_12.out))) (Kd.R_lt (rx HO181.out))) (below_size (bh HB.out)))
            replace HO_12 := Aside0.mk (Kd.R_elder' (rx HO_12.out) (Kd.R_base ho0) hb)
            replace HO181 := Aside0.mk (Kd.R_elder' (rx HO181.out) (Kd.R_base ho0) hb)
            replace HB := bsa HB hb
            clear hb ho0
            refine hK.out _ _ trivial (fun hHeld => ?_)
            clear hK K
            refine norm_ (a' := ?_) ?_ ?_
            rotate_left
            ·show Act.put _ (some 91) _ = _
             simp only [Act.put, List.setIfInBounds_toArray, List.set_cons_zero, List.set_cons_succ, i64_w, i32_w]
             rfl
            refine puA HT_ 9 82 (bv 14 1023) ?_
            refine puA HT_ 10 92 (bv 14 2047) ?_
            refine puA HT_ 11 93 (bv 14 4095) ?_
            refine puA HT_ 12 16 (bv 14 8191) ?_
            refine puA HT_ 13 11 (bv 14 16383) ?_
            refine done_ (done_of HT_.out (by kernel_rfl)) ?_
            go_wp2
            go_ret3
            exact ⟨_, _, er, nl, nl, bh HB.out⟩
end Go.Proofs.YtfohecpfenegkaaGreat.Print
end
