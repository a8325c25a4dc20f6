-- Functions and laws: texts of the session's own and of the kit's print program, joined; what nothing names is left out.
import Derived.Test.YtjgmdjieandemaaGreatProg
import Derived.Below
import Derived.Deep.Draws
import Derived.Deep.AppendLies
import Derived.Maps.AppendAt
import Derived.OwnWalk
import Derived.Laws.BytesArg
import Derived.Laws.MakeOwn
import Derived.Laws.OwnMore
import Derived.Deep.OwnRows
import Derived.Tactics
import Derived.Lib.ConvBytes
import Derived.Laws.Slices
import Derived.WalkKit
import Derived.KernelRfl
import Derived.RowKit3
import Derived.Deep.LoopGhost
import Derived.Deep.QuietTactic
import Derived.BigQuiet
import Derived.WideLaws
import Derived.Deep.DeepCutAuto
import Derived.Deep.CutBlock
import Derived.Deep.RegionHeld3
import Derived.Laws.Rows
import Derived.Lib.AppendStr
import Derived.ArgAppend
import Derived.Laws.IdiomCopy
import Derived.OrdersHeld
import Derived.Laws.BitsLemmas
import Derived.RowKit
import Derived.Test.YtjgmdjieandemaaGreatKW
import Derived.Ground.NamesProg
import Derived.Lib.SortBridge
import Derived.Shelf.Slices.In.SortNone
import Derived.Shelf.Sort.Plain
import Derived.Sort.EveryDepth
import Derived.Sort.OwnSortedInts
import Derived.Test.YtjgmdjieandemaaGreatKR
section
namespace Go.Proofs.YtjgmdjieandemaaGreat.Print
open Go.RowKit Go.Proofs.YtjgmdjieandemaaGreatW.PrintWords Go.Proofs.YtjgmdjieandemaaGreatW.PrintLast Go.Proofs.YtjgmdjieandemaaGreatW.PrintMore
attribute [local go_sem] max2_int min2_int max_two min_two max_three min_three max_four min_four   -- for this text's walks alone
set_option linter.unusedVariables false
set_option linter.unusedSimpArgs false
def errW : Option Int → Value
  | none => .nilIface
  | some c => .iface 0 (.int .i64 c)
theorem errW_none : errW none = .nilIface := rfl
theorem errW_some (c : Int) : errW (some c) = .iface 0 (.int .i64 c) := rfl
theorem info3 : (Tryz.prog.info? 3).map (fun i => (i.zero, i.size, i.bytes)) = some (some (.int .i64 0), 1, 8) := by kernel_rfl
theorem info64 : (Tryz.prog.info? 64).map (fun i => (i.zero, i.size, i.bytes)) = some (some (.agg #[(.int .i64 0), (.int .i64 0)]), 2, 16) := by kernel_rfl
/-! #### struct type 64 -/
structure S64 where
  f0 : Int
  f1 : Int
def z64 : S64 := ⟨(0 : Int), (0 : Int)⟩
def k64 : Kd S64 := Kd.iso (Kd.pair (Kd.int .i64) (Kd.int .i64)) (fun x : S64 => (x.f0, x.f1))
theorem k64_open {w : World} {x : S64} {cs : List Value} (h : k64.K w x cs) : cs = [.int .i64 x.f0, .int .i64 x.f1] := by
 obtain ⟨_, _, rfl, rfl, rfl⟩ := h
 exact rfl
theorem k64_openM {w : World} {base : Nat} {ok : Nat → Prop} {x : S64} {cs : List Value} (h : k64.M w base ok x cs) : cs = [.int .i64 x.f0, .int .i64 x.f1] := by
 obtain ⟨_, _, rfl, rfl, rfl⟩ := h
 exact rfl
theorem k64_mkM (w : World) (base : Nat) (ok : Nat → Prop) (x : S64)  : k64.M w base ok x [.int .i64 x.f0, .int .i64 x.f1] := ⟨[.int .i64 x.f0], [.int .i64 x.f1], rfl, rfl, rfl⟩
def rd_T64 (xs : List S64) (i : Int) : S64 := xs.getD i.toNat z64
theorem at_T64 {w : World} {A : Option Addr} {n : Nat} {xs : List S64} (h : Kd.C k64 w A n xs) (i : Int) (h0 : 0 ≤ i) (h1 : i < n) : ∃ ad , A = some ad ∧ w.cell? (ad.add (i.toNat * 2)) = some (.int .i64 (rd_T64 xs i).f0) ∧ w.cell? ⟨(ad.add (i.toNat * 2)).block, (ad.add (i.toNat * 2)).off + 1, none⟩ = some (.int .i64 (rd_T64 xs i).f1) := by
 obtain ⟨ad, c, e, _, hK, hc0⟩ := Kd.C_get h z64 i h0 h1
 have hc : ∀ j u, c[j]? = some u → w.cell? (ad.add (i.toNat * 2 + j)) = some u := hc0
 obtain rfl := k64_open hK
 exact ⟨ad, e, hc 0 _ rfl, by rw [← add_field _ _ 1 (by omega)]; exact hc 1 _ rfl⟩
/-! #### struct type 27 -/
/-! #### struct type 98 -/
structure S98 where
  f0 : S64
  f1 : Bool
  f2 : Bool
end Go.Proofs.YtjgmdjieandemaaGreat.Print
end
section
namespace Go.Proofs.YtjgmdjieandemaaGreat.Print
open Go.RowKit Go.Proofs.YtjgmdjieandemaaGreatW.PrintWords Go.Proofs.YtjgmdjieandemaaGreatW.PrintLast Go.Proofs.YtjgmdjieandemaaGreatW.PrintMore
attribute [local go_sem] max2_int min2_int max_two min_two max_three min_three max_four min_four   -- for this text's walks alone
set_option linter.unusedVariables false
set_option linter.unusedSimpArgs false
/-! ### peristyleref14_May: function 21 -/
def peristyleref14_May.l0 : Nat → List (S64) → Int → Option (Bool)
 | 0, _, _ => none
 | k + 1, x0, x3 => if x3 < (x0.length : Int) then (if 0 ≤ x3 then (if ((rd_T64 x0 x3).f0) < 0 then (some false) else (if ((rd_T64 x0 x3).f0) ≥ ((rd_T64 x0 x3).f1) then (some false) else (if ((rd_T64 x0 x3).f1) > 65536 then (some false) else (if x3 > 0 then (if 0 ≤ (wrap64 (x3 - 1)) then (if (wrap64 (x3 - 1)) < (x0.length : Int) then (if ((rd_T64 x0 x3).f0) ≤ ((rd_T64 x0 (wrap64 (x3 - 1))).f1) then (some false) else (peristyleref14_May.l0 k x0 (wrap64 (x3 + 1)))) else (none)) else (none)) else (peristyleref14_May.l0 k x0 (wrap64 (x3 + 1))))))) else (none)) else (some true)
def peristyleref14_May.f (k : Nat) (l0 : List (S64)) : Option (Bool) := peristyleref14_May.l0 k l0 0
theorem peristyleref14_May.l0_succ (k) (a0) (a1) : type_of% (@peristyleref14_May.l0.eq_2 a0 a1 k) := peristyleref14_May.l0.eq_2 a0 a1 k
set_option maxHeartbeats 8000000 in
set_option maxRecDepth 100000 in
theorem peristyleref14_May.calls (k : Nat) (A0 : Option Addr) (c0 : Nat) (l0 : List (S64)) (r : Bool) (w : World) (hr0 : Kd.C k64 w A0 l0.length l0) (hc0 : l0.length ≤ c0) (h : peristyleref14_May.f k l0 = some r) :
  Calls Tryz.prog 21 #[.slice A0 l0.length c0] w fun e w' => e = .returned (.bool r) ∧ Drawn0 w w' := by
 have HR0 := Aside0.mk hr0
 have HC0 := Aside0.mk hc0
 clear hr0 hc0
 have H := h
 clear h
 unfold peristyleref14_May.f at H
 have H' := Aside0.mk H
 clear H
 go_enter Tryz.func21, Tryz.ntmps21
 go_wp2
 repeat (go_quiet (fail))
 go_loopg [3] k (fun kq v3 w' => ∃ (x3_1 : Int), v3 = .int .i64 x3_1 ∧ Aside0 (peristyleref14_May.l0 kq l0 x3_1 = some r) ∧ Aside0 (kq ≤ k) ∧ Drawn0 w w')
 case atStart => exact ⟨(0), (by rfl), H', ⟨Nat.le_refl _⟩, by repeat (exact Drawn0.refl _)⟩
 case round =>
  clear H'
  obtain ⟨x3_1, rfl, HA, HK1, ⟨m1, rfl⟩⟩ := hrel
  cases gk with
  | zero => exact absurd HA.out (by simp [peristyleref14_May.l0])
  | succ k1 =>
   have H := HA.out
   clear HA
   simp only [peristyleref14_May.l0] at H
   replace H := ifd H
   rcases H with ⟨-, c2b0, H⟩ | ⟨-, c2b0, H⟩
   ·replace H := ifn H
    obtain ⟨-, c3b0, H⟩ := H
    replace H := ifd H
    rcases H with ⟨-, c4b0, H⟩ | ⟨-, c4b0, H⟩
    ·obtain rfl := Option.some.inj H
     have p101 : 0 ≤ (x3_1 : Int) := ad
     have q101 : x3_1 < (l0.length : Int) := ad
     obtain ⟨ad101, e101, hx101_0, hx101_1⟩ := at_T64 HR0.out x3_1 p101 q101
     cases e101
     replace p101 := eq_true p101
     replace q101 := eq_true q101
     go_wp2
     repeat (go_quiet (fail); go_wp2)
     go_ret
     exact ⟨by rfl, by repeat (first | exact Drawn0.refl _ | apply Drawn0.step)⟩
    ·replace H := ifd H
     rcases H with ⟨-, c5b0, H⟩ | ⟨-, c5b0, H⟩
     ·obtain rfl := Option.some.inj H
      have p101 : 0 ≤ (x3_1 : Int) := ad
      have q101 : x3_1 < (l0.length : Int) := ad
      obtain ⟨ad101, e101, hx101_0, hx101_1⟩ := at_T64 HR0.out x3_1 p101 q101
      cases e101
      replace p101 := eq_true p101
      replace q101 := eq_true q101
      have p102 : 0 ≤ (x3_1 : Int) := ad
      have q102 : x3_1 < (l0.length : Int) := ad
      obtain ⟨ad102, e102, hx102_0, hx102_1⟩ := at_T64 HR0.out x3_1 p102 q102
      obtain rfl : ad101 = ad102 := (by injection e102)
      replace p102 := eq_true p102
      replace q102 := eq_true q102
      have p103 : 0 ≤ (x3_1 : Int) := ad
      have q103 : x3_1 < (l0.length : Int) := ad
      obtain ⟨ad103, e103, hx103_0, hx103_1⟩ := at_T64 HR0.out x3_1 p103 q103
      obtain rfl : ad101 = ad103 := (by injection e103)
      replace p103 := eq_true p103
      replace q103 := eq_true q103
      go_wp2
      repeat (go_quiet (fail); go_wp2)
      go_ret
      exact ⟨by rfl, by repeat (first | exact Drawn0.refl _ | apply Drawn0.step)⟩
     ·replace H := ifd H
      rcases H with ⟨-, c6b0, H⟩ | ⟨-, c6b0, H⟩
      ·obtain rfl := Option.some.inj H
       have p101 : 0 ≤ (x3_1 : Int) := ad
       have q101 : x3_1 < (l0.length : Int) := ad
       obtain ⟨ad101, e101, hx101_0, hx101_1⟩ := at_T64 HR0.out x3_1 p101 q101
       cases e101
       replace p101 := eq_true p101
       replace q101 := eq_true q101
       have p102 : 0 ≤ (x3_1 : Int) := ad
       have q102 : x3_1 < (l0.length : Int) := ad
       obtain ⟨ad102, e102, hx102_0, hx102_1⟩ := at_T64 HR0.out x3_1 p102 q102
       obtain rfl : ad101 = ad102 := (by injection e102)
       replace p102 := eq_true p102
       replace q102 := eq_true q102
       have p103 : 0 ≤ (x3_1 : Int) := ad
       have q103 : x3_1 < (l0.length : Int) := ad
       obtain ⟨ad103, e103, hx103_0, hx103_1⟩ := at_T64 HR0.out x3_1 p103 q103
       obtain rfl : ad101 = ad103 := (by injection e103)
       replace p103 := eq_true p103
       replace q103 := eq_true q103
       have p104 : 0 ≤ (x3_1 : Int) := ad
       have q104 : x3_1 < (l0.length : Int) := ad
       obtain ⟨ad104, e104, hx104_0, hx104_1⟩ := at_T64 HR0.out x3_1 p104 q104
       obtain rfl : ad101 = ad104 := (by injection e104)
       replace p104 := eq_true p104
       replace q104 := eq_true q104
       go_wp2
       repeat (go_quiet (fail); go_wp2)
       go_ret
       exact ⟨by rfl, by repeat (first | exact Drawn0.refl _ | apply Drawn0.step)⟩
      ·replace H := ifd H
       rcases H with ⟨-, c7b0, H⟩ | ⟨-, c7b0, H⟩
       ·obtain ⟨ji8, hji8⟩ : ∃ j_ : Int, (wrap64 (x3_1 - 1)) = j_ := ⟨_, rfl⟩
        replace H : (if 0 ≤ (ji8) then (if (ji8) < (l0.length : Int) then (if ((rd_T64 l0 x3_1).f0) ≤ ((rd_T64 l0 (ji8)).f1) then (some false) else (peristyleref14_May.l0 k1 l0 (wrap64 (x3_1 + 1)))) else (none)) else (none)) = some r := by (rw [hji8] at H; exact H)
        have hji8w : (IntKind.i64.wrap (x3_1 - 1)) = ji8 := (i64_w _).trans hji8
        replace H := ifn H
        obtain ⟨-, c9b0, H⟩ := H
        replace H := ifn H
        obtain ⟨-, c10b0, H⟩ := H
        replace H := ifd H
        rcases H with ⟨-, c11b0, H⟩ | ⟨-, c11b0, H⟩
        ·obtain rfl := Option.some.inj H
         have p101 : 0 ≤ (x3_1 : Int) := ad
         have q101 : x3_1 < (l0.length : Int) := ad
         obtain ⟨ad101, e101, hx101_0, hx101_1⟩ := at_T64 HR0.out x3_1 p101 q101
         cases e101
         replace p101 := eq_true p101
         replace q101 := eq_true q101
         have p102 : 0 ≤ (x3_1 : Int) := ad
         have q102 : x3_1 < (l0.length : Int) := ad
         obtain ⟨ad102, e102, hx102_0, hx102_1⟩ := at_T64 HR0.out x3_1 p102 q102
         obtain rfl : ad101 = ad102 := (by injection e102)
         replace p102 := eq_true p102
         replace q102 := eq_true q102
         have p103 : 0 ≤ (x3_1 : Int) := ad
         have q103 : x3_1 < (l0.length : Int) := ad
         obtain ⟨ad103, e103, hx103_0, hx103_1⟩ := at_T64 HR0.out x3_1 p103 q103
         obtain rfl : ad101 = ad103 := (by injection e103)
         replace p103 := eq_true p103
         replace q103 := eq_true q103
         have p104 : 0 ≤ (x3_1 : Int) := ad
         have q104 : x3_1 < (l0.length : Int) := ad
         obtain ⟨ad104, e104, hx104_0, hx104_1⟩ := at_T64 HR0.out x3_1 p104 q104
         obtain rfl : ad101 = ad104 := (by injection e104)
         replace p104 := eq_true p104
         replace q104 := eq_true q104
         have p105 : 0 ≤ (x3_1 : Int) := ad
         have q105 : x3_1 < (l0.length : Int) := ad
         obtain ⟨ad105, e105, hx105_0, hx105_1⟩ := at_T64 HR0.out x3_1 p105 q105
         obtain rfl : ad101 = ad105 := (by injection e105)
         replace p105 := eq_true p105
         replace q105 := eq_true q105
         have p106 : 0 ≤ ((ji8) : Int) := ad
         have q106 : (ji8) < (l0.length : Int) := ad
         obtain ⟨ad106, e106, hx106_0, hx106_1⟩ := at_T64 HR0.out (ji8) p106 q106
         obtain rfl : ad101 = ad106 := (by injection e106)
         replace p106 := eq_true p106
         replace q106 := eq_true q106
         go_wp2
         repeat (go_quiet (fail); go_wp2)
         go_ret
         exact ⟨by rfl, by repeat (first | exact Drawn0.refl _ | apply Drawn0.step)⟩
        ·have H' := Aside0.mk H
         clear H
         have p101 : 0 ≤ (x3_1 : Int) := ad
         have q101 : x3_1 < (l0.length : Int) := ad
         obtain ⟨ad101, e101, hx101_0, hx101_1⟩ := at_T64 HR0.out x3_1 p101 q101
         cases e101
         replace p101 := eq_true p101
         replace q101 := eq_true q101
         have p102 : 0 ≤ (x3_1 : Int) := ad
         have q102 : x3_1 < (l0.length : Int) := ad
         obtain ⟨ad102, e102, hx102_0, hx102_1⟩ := at_T64 HR0.out x3_1 p102 q102
         obtain rfl : ad101 = ad102 := (by injection e102)
         replace p102 := eq_true p102
         replace q102 := eq_true q102
         have p103 : 0 ≤ (x3_1 : Int) := ad
         have q103 : x3_1 < (l0.length : Int) := ad
         obtain ⟨ad103, e103, hx103_0, hx103_1⟩ := at_T64 HR0.out x3_1 p103 q103
         obtain rfl : ad101 = ad103 := (by injection e103)
         replace p103 := eq_true p103
         replace q103 := eq_true q103
         have p104 : 0 ≤ (x3_1 : Int) := ad
         have q104 : x3_1 < (l0.length : Int) := ad
         obtain ⟨ad104, e104, hx104_0, hx104_1⟩ := at_T64 HR0.out x3_1 p104 q104
         obtain rfl : ad101 = ad104 := (by injection e104)
         replace p104 := eq_true p104
         replace q104 := eq_true q104
         have p105 : 0 ≤ (x3_1 : Int) := ad
         have q105 : x3_1 < (l0.length : Int) := ad
         obtain ⟨ad105, e105, hx105_0, hx105_1⟩ := at_T64 HR0.out x3_1 p105 q105
         obtain rfl : ad101 = ad105 := (by injection e105)
         replace p105 := eq_true p105
         replace q105 := eq_true q105
         have p106 : 0 ≤ ((ji8) : Int) := ad
         have q106 : (ji8) < (l0.length : Int) := ad
         obtain ⟨ad106, e106, hx106_0, hx106_1⟩ := at_T64 HR0.out (ji8) p106 q106
         obtain rfl : ad101 = ad106 := (by injection e106)
         replace p106 := eq_true p106
         replace q106 := eq_true q106
         go_wp2
         repeat (go_quiet (fail); go_wp2)
         go_roundg k1
         case measure => have := HK1.out; omega
         case rel => exact ⟨(wrap64 (x3_1 + 1)), (by rfl), (by exact H'), ⟨by have := HK1.out; omega⟩, by repeat (first | exact Drawn0.refl _ | apply Drawn0.step)⟩
       ·have H' := Aside0.mk H
        clear H
        have p101 : 0 ≤ (x3_1 : Int) := ad
        have q101 : x3_1 < (l0.length : Int) := ad
        obtain ⟨ad101, e101, hx101_0, hx101_1⟩ := at_T64 HR0.out x3_1 p101 q101
        cases e101
        replace p101 := eq_true p101
        replace q101 := eq_true q101
        have p102 : 0 ≤ (x3_1 : Int) := ad
        have q102 : x3_1 < (l0.length : Int) := ad
        obtain ⟨ad102, e102, hx102_0, hx102_1⟩ := at_T64 HR0.out x3_1 p102 q102
        obtain rfl : ad101 = ad102 := (by injection e102)
        replace p102 := eq_true p102
        replace q102 := eq_true q102
        have p103 : 0 ≤ (x3_1 : Int) := ad
        have q103 : x3_1 < (l0.length : Int) := ad
        obtain ⟨ad103, e103, hx103_0, hx103_1⟩ := at_T64 HR0.out x3_1 p103 q103
        obtain rfl : ad101 = ad103 := (by injection e103)
        replace p103 := eq_true p103
        replace q103 := eq_true q103
        have p104 : 0 ≤ (x3_1 : Int) := ad
        have q104 : x3_1 < (l0.length : Int) := ad
        obtain ⟨ad104, e104, hx104_0, hx104_1⟩ := at_T64 HR0.out x3_1 p104 q104
        obtain rfl : ad101 = ad104 := (by injection e104)
        replace p104 := eq_true p104
        replace q104 := eq_true q104
        go_wp2
        repeat (go_quiet (fail); go_wp2)
        go_roundg k1
        case measure => have := HK1.out; omega
        case rel => exact ⟨(wrap64 (x3_1 + 1)), (by rfl), H', ⟨by have := HK1.out; omega⟩, by repeat (first | exact Drawn0.refl _ | apply Drawn0.step)⟩
   ·obtain rfl := Option.some.inj H
    go_wp2
    repeat (go_quiet (fail))
    go_ret
    exact ⟨by rfl, by repeat (first | exact Drawn0.refl _ | apply Drawn0.step)⟩
/-! ### peristyleref14_Top: function 39 -/
def peristyleref14_Top.f (l0 : List (S64)) : Option (Int) := if (l0.length : Int) = 0 then (some 0) else (if 0 ≤ (wrap64 ((l0.length : Int) - 1)) then (if (wrap64 ((l0.length : Int) - 1)) < (l0.length : Int) then (some ((rd_T64 l0 (wrap64 ((l0.length : Int) - 1))).f1)) else (none)) else (none))
set_option maxHeartbeats 8000000 in
set_option maxRecDepth 100000 in
theorem peristyleref14_Top.calls (A0 : Option Addr) (c0 : Nat) (l0 : List (S64)) (r : Int) (w : World) (hr0 : Kd.C k64 w A0 l0.length l0) (hc0 : l0.length ≤ c0) (h : peristyleref14_Top.f l0 = some r) :
  Calls Tryz.prog 39 #[.slice A0 l0.length c0] w fun e w' => e = .returned (.int .i64 r) ∧ Drawn0 w w' := by
 have HR0 := Aside0.mk hr0
 have HC0 := Aside0.mk hc0
 clear hr0 hc0
 have H := h
 clear h
 unfold peristyleref14_Top.f at H
 replace H := ife H
 rcases H with ⟨-, c2b0, c2b1, H⟩ | ⟨c2, c2b0, c2b1, H⟩
 ·obtain rfl := Option.some.inj H
  go_enter Tryz.func39, Tryz.ntmps39
  go_wp2
  go_ret
  exact ⟨by rfl, by repeat (exact Drawn0.refl _)⟩
 ·have c2b2 : ¬ (l0 = []) := fun h_ => c2 (by rw [h_]; rfl)
  obtain ⟨ji3, hji3⟩ : ∃ j_ : Int, (wrap64 ((l0.length : Int) - 1)) = j_ := ⟨_, rfl⟩
  replace H : (if 0 ≤ (ji3) then (if (ji3) < (l0.length : Int) then (some ((rd_T64 l0 (ji3)).f1)) else (none)) else (none)) = some r := by (rw [hji3] at H; exact H)
  have hji3w : (IntKind.i64.wrap ((l0.length : Int) - 1)) = ji3 := (i64_w _).trans hji3
  replace H := ifn H
  obtain ⟨-, c4b0, H⟩ := H
  replace H := ifn H
  obtain ⟨-, c5b0, H⟩ := H
  obtain rfl := Option.some.inj H
  have p107 : 0 ≤ ((ji3) : Int) := ad
  have q107 : (ji3) < (l0.length : Int) := ad
  obtain ⟨ad107, e107, hx107_0, hx107_1⟩ := at_T64 HR0.out (ji3) p107 q107
  cases e107
  replace p107 := eq_true p107
  replace q107 := eq_true q107
  go_enter Tryz.func39, Tryz.ntmps39
  go_wp2
  go_ret
  exact ⟨by rfl, by repeat (exact Drawn0.refl _)⟩
/-! ### peristyleref14_Few: function 8 -/
def peristyleref14_Few.f (k : Nat) (l0 : List (S64)) : Option (Bool) := if (l0.length : Int) ≤ 60 then ((peristyleref14_May.f k l0).bind fun t108 => (if t108 = true then ((peristyleref14_Top.f l0).bind fun t109 => (some (decide (t109 ≤ 2048)))) else (some true))) else (some false)
set_option maxHeartbeats 8000000 in
set_option maxRecDepth 100000 in
theorem peristyleref14_Few.calls (k : Nat) (A0 : Option Addr) (c0 : Nat) (l0 : List (S64)) (r : Bool) (w : World) (hr0 : Kd.C k64 w A0 l0.length l0) (hc0 : l0.length ≤ c0) (h : peristyleref14_Few.f k l0 = some r) :
  Calls Tryz.prog 8 #[.slice A0 l0.length c0] w fun e w' => e = .returned (.bool r) ∧ Drawn0 w w' := by
 have HR0 := Aside0.mk hr0
 have HC0 := Aside0.mk hc0
 clear hr0 hc0
 have H := h
 clear h
 unfold peristyleref14_Few.f at H
 replace H := ifd H
 rcases H with ⟨c2, c2b0, H⟩ | ⟨c2, c2b0, H⟩
 ·have c2b1 : decide (l0.length ≤ 60) = true := decide_eq_true (by omega)
  clear c2
  replace H := bd H
  obtain ⟨t108, A3, H⟩ := H
  replace H := ifb H
  rcases H with ⟨rfl, H⟩ | ⟨rfl, H⟩
  ·replace H := bd H
   obtain ⟨t109, A5, H⟩ := H
   obtain rfl := Option.some.inj H
   go_enter Tryz.func8, Tryz.ntmps8
   go_wp2_with (first | (go_at_call 21; (with_reducible refine (peristyleref14_May.calls k _ _ l0 true _ ?side1 ?side2 A3.out).mono ?_); (case side1 => exact cx HR0.out); (case side2 => exact HC0.out); rintro e w' ⟨rfl, ⟨nd, rfl⟩⟩; clear A3) | (go_at_call 39; (with_reducible refine (peristyleref14_Top.calls _ _ l0 t109 _ ?side1 ?side2 A5.out).mono ?_); (case side1 => exact cx HR0.out); (case side2 => exact HC0.out); rintro e w' ⟨rfl, ⟨nd, rfl⟩⟩; clear A5))
   go_ret
   exact ⟨by rfl, by repeat (first | exact Drawn0.refl _ | apply Drawn0.step)⟩
  ·obtain rfl := Option.some.inj H
   go_enter Tryz.func8, Tryz.ntmps8
   go_wp2_with ((go_at_call 21; (with_reducible refine (peristyleref14_May.calls k _ _ l0 false _ ?side1 ?side2 A3.out).mono ?_); (case side1 => exact cx HR0.out); (case side2 => exact HC0.out); rintro e w' ⟨rfl, ⟨nd, rfl⟩⟩; clear A3))
   go_ret
   exact ⟨by rfl, by repeat (first | exact Drawn0.refl _ | apply Drawn0.step)⟩
 ·have c2b1 : decide (l0.length ≤ 60) = false := decide_eq_false (by omega)
  clear c2
  obtain rfl := Option.some.inj H
  go_enter Tryz.func8, Tryz.ntmps8
  go_wp2
  go_ret
  exact ⟨by rfl, by repeat (exact Drawn0.refl _)⟩
/-! ### span_Of_1: function 76 -/
def span_Of_1.f (a0 : Int) : Option (Bool) := if a0 < 0 then (some true) else (some (decide (a0 ≥ 65536)))
set_option maxHeartbeats 8000000 in
set_option maxRecDepth 100000 in
theorem span_Of_1.calls (a0 : Int) (r : Bool) (w : World) (h : span_Of_1.f a0 = some r) :
  Calls Tryz.prog 76 #[.int .i64 a0] w fun e w' => e = .returned (.bool r) ∧ Drawn0 w w' := by
 have H := h
 clear h
 unfold span_Of_1.f at H
 replace H := ifd H
 rcases H with ⟨-, c2b0, H⟩ | ⟨-, c2b0, H⟩
 ·obtain rfl := Option.some.inj H
  go_enter Tryz.func76, Tryz.ntmps76
  go_wp2
  go_ret
  exact ⟨by rfl, by repeat (exact Drawn0.refl _)⟩
 ·obtain rfl := Option.some.inj H
  go_enter Tryz.func76, Tryz.ntmps76
  go_wp2
  go_ret
  exact ⟨by rfl, by repeat (exact Drawn0.refl _)⟩
/-! ### slices_IndexFunc_int_int_fn76: function 104 -/
def slices_IndexFunc_int_int_fn76.l0 : Nat → List Int → Int → Int → Option (Int)
 | 0, _, _, _ => none
 | k + 1, x0, x7, x8 => if x8 < x7 then (if 0 ≤ x8 then (if x8 < (x0.length : Int) then ((span_Of_1.f (rd x0 x8)).bind fun t111 => (if t111 = true then (some x8) else (slices_IndexFunc_int_int_fn76.l0 k x0 x7 (wrap64 (x8 + 1))))) else (none)) else (none)) else (some (-1))
def slices_IndexFunc_int_int_fn76.f (k : Nat) (l0 : List Int)  : Option (Int) := slices_IndexFunc_int_int_fn76.l0 k l0 (l0.length : Int) 0
theorem slices_IndexFunc_int_int_fn76.l0_succ (k) (a0) (a1) (a2) : type_of% (@slices_IndexFunc_int_int_fn76.l0.eq_2 a0 a1 a2 k) := slices_IndexFunc_int_int_fn76.l0.eq_2 a0 a1 a2 k
set_option maxHeartbeats 8000000 in
set_option maxRecDepth 100000 in
theorem slices_IndexFunc_int_int_fn76.calls (k : Nat) (A0 : Option Addr) (c0 : Nat) (l0 : List Int)  (r : Int) (w : World) (hr0 : Kd.C (Kd.int .i64) w A0 l0.length l0) (hc0 : l0.length ≤ c0) (h : slices_IndexFunc_int_int_fn76.f k l0 = some r) :
  Calls Tryz.prog 104 #[.slice A0 l0.length c0, .func (.func 76) #[] #[]] w fun e w' => e = .returned (.int .i64 r) ∧ Below w.heap.size w w' := by
 have HR0 := Aside0.mk hr0
 have HC0 := Aside0.mk hc0
 clear hr0 hc0
 have HB := Aside0.mk (Below.refl w.heap.size w)
 have H := h
 clear h
 unfold slices_IndexFunc_int_int_fn76.f at H
 have H' := Aside0.mk H
 clear H
 go_enter Tryz.func104, Tryz.ntmps104
 go_wp2
 go_loopg [8] k (fun kq v8 w' => ∃ (x8_1 : Int), v8 = .int .i64 x8_1 ∧ Aside0 (slices_IndexFunc_int_int_fn76.l0 kq l0 (l0.length : Int) x8_1 = some r) ∧ Aside0 (kq ≤ k) ∧ Aside0 (Below w.heap.size w w'))
 case atStart => exact ⟨(0), (by rfl), H', ⟨Nat.le_refl _⟩, ⟨bh HB.out⟩⟩
 case round =>
  clear H'
  obtain ⟨x8_1, rfl, HA, HK1, HB⟩ := hrel
  cases gk with
  | zero => exact absurd HA.out (by simp [slices_IndexFunc_int_int_fn76.l0])
  | succ k1 =>
   have H := HA.out
   clear HA
   simp only [slices_IndexFunc_int_int_fn76.l0] at H
   replace H := ifd H
   rcases H with ⟨-, c3b0, H⟩ | ⟨-, c3b0, H⟩
   ·replace H := ifn H
    obtain ⟨-, c4b0, H⟩ := H
    replace H := ifn H
    obtain ⟨-, c5b0, H⟩ := H
    replace H := bd H
    obtain ⟨t111, A6, H⟩ := H
    replace H := ifb H
    rcases H with ⟨rfl, H⟩ | ⟨rfl, H⟩
    ·obtain rfl := Option.some.inj H
     have p110 : 0 ≤ (x8_1 : Int) := ad
     have q110 : x8_1 < (l0.length : Int) := ad
     obtain ⟨ad110, e110, hx110_0⟩ := Kd.at_int HR0.out x8_1 p110 q110
     cases e110
     replace hx110_0 := cb HB.out.cell hx110_0
     replace p110 := eq_true p110
     replace q110 := eq_true q110
     go_wp2_with (((with_reducible refine gate_list ?_); refine gate_value rfl ?_; refine goesV_ (some 16) rfl rfl Tryz.func76 (by kernel_rfl) rfl #[.int .i64 (rd l0 x8_1)] rfl (by rfl) (by (simp only [List.map_toArray, List.map_cons, List.map_nil]); rfl) ?_; (with_reducible refine (span_Of_1.calls (rd l0 x8_1) true _ A6.out).mono ?_); rintro e w' ⟨rfl, ⟨nd, rfl⟩⟩; refine ⟨_, rfl, ?_⟩))
     go_ret
     exact ⟨er, bh HB.out⟩
    ·have H' := Aside0.mk H
     clear H
     have p110 : 0 ≤ (x8_1 : Int) := ad
     have q110 : x8_1 < (l0.length : Int) := ad
     obtain ⟨ad110, e110, hx110_0⟩ := Kd.at_int HR0.out x8_1 p110 q110
     cases e110
     replace hx110_0 := cb HB.out.cell hx110_0
     replace p110 := eq_true p110
     replace q110 := eq_true q110
     go_wp2_with (((with_reducible refine gate_list ?_); refine gate_value rfl ?_; refine goesV_ (some 16) rfl rfl Tryz.func76 (by kernel_rfl) rfl #[.int .i64 (rd l0 x8_1)] rfl (by rfl) (by (simp only [List.map_toArray, List.map_cons, List.map_nil]); rfl) ?_; (with_reducible refine (span_Of_1.calls (rd l0 x8_1) false _ A6.out).mono ?_); rintro e w' ⟨rfl, ⟨nd, rfl⟩⟩; refine ⟨_, rfl, ?_⟩))
     go_roundg k1
     case measure => have := HK1.out; omega
     case rel => exact ⟨(wrap64 (x8_1 + 1)), (by rfl), H', ⟨by have := HK1.out; omega⟩, ⟨bh HB.out⟩⟩
   ·obtain rfl := Option.some.inj H
    go_wp2
    go_ret
    exact ⟨er, bh HB.out⟩
/-! ### slices_ContainsFunc_int_int_fn76: function 75 -/
def slices_ContainsFunc_int_int_fn76.f (k : Nat) (l0 : List Int)  : Option (Bool) := (slices_IndexFunc_int_int_fn76.f k l0).bind fun t112 => (some (decide (t112 ≥ 0)))
set_option maxHeartbeats 8000000 in
set_option maxRecDepth 100000 in
theorem slices_ContainsFunc_int_int_fn76.calls (k : Nat) (A0 : Option Addr) (c0 : Nat) (l0 : List Int)  (r : Bool) (w : World) (hr0 : Kd.C (Kd.int .i64) w A0 l0.length l0) (hc0 : l0.length ≤ c0) (h : slices_ContainsFunc_int_int_fn76.f k l0 = some r) :
  Calls Tryz.prog 75 #[.slice A0 l0.length c0, .func (.func 76) #[] #[]] w fun e w' => e = .returned (.bool r) ∧ Below w.heap.size w w' := by
 have HR0 := Aside0.mk hr0
 have HC0 := Aside0.mk hc0
 clear hr0 hc0
 have HB := Aside0.mk (Below.refl w.heap.size w)
 have H := h
 clear h
 unfold slices_ContainsFunc_int_int_fn76.f at H
 replace H := bd H
 obtain ⟨t112, A3, H⟩ := H
 obtain rfl := Option.some.inj H
 go_enter Tryz.func75, Tryz.ntmps75
 go_wp2_with (((with_reducible refine gate_callee (f := 104) rfl ?_); refine gL 7 Tryz.func104 #[.slice A0 l0.length c0, .func (.func 76) #[] #[]] ?_; (with_reducible refine (slices_IndexFunc_int_int_fn76.calls k _ _ l0  t112 _ ?side1 ?side2 A3.out).mono ?_); (case side1 => exact cx HR0.out); (case side2 => exact HC0.out); rintro e w4 ⟨rfl, hb⟩; refine ⟨_, rfl, ?_⟩; replace HB := bsa HB hb; clear hb))
 go_ret
 exact ⟨er, bh HB.out⟩
/-! ### slices_Clone_int_int: function 77 (a contract of the session's own) -/
def slices_Clone_int_int.f (l0 : List Int) : Option (List Int) := if l0.length ≤ 2000000000000 then some l0 else none
set_option maxHeartbeats 4000000 in
set_option maxRecDepth 100000 in
theorem slices_Clone_int_int.calls (A0 : Option Addr) (c0 : Nat) (l0 : List Int) (r : List Int) (w : World) (hr0 : (Kd.int .i64).C w A0 l0.length l0) (hc0 : l0.length ≤ c0) (h : slices_Clone_int_int.f l0 = some r) :
    Calls Tryz.prog 77 #[.slice A0 l0.length c0] w fun e w' => ∃ v0_ : Value, e = .returned v0_ ∧ (Kd.int .i64).R 3 w' w.heap.size (fun _ => True) v0_ r ∧ Below w.heap.size w w' := by
 have hl : l0.length ≤ 2000000000000 := by
   unfold slices_Clone_int_int.f at h
   split at h
   ·assumption
   ·exact absurd h (by simp)
 obtain rfl : l0 = r := by
   unfold slices_Clone_int_int.f at h
   rw [if_pos hl] at h
   exact Option.some.inj h
 have HR := Aside0.mk hr0
 have HC := Aside0.mk hc0
 have HL := Aside0.mk hl
 clear hr0 hc0 hl h
 go_enter Tryz.func77, Tryz.ntmps77
 rcases A0 with _ | ad
 ·have h0 : l0 = [] := by
    have := HR.out.2.2
    rcases l0 with _ | ⟨x, l⟩
    ·rfl
    ·obtain ⟨ad, he, _⟩ := this (by simp)
     exact absurd he (by simp)
  subst h0
  have hE := Go.Lib.run_eql_slice_nil_nil (P := Tryz.prog) w (t := 25) (e := 3) 0 c0 Tryz.underlying25
  go_wp2
  go_ret
  exact ⟨_, rfl, Kd.R_nil _ _ _ _ _, Below.refl _ _⟩
 ·have hE := Go.Lib.run_eql_slice_some_nil (P := Tryz.prog) w (t := 25) (e := 3) ad l0.length c0 Tryz.underlying25
  go_wp2_with (first | ((with_reducible refine gate_dst (N := 5) rfl ?_); refine Kd.R_lit (Kd.int .i64) (w0 := w) w.heap.size 3 rfl (N := 5) rfl (xs := []) (inner := []) (ok := fun _ => True) (okp := fun _ => True) (by (go_simp; done)) (Reps.none _ _) (fun _ _ => trivial) trivial (Below.refl _ _) (Nat.le_refl _) (by simp) ?_; intro v5 w1 ho5 hb hg_ hnew_; have HO5 := Aside0.mk ho5; have HB := Aside0.mk hb; clear ho5 hb hg_ hnew_; obtain ⟨Ao5, co5, eo5⟩ := Kd.R_slice HO5.out; subst eo5) | ((with_reducible refine gate_builtin (b := .append) (xs := #[.tmp 5, .tmp 6]) rfl ?_); at_builtin; refine Kd.R_append_rows (Kd.int .i64) (w0 := w) w.heap.size rfl (.tmp 5) (.tmp 6) 25 3 _ _ rfl Tryz.underlying25 info3 rfl (by decide) (by omega) _ [] l0 _ _ _ (fun _ => True) (fun _ => False) rfl rfl HO5.out (Kd.C_below HR.out HB.out) (fun _ _ h => h) (fun _ h => h.elim) (fun _ _ => trivial) HB.out (below_size HB.out) (by have := HL.out; simp; omega) ?_; intro v7 w2 ho7 hb7 hg_ hat_; have HO7 := Aside0.mk ho7; have HB7 := Aside0.mk hb7; clear ho7 hb7 hg_ hat_))
  go_ret
  exact ⟨_, rfl, by simpa using HO7.out, HB7.out⟩
/-! ### slices_Sort_int_int: function 78 (a contract of the session's own) -/
def Tryz.laysSort_ren : Go.Shelf.Ren := ⟨fun | 189 => 78 | 125 => 106 | 257 => 105 | 128 => 125 | 129 => 126 | 294 => 117 | 295 => 118 | 296 => 119 | 297 => 120 | 298 => 121 | 299 => 122 | 216 => 99 | 300 => 123 | 301 => 124 | 328 => 129 | 329 => 130 | 330 => 131 | 331 => 132 | 332 => 133 | 215 => 115 | 343 => 134 | n => n, fun | 28 => 25 | 3 => 3 | 46 => 47 | 0 => 0 | 51 => 122 | 53 => 110 | 4 => 4 | 183 => 116 | 182 => 115 | 131 => 83 | 5 => 5 | 9 => 9 | 218 => 124 | 222 => 128 | 228 => 130 | 229 => 131 | n => n, fun | n => n⟩
theorem Tryz.laysSort : Go.Proofs.Lays.n189 Tryz.prog Tryz.laysSort_ren := {
  mixed := by kernel_rfl
  f125 := Tryz.func106.trans (congrArg some (by kernel_rfl))
  f128 := Tryz.func125.trans (congrArg some (by kernel_rfl))
  f129 := Tryz.func126.trans (congrArg some (by kernel_rfl))
  f189 := Tryz.func78.trans (congrArg some (by kernel_rfl))
  f215 := Tryz.func115.trans (congrArg some (by kernel_rfl))
  f216 := Tryz.func99.trans (congrArg some (by kernel_rfl))
  f257 := Tryz.func105.trans (congrArg some (by kernel_rfl))
  f294 := Tryz.func117.trans (congrArg some (by kernel_rfl))
  f295 := Tryz.func118.trans (congrArg some (by kernel_rfl))
  f296 := Tryz.func119.trans (congrArg some (by kernel_rfl))
  f297 := Tryz.func120.trans (congrArg some (by kernel_rfl))
  f298 := Tryz.func121.trans (congrArg some (by kernel_rfl))
  f299 := Tryz.func122.trans (congrArg some (by kernel_rfl))
  f300 := Tryz.func123.trans (congrArg some (by kernel_rfl))
  f301 := Tryz.func124.trans (congrArg some (by kernel_rfl))
  f328 := Tryz.func129.trans (congrArg some (by kernel_rfl))
  f329 := Tryz.func130.trans (congrArg some (by kernel_rfl))
  f330 := Tryz.func131.trans (congrArg some (by kernel_rfl))
  f331 := Tryz.func132.trans (congrArg some (by kernel_rfl))
  f332 := Tryz.func133.trans (congrArg some (by kernel_rfl))
  f343 := Tryz.func134.trans (congrArg some (by kernel_rfl))
  t0 := Tryz.underlying0
  a0 := Tryz.isAgg0
  z0 := Tryz.sizeOf0
  v0 := Tryz.zeroValue0
  t3 := Tryz.underlying3
  a3 := Tryz.isAgg3
  z3 := Tryz.sizeOf3
  v3 := Tryz.zeroValue3
  t4 := Tryz.underlying4
  a4 := Tryz.isAgg4
  z4 := Tryz.sizeOf4
  v4 := Tryz.zeroValue4
  t5 := Tryz.underlying5
  a5 := Tryz.isAgg5
  z5 := Tryz.sizeOf5
  v5 := Tryz.zeroValue5
  t9 := Tryz.underlying9
  a9 := Tryz.isAgg9
  z9 := Tryz.sizeOf9
  v9 := Tryz.zeroValue9
  t28 := Tryz.underlying25
  a28 := Tryz.isAgg25
  z28 := Tryz.sizeOf25
  v28 := Tryz.zeroValue25
  t46 := Tryz.underlying47
  a46 := Tryz.isAgg47
  z46 := Tryz.sizeOf47
  v46 := Tryz.zeroValue47
  t51 := Tryz.underlying122
  a51 := Tryz.isAgg122
  z51 := Tryz.sizeOf122
  v51 := Tryz.zeroValue122
  t53 := Tryz.underlying110
  a53 := Tryz.isAgg110
  z53 := Tryz.sizeOf110
  v53 := Tryz.zeroValue110
  t131 := Tryz.underlying83
  a131 := Tryz.isAgg83
  z131 := Tryz.sizeOf83
  v131 := Tryz.zeroValue83
  t182 := Tryz.underlying115
  a182 := Tryz.isAgg115
  z182 := Tryz.sizeOf115
  v182 := Tryz.zeroValue115
  t183 := Tryz.underlying116
  a183 := Tryz.isAgg116
  z183 := Tryz.sizeOf116
  v183 := Tryz.zeroValue116
  t218 := Tryz.underlying124
  a218 := Tryz.isAgg124
  z218 := Tryz.sizeOf124
  v218 := Tryz.zeroValue124
  t222 := Tryz.underlying128
  a222 := Tryz.isAgg128
  z222 := Tryz.sizeOf128
  v222 := Tryz.zeroValue128
  t228 := Tryz.underlying130
  a228 := Tryz.isAgg130
  z228 := Tryz.sizeOf130
  v228 := Tryz.zeroValue130
  t229 := Tryz.underlying131
  a229 := Tryz.isAgg131
  z229 := Tryz.sizeOf131
  v229 := Tryz.zeroValue131 }
def slices_Sort_int_int.f (l0 : List Int) : Option (List Int) := if l0.length ≤ 2000000000000 then some (l0.mergeSort fun x y => decide (x ≤ y)) else none
theorem slices_Sort_int_int.calls (P0_ : Nat → Prop) (u9000_ : Value) (l0 : List Int) (r : List Int) (w0 w : World) (hB : Below w0.heap.size w0 w) (ho0 : Kd.R (Kd.int .i64) 3 w w0.heap.size P0_ u9000_ l0) (h : slices_Sort_int_int.f l0 = some r) :
    Calls Tryz.prog 78 #[u9000_] w fun e w' => e = .returned (.tuple #[]) ∧ Kd.R (Kd.int .i64) 3 w' w0.heap.size (fun k_ => (P0_ k_ ∨ w.heap.size ≤ k_)) u9000_ r ∧ Below w0.heap.size w0 w' ∧ Kept w w' (fun k_ => P0_ k_) := by
 have hl : l0.length ≤ 2000000000000 := by
   unfold slices_Sort_int_int.f at h
   split at h
   ·assumption
   ·exact absurd h (by simp)
 obtain rfl : (l0.mergeSort fun x y => decide (x ≤ y)) = r := by
   unfold slices_Sort_int_int.f at h
   rw [if_pos hl] at h
   exact Option.some.inj h
 have hown := Kd.own_of_R ho0
 have hok := ho0.1
 have hlen : (l0.mergeSort fun x y => decide (x ≤ y)).length = l0.length := List.length_mergeSort l0
 rcases hown.2 with ⟨rfl, hnil⟩ | ⟨g, cap, cur, rfl, hb, hh, hn, hcap, hsz, htk⟩
 ·have h0 : l0 = [] := by
    cases l0 with
    | nil => rfl
    | cons x l => simp at hnil
  subst h0
  refine (calls_of_every_depth fun D => AnyS.slices_Sort_int_none_alone Tryz.laysSort D none 0 w).mono ?_
  rintro e w' ⟨rfl, rfl⟩
  rw [show (([] : List Int).mergeSort fun x y => decide (x ≤ y)) = [] by simp]
  exact ⟨rfl, Kd.R_mono ho0 (fun k hk => .inl hk), hB, Kept.refl _ _⟩
 ·have hH := holds_of_blockI (ss := l0) hh (by simpa [encs] using htk)
  have hg : g < w.heap.size := (Array.getElem?_eq_some_iff.1 hh).1
  refine (Go.Proofs.Any.slices_Sort_int Tryz.laysSort g 0 cap l0 w hH hg (by omega)).mono ?_
  rintro e w' ⟨rfl, n, os, rfl⟩
  have hgr := grownBy_sortedI (w := w) (g := g) (n := n) (os := os) (l0.mergeSort fun x y => decide (x ≤ y)).toArray
  have ho := ownsRow_sortedI (n := n) (os := os) (ss := l0) hlen hb hh hn hcap hsz
  refine ⟨rfl, ?_, pw_below_grown hB (some g) hB.size hgr (fun k hk => by cases hk; exact hb), Kept.of_grown hgr (Kept.refl _ _) (fun k hk => by cases hk; exact .inl (hok g rfl))⟩
  have ho2 := ho
  rw [← hlen] at ho2
  refine Kd.R_of_own ?_ (fun k hk => .inl (hok k hk))
  rw [hlen]
  exact ho
end Go.Proofs.YtjgmdjieandemaaGreat.Print
end
section
namespace Go.Proofs.YtjgmdjieandemaaGreat.Print
open Go.RowKit Go.Proofs.YtjgmdjieandemaaGreatW.PrintWords Go.Proofs.YtjgmdjieandemaaGreatW.PrintLast Go.Proofs.YtjgmdjieandemaaGreatW.PrintMore
attribute [local go_sem] max2_int min2_int max_two min_two max_three min_three max_four min_four   -- for this text's walks alone
set_option linter.unusedVariables false
set_option linter.unusedSimpArgs false
/-! ### span_adds: function 79 -/
def span_adds.f (l0 : List (S64)) (a1_0 : Int) (a1_1 : Int) : Option ((List (S64))) := if a1_0 ≥ a1_1 then (some l0) else (if (wrap64 ((l0.length : Int) - 1)) ≥ 0 then (if 0 ≤ (wrap64 ((l0.length : Int) - 1)) then (if (wrap64 ((l0.length : Int) - 1)) < (l0.length : Int) then (if ((rd_T64 l0 (wrap64 ((l0.length : Int) - 1))).f1) ≥ a1_0 then (some (l0.set ((wrap64 ((l0.length : Int) - 1)) : Int).toNat (⟨(rd_T64 l0 (wrap64 ((l0.length : Int) - 1))).f0, mx ((rd_T64 l0 (wrap64 ((l0.length : Int) - 1))).f1) a1_1⟩ : S64))) else (if l0.length < 8796093022208 then (some (l0 ++ [(⟨a1_0, a1_1⟩ : S64)])) else (none))) else (none)) else (none)) else (if l0.length < 8796093022208 then (some (l0 ++ [(⟨a1_0, a1_1⟩ : S64)])) else (none)))
def span_adds.T4 : Bool × List (List Nat × List Nat) := (true, [([], []), ([0], [0]), ([1], [1]), ([2], [2]), ([2], [2]), ([3, 4, 2], [2, 3, 4]), ([5, 2], [2, 5]), ([6, 2], [2, 6]), ([2], [2]), ([8, 2], [2, 8]), ([7, 9, 2], [2, 7, 9]), ([2, 10], [2, 10]), ([11, 2], [11])])
def span_adds.B4 : List Nat := [0, 1, 3, 7, 7, 31, 63, 127, 7, 263, 1023, 2047, 4095]
theorem span_adds.tab4 : rtab .any (opsOf Tryz.f79 4) = span_adds.T4 := by kernel_rfl
theorem span_adds.bits4 : waitsOk span_adds.T4.2 span_adds.B4 = true := by kernel_rfl
def span_adds.T5 : Bool × List (List Nat × List Nat) := (true, [([], []), ([], []), ([], []), ([], []), ([2, 3], [2, 3]), ([4], [4]), ([5], [5]), ([], []), ([7], [7]), ([6, 8], [6, 8]), ([0, 1, 0, 1, 2, 3, 4, 5, 6, 7, 8, 9], [0, 1]), ([10, 0, 1, 2, 3, 4, 5, 6, 7, 8, 9], [10]), ([11, 9, 0, 1, 2, 3, 4, 5, 6, 7, 8, 9], [9, 11])])
def span_adds.B5 : List Nat := [0, 0, 0, 0, 12, 28, 60, 0, 128, 508, 1023, 2047, 4095]
theorem span_adds.tab5 : rtab .any (opsOf Tryz.f79 5) = span_adds.T5 := by kernel_rfl
theorem span_adds.bits5 : waitsOk span_adds.T5.2 span_adds.B5 = true := by kernel_rfl
set_option maxHeartbeats 8000000 in
set_option maxRecDepth 100000 in
theorem span_adds.calls (P0_ : Nat → Prop) (u9000_ : Value) (l0 : List (S64)) (a1_0 : Int) (a1_1 : Int) (r : List (S64)) (w0 w : World) (hB : Below w0.heap.size w0 w) (ho0 : Kd.R k64 64 w w0.heap.size P0_ u9000_ l0) (h : span_adds.f l0 a1_0 a1_1 = some r) :
  Calls Tryz.prog 79 #[u9000_, .agg #[.int .i64 a1_0, .int .i64 a1_1]] w fun e w' => ∃ v0_ : Value, e = .returned (v0_) ∧ Kd.R k64 64 w' w0.heap.size (fun k_ => (P0_ k_ ∨ w.heap.size ≤ k_)) v0_ r ∧ Below w0.heap.size w0 w' ∧ Kept w w' (fun k_ => P0_ k_) := by
 have hu64 := Tryz.underlying64
 have HO0 := Aside0.mk (show Kd.R k64 64 w w0.heap.size (fun k_ => (P0_ k_ ∨ w.heap.size ≤ k_)) u9000_ l0 from Kd.R_mono ho0 (fun k_ hk => (.inl hk)))
 have HK := Aside0.mk (Kept.refl w (fun k_ => P0_ k_))
 have HW0 := Aside0.mk hB.size
 have HB := Aside0.mk hB
 clear hB
 have H := h
 clear h
 unfold span_adds.f at H
 replace H := ifd H
 rcases H with ⟨-, c3b0, H⟩ | ⟨-, c3b0, H⟩
 ·obtain rfl := Option.some.inj H
  go_enter Tryz.func79, Tryz.ntmps79
  go_wp2_with (((with_reducible refine gate_dst (N := 3) rfl ?_); refine box_event ?hg (N := 3) ?hd (cs := #[.int .i64 a1_0, .int .i64 a1_1]) (t := 64) ?hr ?_; (case hd => rfl); (case hg => rfl); (case hr => (go_simp; done)); intro gb113 hg w4 hbox hb; replace HO0 := Aside0.mk (Kd.R_below (Kd.R_elderB (rx HO0.out) gb113 (Nat.le_of_eq hg.symm)) hb); have BK113 := Aside0.mk (hbox); have GW113 := Aside0.mk ((by rw [hg]; exact (by exact HK.out.1) : w.heap.size ≤ gb113)); replace HK := Aside0.mk (Kept.below (S := (fun k_ => P0_ k_)) (by repeat ((with_reducible exact HK.out))) hb); have GE113 := Aside0.mk ((by rw [hg]; exact (below_size (bh HB.out)) : w0.heap.size ≤ gb113)); replace HB := bsa HB hb; clear hb hbox hg; obtain ⟨Ao5, co5, eo5⟩ := Kd.R_slice HO0.out; subst eo5; obtain ⟨hcz6_0, hcz6_1, hfz6_0, hfz6_1⟩ := b2 BK113))
  go_ret
  exact ⟨_, er, by exact Kd.R_mono HO0.out (fun _ hk => hk.1), bh HB.out, by repeat ((with_reducible exact HK.out))⟩
 ·replace H := ifd H
  rcases H with ⟨-, c7b0, H⟩ | ⟨-, c7b0, H⟩
  ·obtain ⟨ji8, hji8⟩ : ∃ j_ : Int, (wrap64 ((l0.length : Int) - 1)) = j_ := ⟨_, rfl⟩
   replace H : (if 0 ≤ (ji8) then (if (ji8) < (l0.length : Int) then (if ((rd_T64 l0 (ji8)).f1) ≥ a1_0 then (some (l0.set ((ji8) : Int).toNat (⟨(rd_T64 l0 (ji8)).f0, mx ((rd_T64 l0 (ji8)).f1) a1_1⟩ : S64))) else (if l0.length < 8796093022208 then (some (l0 ++ [(⟨a1_0, a1_1⟩ : S64)])) else (none))) else (none)) else (none)) = some r := by (rw [hji8] at H; exact H)
   (rw [hji8] at c7b0)
   have hji8w : (IntKind.i64.wrap ((l0.length : Int) - 1)) = ji8 := (i64_w _).trans hji8
   replace H := ifn H
   obtain ⟨-, c9b0, H⟩ := H
   replace H := ifn H
   obtain ⟨-, c10b0, H⟩ := H
   replace H := ifd H
   rcases H with ⟨-, c11b0, H⟩ | ⟨-, c11b0, H⟩
   ·obtain ⟨ji12, hji12⟩ : ∃ j_ : Int, (mx ((rd_T64 l0 (ji8)).f1) a1_1) = j_ := ⟨_, rfl⟩
    replace H : (some (l0.set ((ji8) : Int).toNat (⟨(rd_T64 l0 (ji8)).f0, ji12⟩ : S64))) = some r := by (rw [hji12] at H; exact H)
    have hji12_ : (if ((rd_T64 l0 (ji8)).f1) < a1_1 then a1_1 else ((rd_T64 l0 (ji8)).f1)) = ji12 := hji12
    obtain ⟨y116, hy116⟩ : ∃ y_ : List (S64), y_ = (l0.set ((ji8) : Int).toNat (⟨(rd_T64 l0 (ji8)).f0, ji12⟩ : S64)) := ⟨_, rfl⟩
    replace H : (some y116) = some r := by (rw [hy116]; with_reducible exact H)
    have Ny116 := Aside0.mk hy116
    clear hy116
    obtain rfl := Option.some.inj H
    go_enter Tryz.func79, Tryz.ntmps79
    go_wp2_with (((with_reducible refine gate_dst (N := 3) rfl ?_); refine box_event ?hg (N := 3) ?hd (cs := #[.int .i64 a1_0, .int .i64 a1_1]) (t := 64) ?hr ?_; (case hd => rfl); (case hg => rfl); (case hr => (go_simp; done)); intro gb113 hg w14 hbox hb; replace HO0 := Aside0.mk (Kd.R_below (Kd.R_elderB (rx HO0.out) gb113 (Nat.le_of_eq hg.symm)) hb); have BK113 := Aside0.mk (hbox); have GW113 := Aside0.mk ((by rw [hg]; exact (by exact HK.out.1) : w.heap.size ≤ gb113)); replace HK := Aside0.mk (Kept.below (S := (fun k_ => P0_ k_)) (by repeat ((with_reducible exact HK.out))) hb); have GE113 := Aside0.mk ((by rw [hg]; exact (below_size (bh HB.out)) : w0.heap.size ≤ gb113)); replace HB := bsa HB hb; clear hb hbox hg; obtain ⟨Ao15, co15, eo15⟩ := Kd.R_slice HO0.out; subst eo15; obtain ⟨hcz16_0, hcz16_1, hfz16_0, hfz16_1⟩ := b2 BK113))
    replace HO0 := Aside0.mk (Kd.R_drew HO0.out)
    replace BK113 := Aside0.mk (blk_drew BK113.out)
    replace HK := Aside0.mk (Kept.drew HK.out)
    replace HB := Aside0.mk (below_drew1 HB.out)
    have p114 : 0 ≤ ((ji8) : Int) := ad
    have q114 : (ji8) < (l0.length : Int) := ad
    obtain ⟨ad114, e114, hx114_0, hx114_1⟩ := at_T64 (Kd.R_reads' HO0.out).2.2 (ji8) p114 q114
    cases e114
    replace p114 := eq_true p114
    replace q114 := eq_true q114
    refine start_ (n := 13) (S := fun w' => w'.cell? ⟨gb113, 0, none⟩ = some (.int .i64 a1_0) ∧ w'.cell? ⟨gb113, 1, none⟩ = some (.int .i64 a1_1) ∧ w'.cell? (ad114.add (((ji8)).toNat * 2)) = some (.int .i64 ((rd_T64 l0 (ji8)).f0)) ∧ w'.cell? ⟨(ad114.add (((ji8)).toNat * 2)).block, (ad114.add (((ji8)).toNat * 2)).off + 1, none⟩ = some (.int .i64 ((rd_T64 l0 (ji8)).f1))) (ds := []) #[false, false, false, false, false, false, false, false, false, false, false, false, false] (by kernel_rfl) rfl rfl ⟨(blk_cell BK113.out 0).trans rfl, (blk_cell BK113.out 1).trans rfl, hx114_0, hx114_1⟩ (fun hHeld => ?_); refine with_tabW span_adds.tab4 span_adds.bits4 (fun HT_ HW_ => ?_)
    generalize w14.drew = w17 at HO0 BK113 HK HB hx114_0 hx114_1 hHeld ⊢
    refine puA HT_ 0 20 (bv 13 1) ?_
    refine puA HT_ 1 21 (bv 13 3) ?_
    refine puA HT_ 2 22 (bv 13 7) ?_
    refine puA HT_ 3 23 (bv 13 15) ?_
    refine puA HT_ 4 24 (bv 13 31) ?_
    refine puA HT_ 5 25 (bv 13 63) ?_
    refine puA HT_ 6 26 (bv 13 127) ?_
    refine puA HT_ 8 28 (bv 13 383) ?_
    refine taA HT_ HW_ hHeld 7 27 (bv 13 511) ?_
    refine taA HT_ HW_ hHeld 9 29 (bv 13 1023) ?_
    refine puA HT_ 10 30 (bv 13 2047) ?_
    refine puA HT_ 11 31 (bv 13 4095) ?_
    refine puA HT_ 12 19 (bv 13 8191) ?_
    refine done_ (done_of HT_.out (by kernel_rfl)) ?_
    go_wp2
    replace HO0 := Aside0.mk (Kd.R_drew HO0.out)
    replace BK113 := Aside0.mk (blk_drew BK113.out)
    replace HK := Aside0.mk (Kept.drew HK.out)
    replace HB := Aside0.mk (below_drew1 HB.out)
    have p115 : 0 ≤ ((ji8) : Int) := ad
    have q115 : (ji8) < (l0.length : Int) := ad
    obtain ⟨ad115, e115, hx115_0, hx115_1⟩ := at_T64 (Kd.R_reads' HO0.out).2.2 (ji8) p115 q115
    obtain rfl : ad114 = ad115 := (by injection e115)
    replace p115 := eq_true p115
    replace q115 := eq_true q115
    have p13 : 0 ≤ ((ji8) : Int) := ad
    have q13 : ((ji8) : Int) < ((l0.length : Int) : Int) := ad
    obtain ⟨go13, co13, eo13, gb13, gl13, cl13, HG13⟩ := Kd.R_form HO0.out (by omega)
    (cases eo13)
    have GB13 := Aside0.mk gb13
    have GG13 := Aside0.mk HG13
    clear gb13 gl13 HG13
    have HMgo13 := Aside0.mk (show (P0_ go13 ∨ w.heap.size ≤ go13) from (HO0.out.1 _ rfl).1)
    (simp only [add_plain] at hx114_0)
    (simp only [add_plain] at hx114_1)
    (simp only [add_plain] at hx115_0)
    (simp only [add_plain] at hx115_1)
    obtain ⟨ce13, hcl13, hM13, hcc13, hfr13⟩ := Kd.R_elem HO0.out z64 ((ji8) : Int) p13 q13
    obtain rfl := k64_openM hM13
    have hx13_0 : World.cell? _ ⟨go13, ((ji8) : Int).toNat * 2, none⟩ = some (.int .i64 ((rd_T64 l0 (ji8)).f0)) := hcc13 0 _ rfl
    have hx13_1 : World.cell? _ ⟨go13, ((ji8) : Int).toNat * 2 + 1, none⟩ = some (.int .i64 ((rd_T64 l0 (ji8)).f1)) := hcc13 1 _ rfl
    have hf13_0 : World.frozen? _ ⟨go13, ((ji8) : Int).toNat * 2, none⟩ = false := hfr13 0
    have hf13_1 : World.frozen? _ ⟨go13, ((ji8) : Int).toNat * 2 + 1, none⟩ = false := hfr13 1
    clear hcl13 hcc13 hfr13 hM13
    replace p13 := eq_true p13
    replace q13 := eq_true q13
    obtain ⟨ce19, hcl19, hM19, hcc19, hfr19⟩ := Kd.R_elem HO0.out z64 ((ji8) : Int) (of_decide_eq_true (by assumption)) (by have h_ : ((ji8) : Int) < ((l0.length : Int) : Int) := of_decide_eq_true (by assumption); exact h_)
    obtain rfl := k64_openM hM19
    have HP19 := (Kd.R_seg HO0.out ((ji8) : Int) (of_decide_eq_true (by assumption)) (by have h_ : ((ji8) : Int) < ((l0.length : Int) : Int) := of_decide_eq_true (by assumption); exact h_) (seg := [.int .i64 ji12]) (j := 1) hcl19 hcc19 (show 2 ≤ 2 from by decide) (x' := (⟨(rd_T64 l0 (ji8)).f0, ji12⟩ : S64)) (k64_mkM _ _ _ (⟨(rd_T64 l0 (ji8)).f0, ji12⟩ : S64) ) (fun _ hk => hk)).1
    rw [← Ny116.out] at HP19
    have HQ19 := Aside0.mk HP19
    clear hcl19 hcc19 hfr19 hM19 HP19
    refine start_ (n := 13) (S := fun w' => w'.cell? ⟨gb113, 0, none⟩ = some (.int .i64 a1_0) ∧ w'.cell? ⟨gb113, 1, none⟩ = some (.int .i64 a1_1) ∧ w'.cell? ⟨go13, ((ji8)).toNat * 2, none⟩ = some (.int .i64 ((rd_T64 l0 (ji8)).f0)) ∧ w'.cell? ⟨go13, ((ji8)).toNat * 2 + 1, none⟩ = some (.int .i64 ((rd_T64 l0 (ji8)).f1))) (ds := [12]) #[false, false, false, false, false, false, false, false, false, false, false, false, false] (by kernel_rfl) rfl rfl ⟨(blk_cell BK113.out 0).trans rfl, (blk_cell BK113.out 1).trans rfl, hx115_0, hx115_1⟩ (fun hHeld => ?_); refine with_tabW span_adds.tab5 span_adds.bits5 (fun HT_ HW_ => ?_)
    generalize w17.drew = w18 at HO0 BK113 HK HB GG13 HQ19 hf13_0 hf13_1 hx114_0 hx114_1 hx115_0 hx115_1 hx13_0 hx13_1 hHeld ⊢
    refine puA HT_ 0 32 (bv 13 1) ?_
    refine puA HT_ 1 33 (bv 13 3) ?_
    refine puA HT_ 2 34 (bv 13 7) ?_
    refine puA HT_ 3 35 (bv 13 15) ?_
    refine puA HT_ 4 36 (bv 13 31) ?_
    refine puA HT_ 5 37 (bv 13 63) ?_
    refine puA HT_ 7 39 (bv 13 191) ?_
    refine taA HT_ HW_ hHeld 6 38 (bv 13 255) ?_
    refine taA HT_ HW_ hHeld 8 40 (bv 13 511) ?_
    refine puA HT_ 9 41 (bv 13 1023) ?_
    refine puA HT_ 10 42 (bv 13 2047) ?_
    refine puA HT_ 11 43 (bv 13 4095) ?_
    refine last_ (i := 12) (N := none) #[true, true, true, true, true, true, true, true, true, true, true, true, true] rfl rfl (one_of HT_.out (by kernel_rfl)) (by decide) (fun K hK => ?_)
    refine skip_ (w1 := ?_) (by rfl) rfl ?_ ?_
    rotate_left
    ·go_simp
     rfl
    refine hK.out _ _ ?_
    clear hK K
    refine done_ (done_of HT_.out (by kernel_rfl)) ?_
    go_wp2
    go_ret
    exact ⟨_, by rfl, by exact Kd.R_mono HQ19.out (fun _ hk => hk.1), by repeat ((with_reducible first | exact HB.out | refine below_set ?_ GB13.out)), by repeat ((with_reducible first | exact HK.out | refine Kept.setCell ?_ HMgo13.out _))⟩
   ·replace H := ifn H
    obtain ⟨c20, -, H⟩ := H
    have LMc20 := Aside0.mk c20
    clear c20
    obtain ⟨y117, hy117⟩ : ∃ y_ : List (S64), y_ = (l0 ++ [(⟨a1_0, a1_1⟩ : S64)]) := ⟨_, rfl⟩
    replace H : (some y117) = some r := by (rw [hy117]; with_reducible exact H)
    have Ny117 := Aside0.mk hy117
    clear hy117
    obtain rfl := Option.some.inj H
    go_enter Tryz.func79, Tryz.ntmps79
    go_wp2_with (((with_reducible refine gate_dst (N := 3) rfl ?_); refine box_event ?hg (N := 3) ?hd (cs := #[.int .i64 a1_0, .int .i64 a1_1]) (t := 64) ?hr ?_; (case hd => rfl); (case hg => rfl); (case hr => (go_simp; done)); intro gb113 hg w21 hbox hb; replace HO0 := Aside0.mk (Kd.R_below (Kd.R_elderB (rx HO0.out) gb113 (Nat.le_of_eq hg.symm)) hb); have BK113 := Aside0.mk (hbox); have GW113 := Aside0.mk ((by rw [hg]; exact (by exact HK.out.1) : w.heap.size ≤ gb113)); replace HK := Aside0.mk (Kept.below (S := (fun k_ => P0_ k_)) (by repeat ((with_reducible exact HK.out))) hb); have GE113 := Aside0.mk ((by rw [hg]; exact (below_size (bh HB.out)) : w0.heap.size ≤ gb113)); replace HB := bsa HB hb; clear hb hbox hg; obtain ⟨Ao22, co22, eo22⟩ := Kd.R_slice HO0.out; subst eo22; obtain ⟨hcz23_0, hcz23_1, hfz23_0, hfz23_1⟩ := b2 BK113))
    replace HO0 := Aside0.mk (Kd.R_drew HO0.out)
    replace BK113 := Aside0.mk (blk_drew BK113.out)
    replace HK := Aside0.mk (Kept.drew HK.out)
    replace HB := Aside0.mk (below_drew1 HB.out)
    have p114 : 0 ≤ ((ji8) : Int) := ad
    have q114 : (ji8) < (l0.length : Int) := ad
    obtain ⟨ad114, e114, hx114_0, hx114_1⟩ := at_T64 (Kd.R_reads' HO0.out).2.2 (ji8) p114 q114
    cases e114
    replace p114 := eq_true p114
    replace q114 := eq_true q114
    refine start_ (n := 13) (S := fun w' => w'.cell? ⟨gb113, 0, none⟩ = some (.int .i64 a1_0) ∧ w'.cell? ⟨gb113, 1, none⟩ = some (.int .i64 a1_1) ∧ w'.cell? (ad114.add (((ji8)).toNat * 2)) = some (.int .i64 ((rd_T64 l0 (ji8)).f0)) ∧ w'.cell? ⟨(ad114.add (((ji8)).toNat * 2)).block, (ad114.add (((ji8)).toNat * 2)).off + 1, none⟩ = some (.int .i64 ((rd_T64 l0 (ji8)).f1))) (ds := []) #[false, false, false, false, false, false, false, false, false, false, false, false, false] (by kernel_rfl) rfl rfl ⟨(blk_cell BK113.out 0).trans rfl, (blk_cell BK113.out 1).trans rfl, hx114_0, hx114_1⟩ (fun hHeld => ?_); refine with_tabW span_adds.tab4 span_adds.bits4 (fun HT_ HW_ => ?_)
    generalize w21.drew = w24 at HO0 BK113 HK HB hx114_0 hx114_1 hHeld ⊢
    refine puA HT_ 0 20 (bv 13 1) ?_
    refine puA HT_ 1 21 (bv 13 3) ?_
    refine puA HT_ 2 22 (bv 13 7) ?_
    refine puA HT_ 3 23 (bv 13 15) ?_
    refine puA HT_ 4 24 (bv 13 31) ?_
    refine puA HT_ 5 25 (bv 13 63) ?_
    refine puA HT_ 6 26 (bv 13 127) ?_
    refine puA HT_ 8 28 (bv 13 383) ?_
    refine taA HT_ HW_ hHeld 7 27 (bv 13 511) ?_
    refine taA HT_ HW_ hHeld 9 29 (bv 13 1023) ?_
    refine puA HT_ 10 30 (bv 13 2047) ?_
    refine puA HT_ 11 31 (bv 13 4095) ?_
    refine puA HT_ 12 19 (bv 13 8191) ?_
    refine done_ (done_of HT_.out (by kernel_rfl)) ?_
    obtain ⟨hcz25_0, hcz25_1, hfz25_0, hfz25_1⟩ := b2 BK113
    go_wp2_with (((with_reducible refine gate_builtin (b := .append) (xs := #[.tmp 9, .tmp 11]) rfl ?_); at_builtin; refine Kd.R_append k64 (w0 := w0) w0.heap.size rfl (.tmp 9) (.tmp 11) 22 64 (.agg #[(.int .i64 0), (.int .i64 0)]) 16 rfl Tryz.underlying22 info64 rfl (by decide) (by omega) (.slice (some ad114) l0.length co22) l0 (⟨a1_0, a1_1⟩ : S64) [.int .i64 a1_0, .int .i64 a1_1] (fun k_ => (P0_ k_ ∨ w.heap.size ≤ k_) ∧ k_ ≠ gb113) (fun _ => False) rfl rfl ?aP (fun _ hk => hk.elim) ?aF ?aO ?aB ?aS ?aL ?_; (case aP => exact k64_mkM _ _ _ (⟨a1_0, a1_1⟩ : S64)); (case aB => exact (bh HB.out)); (case aF => exact (fun k_ hk => ⟨(.inr (Nat.le_trans (by exact HK.out.1) hk)), Kd.freshB (g := gb113) (o := .cells #[.int .i64 a1_0, .int .i64 a1_1] 64 (0, 0)) (bx BK113.out) k_ hk⟩)); (case aO => exact (rx HO0.out)); (case aS => exact (below_size (bh HB.out))); (case aL => have := LMc20.out; omega); intro v118 w26 ho hb hg hat; rw [← Ny117.out] at ho; have n0_ := Aside0.mk (blk_grown (g := gb113) (o := .cells #[.int .i64 a1_0, .int .i64 a1_1] 64 (0, 0)) (bx BK113.out) hg (Kd.R_away HO0.out (fun _ hk => hk.2))); have n1_ := Aside0.mk (hb); have n2_ := Aside0.mk (Kept.of_grown (S := (fun k_ => P0_ k_)) hg (by repeat ((with_reducible exact HK.out))) (fun k_ e_ => (HO0.out.1 k_ e_).1)); have n3_ := Aside0.mk (ho); clear BK113 HB HK HO0; have BK113 := n0_; have HB := n1_; have HK := n2_; have HO119 := n3_; clear n0_ n1_ n2_ n3_ ho hb hg hat))
    go_ret
    exact ⟨_, by rfl, by exact Kd.R_mono HO119.out (fun _ hk => hk.1), bh HB.out, by repeat ((with_reducible exact HK.out))⟩
  ·replace H := ifn H
   obtain ⟨c27, -, H⟩ := H
   have LMc27 := Aside0.mk c27
   clear c27
   obtain ⟨y120, hy120⟩ : ∃ y_ : List (S64), y_ = (l0 ++ [(⟨a1_0, a1_1⟩ : S64)]) := ⟨_, rfl⟩
   replace H : (some y120) = some r := by (rw [hy120]; with_reducible exact H)
   have Ny120 := Aside0.mk hy120
   clear hy120
   obtain rfl := Option.some.inj H
   go_enter Tryz.func79, Tryz.ntmps79
   go_wp2_with (((with_reducible refine gate_dst (N := 3) rfl ?_); refine box_event ?hg (N := 3) ?hd (cs := #[.int .i64 a1_0, .int .i64 a1_1]) (t := 64) ?hr ?_; (case hd => rfl); (case hg => rfl); (case hr => (go_simp; done)); intro gb113 hg w28 hbox hb; replace HO0 := Aside0.mk (Kd.R_below (Kd.R_elderB (rx HO0.out) gb113 (Nat.le_of_eq hg.symm)) hb); have BK113 := Aside0.mk (hbox); have GW113 := Aside0.mk ((by rw [hg]; exact (by exact HK.out.1) : w.heap.size ≤ gb113)); replace HK := Aside0.mk (Kept.below (S := (fun k_ => P0_ k_)) (by repeat ((with_reducible exact HK.out))) hb); have GE113 := Aside0.mk ((by rw [hg]; exact (below_size (bh HB.out)) : w0.heap.size ≤ gb113)); replace HB := bsa HB hb; clear hb hbox hg; obtain ⟨Ao29, co29, eo29⟩ := Kd.R_slice HO0.out; subst eo29; obtain ⟨hcz30_0, hcz30_1, hfz30_0, hfz30_1⟩ := b2 BK113))
   replace HO0 := Aside0.mk (Kd.R_drew HO0.out)
   replace BK113 := Aside0.mk (blk_drew BK113.out)
   replace HK := Aside0.mk (Kept.drew HK.out)
   replace HB := Aside0.mk (below_drew1 HB.out)
   refine start_ (n := 13) (S := fun w' => True) (ds := []) #[false, false, false, false, false, false, false, false, false, false, false, false, false] (by kernel_rfl) rfl rfl trivial (fun hHeld => ?_); refine with_tabW span_adds.tab4 span_adds.bits4 (fun HT_ HW_ => ?_)
   generalize w28.drew = w31 at HO0 BK113 HK HB hHeld ⊢
   refine puA HT_ 0 20 (bv 13 1) ?_
   refine puA HT_ 1 21 (bv 13 3) ?_
   refine puA HT_ 2 22 (bv 13 7) ?_
   refine puU HT_ 3 23 (bv 13 15) ?_
   refine puU HT_ 4 24 (bv 13 31) ?_
   refine puU HT_ 5 25 (bv 13 63) ?_
   refine puU HT_ 6 26 (bv 13 127) ?_
   refine puU HT_ 7 27 (bv 13 255) ?_
   refine puU HT_ 8 28 (bv 13 511) ?_
   refine puU HT_ 9 29 (bv 13 1023) ?_
   refine puU HT_ 10 30 (bv 13 2047) ?_
   refine puA HT_ 11 31 (bv 13 4095) ?_
   refine puA HT_ 12 19 (bv 13 8191) ?_
   refine done_ (done_of HT_.out (by kernel_rfl)) ?_
   obtain ⟨hcz32_0, hcz32_1, hfz32_0, hfz32_1⟩ := b2 BK113
   go_wp2_with (((with_reducible refine gate_builtin (b := .append) (xs := #[.tmp 9, .tmp 11]) rfl ?_); at_builtin; refine Kd.R_append k64 (w0 := w0) w0.heap.size rfl (.tmp 9) (.tmp 11) 22 64 (.agg #[(.int .i64 0), (.int .i64 0)]) 16 rfl Tryz.underlying22 info64 rfl (by decide) (by omega) (.slice Ao29 l0.length co29) l0 (⟨a1_0, a1_1⟩ : S64) [.int .i64 a1_0, .int .i64 a1_1] (fun k_ => (P0_ k_ ∨ w.heap.size ≤ k_) ∧ k_ ≠ gb113) (fun _ => False) rfl rfl ?aP (fun _ hk => hk.elim) ?aF ?aO ?aB ?aS ?aL ?_; (case aP => exact k64_mkM _ _ _ (⟨a1_0, a1_1⟩ : S64)); (case aB => exact (bh HB.out)); (case aF => exact (fun k_ hk => ⟨(.inr (Nat.le_trans (by exact HK.out.1) hk)), Kd.freshB (g := gb113) (o := .cells #[.int .i64 a1_0, .int .i64 a1_1] 64 (0, 0)) (bx BK113.out) k_ hk⟩)); (case aO => exact (rx HO0.out)); (case aS => exact (below_size (bh HB.out))); (case aL => have := LMc27.out; omega); intro v121 w33 ho hb hg hat; rw [← Ny120.out] at ho; have n0_ := Aside0.mk (blk_grown (g := gb113) (o := .cells #[.int .i64 a1_0, .int .i64 a1_1] 64 (0, 0)) (bx BK113.out) hg (Kd.R_away HO0.out (fun _ hk => hk.2))); have n1_ := Aside0.mk (hb); have n2_ := Aside0.mk (Kept.of_grown (S := (fun k_ => P0_ k_)) hg (by repeat ((with_reducible exact HK.out))) (fun k_ e_ => (HO0.out.1 k_ e_).1)); have n3_ := Aside0.mk (ho); clear BK113 HB HK HO0; have BK113 := n0_; have HB := n1_; have HK := n2_; have HO122 := n3_; clear n0_ n1_ n2_ n3_ ho hb hg hat))
   go_ret
   exact ⟨_, er, by exact Kd.R_mono HO122.out (fun _ hk => hk.1), bh HB.out, by repeat ((with_reducible exact HK.out))⟩
/-! ### span_Of: function 49 -/
def span_Of.l0 : Nat → List (S64) → List Int → Int → Int → Option ((List (S64)) × Int)
 | 0, _, _, _, _ => none
 | k + 1, x5, x14, x15, x16 => if x16 < x15 then (if 0 ≤ x16 then (if x16 < (x14.length : Int) then ((span_adds.f x5 (rd x14 x16) (wrap64 ((rd x14 x16) + 1))).bind fun t129 => (span_Of.l0 k t129 x14 x15 (wrap64 (x16 + 1)))) else (none)) else (none)) else (some (x5, 0))
def span_Of.f (k : Nat) (l0 : List Int) : Option ((List (S64)) × Int) := (slices_ContainsFunc_int_int_fn76.f k l0).bind fun t123 => (if t123 = true then (some (([] : List (S64)), 1)) else ((slices_Clone_int_int.f l0).bind fun t124 => ((slices_Sort_int_int.f t124).bind fun t127 => (span_Of.l0 k ([] : List (S64)) t127 (t124.length : Int) 0))))
theorem span_Of.l0_succ (k) (a0) (a1) (a2) (a3) : type_of% (@span_Of.l0.eq_2 a0 a1 a2 a3 k) := span_Of.l0.eq_2 a0 a1 a2 a3 k
set_option maxHeartbeats 8000000 in
set_option maxRecDepth 100000 in
theorem span_Of.calls (k : Nat) (A0 : Option Addr) (c0 : Nat) (l0 : List Int) (r1 : List (S64)) (r2 : Int) (w : World) (hr0 : Kd.C (Kd.int .i64) w A0 l0.length l0) (hc0 : l0.length ≤ c0) (h : span_Of.f k l0 = some (r1, r2)) :
  Calls Tryz.prog 49 #[.slice A0 l0.length c0] w fun e w' => ∃ v0_ : Value, e = .returned (.tuple #[v0_, .int .i64 r2]) ∧ Kd.R k64 64 w' w.heap.size (fun _ => True) v0_ r1 ∧ Below w.heap.size w w' := by
 have hu64 := Tryz.underlying64
 have HR0 := Aside0.mk hr0
 have HC0 := Aside0.mk hc0
 clear hr0 hc0
 have HB := Aside0.mk (Below.refl w.heap.size w)
 have H := h
 clear h
 unfold span_Of.f at H
 replace H := bd H
 obtain ⟨t123, A2, H⟩ := H
 replace H := ifb H
 rcases H with ⟨rfl, H⟩ | ⟨rfl, H⟩
 ·simp only [Option.some.injEq, Prod.mk.injEq] at H
  obtain ⟨rfl, rfl⟩ := H
  go_enter Tryz.func49, Tryz.ntmps49
  go_wp2_with (((with_reducible refine gate_callee (f := 75) rfl ?_); refine gL 9 Tryz.func75 #[.slice A0 l0.length c0, .func (.func 76) #[] #[]] ?_; (with_reducible refine (slices_ContainsFunc_int_int_fn76.calls k _ _ l0  true _ ?side1 ?side2 A2.out).mono ?_); (case side1 => exact cx HR0.out); (case side2 => exact HC0.out); rintro e w4 ⟨rfl, hb⟩; refine ⟨_, rfl, ?_⟩; replace HB := bsa HB hb; clear hb))
  go_ret2
  exact ⟨_, er, nl, bh HB.out⟩
 ·replace H := bd H
  obtain ⟨t124, A5, H⟩ := H
  replace H := bd H
  obtain ⟨t127, A6, H⟩ := H
  have H' := Aside0.mk H
  clear H
  go_enter Tryz.func49, Tryz.ntmps49
  go_wp2_with (first | ((with_reducible refine gate_callee (f := 75) rfl ?_); refine gL 9 Tryz.func75 #[.slice A0 l0.length c0, .func (.func 76) #[] #[]] ?_; (with_reducible refine (slices_ContainsFunc_int_int_fn76.calls k _ _ l0  false _ ?side1 ?side2 A2.out).mono ?_); (case side1 => exact cx HR0.out); (case side2 => exact HC0.out); rintro e w7 ⟨rfl, hb⟩; refine ⟨_, rfl, ?_⟩; replace HB := bsa HB hb; clear hb) | ((with_reducible refine gate_callee (f := 77) rfl ?_); refine gL 11 Tryz.func77 #[.slice A0 l0.length c0] ?_; (with_reducible refine (slices_Clone_int_int.calls _ _ l0 t124 _ ?side1 ?side2 A5.out).mono ?_); (case side1 => exact cx (Kd.C_below HR0.out HB.out)); (case side2 => exact HC0.out); rintro e w8 ⟨v125, rfl, ho0, hb⟩; refine ⟨_, rfl, ?_⟩; have HO126 := Aside0.mk (Kd.R_lower ho0 (below_size (bh HB.out))); replace HB := bsa HB hb; clear hb ho0; obtain ⟨Ao9, co9, eo9⟩ := Kd.R_slice HO126.out; subst eo9) | ((with_reducible refine gate_callee (f := 78) rfl ?_); refine gL 13 Tryz.func78 #[.slice Ao9 t124.length co9] ?_; (with_reducible refine (slices_Sort_int_int.calls (fun k_ => some k_ = (.slice Ao9 t124.length co9 : Value).ownBlock) (.slice Ao9 t124.length co9) t124 t127 w _ ?side1 ?side2 A6.out).mono ?_); (case side1 => repeat ((with_reducible exact HB.out))); (case side2 => exact Kd.R_tight rfl HO126.out); rintro e w10 ⟨rfl, hy0, hb, hkp⟩; refine ⟨_, rfl, ?_⟩; replace HO126 := Aside0.mk (Kd.R_reok rfl hy0 (fun k_ e_ => HO126.out.1 k_ e_)); replace HB := Aside0.mk (hb); clear hb hkp hy0))
  go_loopg [5, 16] k (fun kq v5 v16 w' => ∃ (x5_1 : List (S64)) (x16_1 : Int), v16 = .int .i64 x16_1 ∧ Aside0 (span_Of.l0 kq x5_1 t127 (t124.length : Int) x16_1 = some (r1, r2)) ∧ Aside0 (kq ≤ k) ∧ Aside0 (Kd.R k64 64 w' w.heap.size (fun _ => True) v5 x5_1) ∧ Aside0 (Kd.R (Kd.int .i64) 3 w' w.heap.size (fun _ => True) (.slice Ao9 t124.length co9) t127) ∧ Aside0 (Below w.heap.size w w'))
  case atStart => exact ⟨(([] : List (S64))), (0), (by rfl), H', ⟨Nat.le_refl _⟩, ⟨nl⟩, ⟨by exact HO126.out⟩, ⟨bh HB.out⟩⟩
  case round =>
   clear H'
   obtain ⟨x5_1, x16_1, rfl, HA, HK1, HO_5, HO_14, HB⟩ := hrel
   have hl14_1 := (Kd.R_reads' HO_14.out).1
   rw [hl14_1] at HO_14
   (simp only [hl14_1])
   cases gk with
   | zero => exact absurd HA.out (by simp [span_Of.l0])
   | succ k1 =>
    have H := HA.out
    clear HA
    simp only [span_Of.l0] at H
    replace H := ifd H
    rcases H with ⟨c11, c11b0, H⟩ | ⟨c11, c11b0, H⟩
    ·((have c11b0l := c11b0; simp only [hl14_1] at c11b0l))
     clear c11
     replace H := ifn H
     obtain ⟨-, c12b0, H⟩ := H
     replace H := ifn H
     obtain ⟨-, c13b0, H⟩ := H
     replace H := bd H
     obtain ⟨t129, A14, H⟩ := H
     have H' := Aside0.mk H
     clear H
     have p128 : 0 ≤ (x16_1 : Int) := ad
     have q128 : x16_1 < (t127.length : Int) := ad
     obtain ⟨ad128, e128, hx128_0⟩ := Kd.at_int (Kd.R_reads' HO_14.out).2.2 x16_1 p128 q128
     cases e128
     replace p128 := eq_true p128
     replace q128 := eq_true q128
     obtain ⟨Ao15, co15, eo15⟩ := Kd.R_slice HO_5.out
     subst eo15
     go_wp2_with (((with_reducible refine gate_callee (f := 79) rfl ?_); refine gL 25 Tryz.func79 #[.slice Ao15 x5_1.length co15, .agg #[.int .i64 (rd t127 x16_1), .int .i64 (wrap64 ((rd t127 x16_1) + 1))]] ?_; (with_reducible refine (span_adds.calls (fun k_ => some k_ = (.slice Ao15 x5_1.length co15 : Value).ownBlock) (.slice Ao15 x5_1.length co15) x5_1 (rd t127 x16_1) (wrap64 ((rd t127 x16_1) + 1)) t129 w _ ?side1 ?side2 A14.out).mono ?_); (case side1 => repeat ((with_reducible exact HB.out))); (case side2 => exact Kd.R_tight rfl HO_5.out); rintro e w16 ⟨v130, rfl, ho0, hb, hkp⟩; refine ⟨_, rfl, ?_⟩; have n0_ := Aside0.mk (Kd.R_mono (ok' := fun k_ => True) (Kd.R_keptB ((Kd.R_apart' HO_14.out (Kd.R_typed HO_5.out) (by decide))) hkp (fun k_ hk_ hs_ => (hk_.2) hs_)) (fun k_ hk_ => trivial)); have n1_ := Aside0.mk (Kd.R_mono (ok' := fun k_ => True) ho0 (fun k_ hk_ => trivial)); have n2_ := Aside0.mk (hb); clear HO_14 HB HO_5; have HO_14 := n0_; have HO131 := n1_; have HB := n2_; clear n0_ n1_ n2_ hb hkp ho0))
     (simp only [← hl14_1])
     go_roundg k1
     case measure => have := HK1.out; omega
     case rel => exact ⟨(t129), (wrap64 (x16_1 + 1)), (by rfl), H', ⟨by have := HK1.out; omega⟩, ⟨by exact HO131.out⟩, ⟨by (simp only [hl14_1]); exact HO_14.out⟩, ⟨bh HB.out⟩⟩
    ·((have c11b0l := c11b0; simp only [hl14_1] at c11b0l))
     clear c11
     simp only [Option.some.injEq, Prod.mk.injEq] at H
     obtain ⟨rfl, rfl⟩ := H
     go_wp2
     go_ret2
     exact ⟨_, er, by exact HO_5.out, bh HB.out⟩
end Go.Proofs.YtjgmdjieandemaaGreat.Print
end
section
namespace Go.Proofs.YtjgmdjieandemaaGreat.Print
open Go.RowKit Go.Proofs.YtjgmdjieandemaaGreatW.PrintWords Go.Proofs.YtjgmdjieandemaaGreatW.PrintLast Go.Proofs.YtjgmdjieandemaaGreatW.PrintMore
attribute [local go_sem] max2_int min2_int max_two min_two max_three min_three max_four min_four   -- for this text's walks alone
set_option linter.unusedVariables false
set_option linter.unusedSimpArgs false
/-! ### span_May: function 41 -/
def span_May.l0 : Nat → Int → List (S64) → Int → Int → Option (Bool)
 | 0, _, _, _, _ => none
 | k + 1, x3, x6, x7, x8 => if x8 < x7 then (if 0 ≤ x8 then (if x8 < (x6.length : Int) then (if ((rd_T64 x6 x8).f0) ≤ x3 then (some false) else (if ((rd_T64 x6 x8).f0) ≥ ((rd_T64 x6 x8).f1) then (some false) else (if ((rd_T64 x6 x8).f1) > 65536 then (some false) else (span_May.l0 k ((rd_T64 x6 x8).f1) x6 x7 (wrap64 (x8 + 1)))))) else (none)) else (none)) else (some true)
def span_May.f (k : Nat) (l0 : List (S64)) : Option (Bool) := span_May.l0 k (-1) l0 (l0.length : Int) 0
theorem span_May.l0_succ (k) (a0) (a1) (a2) (a3) : type_of% (@span_May.l0.eq_2 a0 a1 a2 a3 k) := span_May.l0.eq_2 a0 a1 a2 a3 k
theorem span_May.mono_l : ∀ k, (∀ y0 y1 y2 y3, LeO (span_May.l0 k y0 y1 y2 y3) (span_May.l0 (k + 1) y0 y1 y2 y3))
 | 0 => fun _ _ _ _ r h => by simp [span_May.l0] at h
 | k + 1 => by
  have ih0 := span_May.mono_l k
  ·intro y0 y1 y2 y3
   unfold span_May.l0
   repeat' first | (with_reducible exact ih0 _ _ _ _) | (with_reducible exact LeO.refl _) | (with_reducible refine LeO.ite ?_ ?_)
theorem span_May.mono : ∀ a0 k, LeO (span_May.f k a0) (span_May.f (k + 1) a0) := by
 intro a0 k
 have ih0 := span_May.mono_l k
 unfold span_May.f
 repeat' (with_reducible exact ih0 _ _ _ _)
set_option maxHeartbeats 8000000 in
set_option maxRecDepth 100000 in
theorem span_May.calls (k : Nat) (A0 : Option Addr) (c0 : Nat) (l0 : List (S64)) (r : Bool) (w : World) (hr0 : Kd.C k64 w A0 l0.length l0) (hc0 : l0.length ≤ c0) (h : span_May.f k l0 = some r) :
  Calls Tryz.prog 41 #[.slice A0 l0.length c0] w fun e w' => e = .returned (.bool r) ∧ Below w.heap.size w w' := by
 have hu64 := Tryz.underlying64
 have HR0 := Aside0.mk hr0
 have HC0 := Aside0.mk hc0
 clear hr0 hc0
 have HB := Aside0.mk (Below.refl w.heap.size w)
 have H := h
 clear h
 unfold span_May.f at H
 have H' := Aside0.mk H
 clear H
 go_enter Tryz.func41, Tryz.ntmps41
 go_wp2
 go_loopg [3, 8] k (fun kq v3 v8 w' => ∃ (x3_1 : Int) (x8_1 : Int), v3 = .int .i64 x3_1 ∧ v8 = .int .i64 x8_1 ∧ Aside0 (span_May.l0 kq x3_1 l0 (l0.length : Int) x8_1 = some r) ∧ Aside0 (kq ≤ k) ∧ Aside0 (Below w.heap.size w w'))
 case atStart => exact ⟨((-1)), (0), (by rfl), (by rfl), H', ⟨Nat.le_refl _⟩, ⟨bh HB.out⟩⟩
 case round =>
  clear H'
  obtain ⟨x3_1, x8_1, rfl, rfl, HA, HK1, HB⟩ := hrel
  cases gk with
  | zero => exact absurd HA.out (by simp [span_May.l0])
  | succ k1 =>
   have H := HA.out
   clear HA
   simp only [span_May.l0] at H
   replace H := ifd H
   rcases H with ⟨-, c2b0, H⟩ | ⟨-, c2b0, H⟩
   ·replace H := ifn H
    obtain ⟨-, c3b0, H⟩ := H
    replace H := ifn H
    obtain ⟨-, c4b0, H⟩ := H
    replace H := ifd H
    rcases H with ⟨-, c5b0, H⟩ | ⟨-, c5b0, H⟩
    ·obtain rfl := Option.some.inj H
     have p132 : 0 ≤ (x8_1 : Int) := ad
     have q132 : x8_1 < (l0.length : Int) := ad
     obtain ⟨ad132, e132, hx132_0, hx132_1⟩ := at_T64 HR0.out x8_1 p132 q132
     cases e132
     replace hx132_0 := cb HB.out.cell hx132_0
     replace hx132_1 := cb HB.out.cell hx132_1
     replace p132 := eq_true p132
     replace q132 := eq_true q132
     go_wp2_with (((with_reducible refine gate_dst (N := 5) rfl ?_); refine boxE HB 5 64 #[.int .i64 0, .int .i64 0] ?_; clear HB; intro gb133 w6 BK133 GW133 hg hb HB; have GE133 := GW133; clear hb hg; obtain ⟨hcz7_0, hcz7_1, hfz7_0, hfz7_1⟩ := b2 BK133))
     go_ret
     exact ⟨er, bh HB.out⟩
    ·replace H := ifd H
     rcases H with ⟨-, c8b0, H⟩ | ⟨-, c8b0, H⟩
     ·obtain rfl := Option.some.inj H
      have p132 : 0 ≤ (x8_1 : Int) := ad
      have q132 : x8_1 < (l0.length : Int) := ad
      obtain ⟨ad132, e132, hx132_0, hx132_1⟩ := at_T64 HR0.out x8_1 p132 q132
      cases e132
      replace hx132_0 := cb HB.out.cell hx132_0
      replace hx132_1 := cb HB.out.cell hx132_1
      replace p132 := eq_true p132
      replace q132 := eq_true q132
      go_wp2_with (((with_reducible refine gate_dst (N := 5) rfl ?_); refine boxE HB 5 64 #[.int .i64 0, .int .i64 0] ?_; clear HB; intro gb133 w9 BK133 GW133 hg hb HB; have GE133 := GW133; clear hb hg; obtain ⟨hcz10_0, hcz10_1, hfz10_0, hfz10_1⟩ := b2 BK133))
      go_ret
      exact ⟨er, bh HB.out⟩
     ·replace H := ifd H
      rcases H with ⟨-, c11b0, H⟩ | ⟨-, c11b0, H⟩
      ·obtain rfl := Option.some.inj H
       have p132 : 0 ≤ (x8_1 : Int) := ad
       have q132 : x8_1 < (l0.length : Int) := ad
       obtain ⟨ad132, e132, hx132_0, hx132_1⟩ := at_T64 HR0.out x8_1 p132 q132
       cases e132
       replace hx132_0 := cb HB.out.cell hx132_0
       replace hx132_1 := cb HB.out.cell hx132_1
       replace p132 := eq_true p132
       replace q132 := eq_true q132
       go_wp2_with (((with_reducible refine gate_dst (N := 5) rfl ?_); refine boxE HB 5 64 #[.int .i64 0, .int .i64 0] ?_; clear HB; intro gb133 w12 BK133 GW133 hg hb HB; have GE133 := GW133; clear hb hg; obtain ⟨hcz13_0, hcz13_1, hfz13_0, hfz13_1⟩ := b2 BK133))
       go_ret
       exact ⟨er, bh HB.out⟩
      ·have H' := Aside0.mk H
       clear H
       have p132 : 0 ≤ (x8_1 : Int) := ad
       have q132 : x8_1 < (l0.length : Int) := ad
       obtain ⟨ad132, e132, hx132_0, hx132_1⟩ := at_T64 HR0.out x8_1 p132 q132
       cases e132
       replace hx132_0 := cb HB.out.cell hx132_0
       replace hx132_1 := cb HB.out.cell hx132_1
       replace p132 := eq_true p132
       replace q132 := eq_true q132
       go_wp2_with (((with_reducible refine gate_dst (N := 5) rfl ?_); refine boxE HB 5 64 #[.int .i64 0, .int .i64 0] ?_; clear HB; intro gb133 w14 BK133 GW133 hg hb HB; have GE133 := GW133; clear hb hg; obtain ⟨hcz15_0, hcz15_1, hfz15_0, hfz15_1⟩ := b2 BK133))
       go_roundg k1
       case measure => have := HK1.out; omega
       case rel => exact ⟨((rd_T64 l0 x8_1).f1), (wrap64 (x8_1 + 1)), (by rfl), (by rfl), H', ⟨by have := HK1.out; omega⟩, ⟨bh HB.out⟩⟩
   ·obtain rfl := Option.some.inj H
    go_wp2
    go_ret
    exact ⟨er, bh HB.out⟩
/-! ### span_Count: function 52 -/
def span_Count.l0 : Nat → Int → List (S64) → Int → Int → Option (Int)
 | 0, _, _, _, _ => none
 | k + 1, x3, x8, x9, x10 => if x10 < x9 then (if 0 ≤ x10 then (if x10 < (x8.length : Int) then (span_Count.l0 k (wrap64 (x3 + (wrap64 (((rd_T64 x8 x10).f1) - ((rd_T64 x8 x10).f0))))) x8 x9 (wrap64 (x10 + 1))) else (none)) else (none)) else (some x3)
def span_Count.f (k : Nat) (l0 : List (S64)) : Option (Int) := (span_May.f k l0).bind fun t134 => (if t134 = true then (span_Count.l0 k 0 l0 (l0.length : Int) 0) else (some 0))
theorem span_Count.l0_succ (k) (a0) (a1) (a2) (a3) : type_of% (@span_Count.l0.eq_2 a0 a1 a2 a3 k) := span_Count.l0.eq_2 a0 a1 a2 a3 k
theorem span_Count.mono_l : ∀ k, (∀ y0 y1 y2 y3, LeO (span_Count.l0 k y0 y1 y2 y3) (span_Count.l0 (k + 1) y0 y1 y2 y3))
 | 0 => fun _ _ _ _ r h => by simp [span_Count.l0] at h
 | k + 1 => by
  have ih0 := span_Count.mono_l k
  ·intro y0 y1 y2 y3
   unfold span_Count.l0
   repeat' first | (with_reducible exact ih0 _ _ _ _) | (with_reducible exact LeO.refl _) | (with_reducible refine LeO.ite ?_ ?_)
theorem span_Count.mono : ∀ a0 k, LeO (span_Count.f k a0) (span_Count.f (k + 1) a0) := by
 intro a0 k
 have ih0 := span_Count.mono_l k
 unfold span_Count.f
 repeat' first | (with_reducible exact ih0 _ _ _ _) | (with_reducible exact span_May.mono _ _) | (with_reducible exact LeO.refl _) | (with_reducible refine LeO.ite ?_ ?_) | (with_reducible refine LeO.bind ?_ (fun _ => ?_))
set_option maxHeartbeats 8000000 in
set_option maxRecDepth 100000 in
theorem span_Count.calls (k : Nat) (A0 : Option Addr) (c0 : Nat) (l0 : List (S64)) (r : Int) (w : World) (hr0 : Kd.C k64 w A0 l0.length l0) (hc0 : l0.length ≤ c0) (h : span_Count.f k l0 = some r) :
  Calls Tryz.prog 52 #[.slice A0 l0.length c0] w fun e w' => e = .returned (.int .i64 r) ∧ Below w.heap.size w w' := by
 have hu64 := Tryz.underlying64
 have HR0 := Aside0.mk hr0
 have HC0 := Aside0.mk hc0
 clear hr0 hc0
 have HB := Aside0.mk (Below.refl w.heap.size w)
 have H := h
 clear h
 unfold span_Count.f at H
 replace H := bd H
 obtain ⟨t134, A2, H⟩ := H
 replace H := ifb H
 rcases H with ⟨rfl, H⟩ | ⟨rfl, H⟩
 ·have H' := Aside0.mk H
  clear H
  go_enter Tryz.func52, Tryz.ntmps52
  go_wp2_with (((with_reducible refine gate_callee (f := 41) rfl ?_); refine gL 7 Tryz.func41 #[.slice A0 l0.length c0] ?_; (with_reducible refine (span_May.calls k _ _ l0 true _ ?side1 ?side2 A2.out).mono ?_); (case side1 => exact cx HR0.out); (case side2 => exact HC0.out); rintro e w4 ⟨rfl, hb⟩; refine ⟨_, rfl, ?_⟩; replace HB := bsa HB hb; clear hb))
  go_loopg [3, 10] k (fun kq v3 v10 w' => ∃ (x3_1 : Int) (x10_1 : Int), v3 = .int .i64 x3_1 ∧ v10 = .int .i64 x10_1 ∧ Aside0 (span_Count.l0 kq x3_1 l0 (l0.length : Int) x10_1 = some r) ∧ Aside0 (kq ≤ k) ∧ Aside0 (Below w.heap.size w w'))
  case atStart => exact ⟨(0), (0), (by rfl), (by rfl), H', ⟨Nat.le_refl _⟩, ⟨bh HB.out⟩⟩
  case round =>
   clear H'
   obtain ⟨x3_1, x10_1, rfl, rfl, HA, HK1, HB⟩ := hrel
   cases gk with
   | zero => exact absurd HA.out (by simp [span_Count.l0])
   | succ k1 =>
    have H := HA.out
    clear HA
    simp only [span_Count.l0] at H
    replace H := ifd H
    rcases H with ⟨-, c5b0, H⟩ | ⟨-, c5b0, H⟩
    ·replace H := ifn H
     obtain ⟨-, c6b0, H⟩ := H
     replace H := ifn H
     obtain ⟨-, c7b0, H⟩ := H
     have H' := Aside0.mk H
     clear H
     have p135 : 0 ≤ (x10_1 : Int) := ad
     have q135 : x10_1 < (l0.length : Int) := ad
     obtain ⟨ad135, e135, hx135_0, hx135_1⟩ := at_T64 HR0.out x10_1 p135 q135
     cases e135
     replace hx135_0 := cb HB.out.cell hx135_0
     replace hx135_1 := cb HB.out.cell hx135_1
     replace p135 := eq_true p135
     replace q135 := eq_true q135
     go_wp2_with (((with_reducible refine gate_dst (N := 5) rfl ?_); refine boxE HB 5 64 #[.int .i64 0, .int .i64 0] ?_; clear HB; intro gb136 w8 BK136 GW136 hg hb HB; have GE136 := GW136; clear hb hg; obtain ⟨hcz9_0, hcz9_1, hfz9_0, hfz9_1⟩ := b2 BK136))
     go_roundg k1
     case measure => have := HK1.out; omega
     case rel => exact ⟨(wrap64 (x3_1 + (wrap64 (((rd_T64 l0 x10_1).f1) - ((rd_T64 l0 x10_1).f0))))), (wrap64 (x10_1 + 1)), (by rfl), (by rfl), H', ⟨by have := HK1.out; omega⟩, ⟨bh HB.out⟩⟩
    ·obtain rfl := Option.some.inj H
     go_wp2
     go_ret
     exact ⟨er, bh HB.out⟩
 ·obtain rfl := Option.some.inj H
  go_enter Tryz.func52, Tryz.ntmps52
  go_wp2_with (((with_reducible refine gate_callee (f := 41) rfl ?_); refine gL 7 Tryz.func41 #[.slice A0 l0.length c0] ?_; (with_reducible refine (span_May.calls k _ _ l0 false _ ?side1 ?side2 A2.out).mono ?_); (case side1 => exact cx HR0.out); (case side2 => exact HC0.out); rintro e w10 ⟨rfl, hb⟩; refine ⟨_, rfl, ?_⟩; replace HB := bsa HB hb; clear hb))
  go_ret
  exact ⟨er, bh HB.out⟩
/-! ### poslist_costs: function 46 -/
def poslist_costs.f (k : Nat) (l0 : List (S64)) : Option (Int × Int × Int × Int) := if (wrap64 ((l0.length : Int) - 1)) ≥ 0 then (if 0 ≤ (wrap64 ((l0.length : Int) - 1)) then (if (wrap64 ((l0.length : Int) - 1)) < (l0.length : Int) then ((span_Count.f k l0).bind fun t140 => (some (0, wrap64 (8 * (l0.length : Int)), wrap64 (8 * (wrap64 ((wrap64 (Int.tdiv (wrap64 (((rd_T64 l0 (wrap64 ((l0.length : Int) - 1))).f1) - 1)) 64)) + 1))), wrap64 (2 * t140)))) else (none)) else (none)) else ((span_Count.f k l0).bind fun t141 => (some (0, wrap64 (8 * (l0.length : Int)), 0, wrap64 (2 * t141))))
theorem poslist_costs.mono : ∀ a0 k, LeO (poslist_costs.f k a0) (poslist_costs.f (k + 1) a0) := by
 intro a0 k
 unfold poslist_costs.f
 repeat' first | (with_reducible exact span_Count.mono _ _) | (with_reducible exact LeO.refl _) | (with_reducible refine LeO.ite ?_ ?_) | (with_reducible refine LeO.bind ?_ (fun _ => ?_))
set_option maxHeartbeats 8000000 in
set_option maxRecDepth 100000 in
theorem poslist_costs.calls (k : Nat) (A0 : Option Addr) (c0 : Nat) (l0 : List (S64)) (r1 : Int) (r2 : Int) (r3 : Int) (r4 : Int) (w : World) (hr0 : Kd.C k64 w A0 l0.length l0) (hc0 : l0.length ≤ c0) (h : poslist_costs.f k l0 = some (r1, r2, r3, r4)) :
  Calls Tryz.prog 46 #[.slice A0 l0.length c0] w fun e w' => e = .returned (.agg #[.int .i64 r1, .int .i64 r2, .int .i64 r3, .int .i64 r4]) ∧ Below w.heap.size w w' := by
 have hu67 := Tryz.underlying67
 have HR0 := Aside0.mk hr0
 have HC0 := Aside0.mk hc0
 clear hr0 hc0
 have HB := Aside0.mk (Below.refl w.heap.size w)
 have H := h
 clear h
 unfold poslist_costs.f at H
 replace H := ifd H
 rcases H with ⟨-, c2b0, H⟩ | ⟨-, c2b0, H⟩
 ·obtain ⟨ji3, hji3⟩ : ∃ j_ : Int, (wrap64 ((l0.length : Int) - 1)) = j_ := ⟨_, rfl⟩
  replace H : (if 0 ≤ (ji3) then (if (ji3) < (l0.length : Int) then ((span_Count.f k l0).bind fun t140 => (some (0, wrap64 (8 * (l0.length : Int)), wrap64 (8 * (wrap64 ((wrap64 (Int.tdiv (wrap64 (((rd_T64 l0 (ji3)).f1) - 1)) 64)) + 1))), wrap64 (2 * t140)))) else (none)) else (none)) = some (r1, r2, r3, r4) := by (rw [hji3] at H; exact H)
  (rw [hji3] at c2b0)
  have hji3w : (IntKind.i64.wrap ((l0.length : Int) - 1)) = ji3 := (i64_w _).trans hji3
  replace H := ifn H
  obtain ⟨-, c4b0, H⟩ := H
  replace H := ifn H
  obtain ⟨-, c5b0, H⟩ := H
  replace H := bd H
  obtain ⟨t140, A6, H⟩ := H
  simp only [Option.some.injEq, Prod.mk.injEq] at H
  obtain ⟨rfl, rfl, rfl, rfl⟩ := H
  go_enter Tryz.func46, Tryz.ntmps46
  go_wp2_with (first | ((with_reducible refine gate_dst (N := 2) rfl ?_); refine boxE HB 2 67 #[.int .i64 0, .int .i64 0, .int .i64 0, .int .i64 0] ?_; clear HB; intro gb137 w7 BK137 GW137 hg hb HB; have GE137 := GW137; clear hb hg) | ((with_reducible refine gate_dst (N := 3) rfl ?_); refine boxE HB 3 67 #[.int .i64 0, .int .i64 0, .int .i64 0, .int .i64 0] ?_; clear HB; intro gb138 w8 BK138 GW138 hg hb HB; have GE138 := GW138; have NB137_138 := bna BK137 hg; have NB138_137 := bma BK137 hg; replace BK137 := bba BK137 hb; clear hb hg; have hnb9 := NB138_137.out; have hnc9 := NB137_138.out; obtain ⟨hcz10_0, hcz10_1, hcz10_2, hcz10_3, hfz10_0, hfz10_1, hfz10_2, hfz10_3⟩ := b4 BK138; have p139 : 0 ≤ ((ji3) : Int) := ad; have q139 : (ji3) < (l0.length : Int) := ad; obtain ⟨ad139, e139, hx139_0, hx139_1⟩ := at_T64 HR0.out (ji3) p139 q139; cases e139; have hn139_0 : ad139.block ≠ gb138 := Nat.ne_of_lt (Nat.lt_of_lt_of_le (by have := World.block_lt_of_cell? _ _ hx139_0; rwa [add_block] at this) GW138.out); replace hx139_0 := cb HB.out.cell hx139_0; replace hx139_1 := cb HB.out.cell hx139_1; replace hx139_0 := (cell_far (p := ⟨gb138, 1, none⟩) (by (rw [add_block]; exact hn139_0)) (.int .i64 (wrap64 (8 * (l0.length : Int))))).trans hx139_0; replace hx139_1 := (cell_far (p := ⟨gb138, 1, none⟩) (by (rw [add_block]; exact hn139_0)) (.int .i64 (wrap64 (8 * (l0.length : Int))))).trans hx139_1; clear hn139_0; replace p139 := eq_true p139; replace q139 := eq_true q139) | ((with_reducible refine gate_callee (f := 52) rfl ?_); refine gL 25 Tryz.func52 #[.slice (some ad139) l0.length c0] ?_; (with_reducible refine (span_Count.calls k _ _ l0 t140 _ ?side1 ?side2 A6.out).mono ?_); (case side1 => exact Kd.C_below HR0.out (bh HB.out)); (case side2 => exact HC0.out); rintro e w11 ⟨rfl, hb⟩; refine ⟨_, rfl, ?_⟩; replace BK137 := Aside0.mk (blk_below (g := gb137) (o := .cells #[.int .i64 0, .int .i64 0, .int .i64 0, .int .i64 0] 67 (0, 0)) (bx BK137.out) hb); replace BK138 := Aside0.mk (blk_below (g := gb138) (o := .cells #[.int .i64 0, .int .i64 (wrap64 (8 * (l0.length : Int))), .int .i64 (wrap64 (8 * (wrap64 ((wrap64 (Int.tdiv (wrap64 (((rd_T64 l0 (ji3)).f1) - 1)) 64)) + 1)))), .int .i64 0] 67 (0, 0)) (by refine blk_put (cs := #[.int .i64 0, .int .i64 (wrap64 (8 * (l0.length : Int))), .int .i64 0, .int .i64 0]) ?_ 2 _ rfl; refine blk_put (cs := #[.int .i64 0, .int .i64 0, .int .i64 0, .int .i64 0]) ?_ 1 _ rfl; exact BK138.out) hb); replace HB := bsa HB hb; clear hb; obtain ⟨hcz12_0, hcz12_1, hcz12_2, hcz12_3, hfz12_0, hfz12_1, hfz12_2, hfz12_3⟩ := b4 BK138; obtain ⟨hcz13_0, hcz13_1, hcz13_2, hcz13_3, hfz13_0, hfz13_1, hfz13_2, hfz13_3⟩ := b4 BK137) | ((with_reducible refine gate_store (t := 67) (p := 2) rfl ?_); refine stE 67 2 (((((w11.setCell ⟨gb138, 3, none⟩ (.int .i64 (wrap64 (2 * t140)))).setCell ⟨gb137, 0, none⟩ (.int .i64 0)).setCell ⟨gb137, 1, none⟩ (.int .i64 (wrap64 (8 * (l0.length : Int))))).setCell ⟨gb137, 2, none⟩ (.int .i64 (wrap64 (8 * (wrap64 ((wrap64 (Int.tdiv (wrap64 (((rd_T64 l0 (ji3)).f1) - 1)) 64)) + 1)))))).setCell ⟨gb137, 3, none⟩ (.int .i64 (wrap64 (2 * t140)))) ?_; intro w14 hw; replace BK137 := sps #[.int .i64 0, .int .i64 (wrap64 (8 * (l0.length : Int))), .int .i64 (wrap64 (8 * (wrap64 ((wrap64 (Int.tdiv (wrap64 (((rd_T64 l0 (ji3)).f1) - 1)) 64)) + 1)))), .int .i64 (wrap64 (2 * t140))] BK137 hw (.p (.p (.p (.p (.f NB137_138 .nil))))); replace BK138 := sps #[.int .i64 0, .int .i64 (wrap64 (8 * (l0.length : Int))), .int .i64 (wrap64 (8 * (wrap64 ((wrap64 (Int.tdiv (wrap64 (((rd_T64 l0 (ji3)).f1) - 1)) 64)) + 1)))), .int .i64 (wrap64 (2 * t140))] BK138 hw (.f NB138_137 (.f NB138_137 (.f NB138_137 (.f NB138_137 (.p .nil))))); replace HB := bhw HB hw; clear hw))
  refine bodyPost_ret (results_cell_row rfl _ _ gb137 67 #[.int .i64 0, .int .i64 (wrap64 (8 * (l0.length : Int))), .int .i64 (wrap64 (8 * (wrap64 ((wrap64 (Int.tdiv (wrap64 (((rd_T64 l0 (ji3)).f1) - 1)) 64)) + 1)))), .int .i64 (wrap64 (2 * t140))] (0, 0) _ rfl (bx BK137.out) Tryz.underlying67 rfl (by kernel_rfl)) rfl ?_
  exact ⟨by rfl, bh HB.out⟩
 ·replace H := bd H
  obtain ⟨t141, A15, H⟩ := H
  simp only [Option.some.injEq, Prod.mk.injEq] at H
  obtain ⟨rfl, rfl, rfl, rfl⟩ := H
  go_enter Tryz.func46, Tryz.ntmps46
  go_wp2_with (first | ((with_reducible refine gate_dst (N := 2) rfl ?_); refine boxE HB 2 67 #[.int .i64 0, .int .i64 0, .int .i64 0, .int .i64 0] ?_; clear HB; intro gb137 w16 BK137 GW137 hg hb HB; have GE137 := GW137; clear hb hg) | ((with_reducible refine gate_dst (N := 3) rfl ?_); refine boxE HB 3 67 #[.int .i64 0, .int .i64 0, .int .i64 0, .int .i64 0] ?_; clear HB; intro gb138 w17 BK138 GW138 hg hb HB; have GE138 := GW138; have NB137_138 := bna BK137 hg; have NB138_137 := bma BK137 hg; replace BK137 := bba BK137 hb; clear hb hg; have hnb18 := NB138_137.out; have hnc18 := NB137_138.out; obtain ⟨hcz19_0, hcz19_1, hcz19_2, hcz19_3, hfz19_0, hfz19_1, hfz19_2, hfz19_3⟩ := b4 BK138) | ((with_reducible refine gate_callee (f := 52) rfl ?_); refine gL 25 Tryz.func52 #[.slice A0 l0.length c0] ?_; (with_reducible refine (span_Count.calls k _ _ l0 t141 _ ?side1 ?side2 A15.out).mono ?_); (case side1 => exact Kd.C_below HR0.out (bh HB.out)); (case side2 => exact HC0.out); rintro e w20 ⟨rfl, hb⟩; refine ⟨_, rfl, ?_⟩; replace BK137 := Aside0.mk (blk_below (g := gb137) (o := .cells #[.int .i64 0, .int .i64 0, .int .i64 0, .int .i64 0] 67 (0, 0)) (bx BK137.out) hb); replace BK138 := Aside0.mk (blk_below (g := gb138) (o := .cells #[.int .i64 0, .int .i64 (wrap64 (8 * (l0.length : Int))), .int .i64 0, .int .i64 0] 67 (0, 0)) (by refine blk_put (cs := #[.int .i64 0, .int .i64 0, .int .i64 0, .int .i64 0]) ?_ 1 _ rfl; exact BK138.out) hb); replace HB := bsa HB hb; clear hb; obtain ⟨hcz21_0, hcz21_1, hcz21_2, hcz21_3, hfz21_0, hfz21_1, hfz21_2, hfz21_3⟩ := b4 BK138; obtain ⟨hcz22_0, hcz22_1, hcz22_2, hcz22_3, hfz22_0, hfz22_1, hfz22_2, hfz22_3⟩ := b4 BK137) | ((with_reducible refine gate_store (t := 67) (p := 2) rfl ?_); refine stE 67 2 (((((w20.setCell ⟨gb138, 3, none⟩ (.int .i64 (wrap64 (2 * t141)))).setCell ⟨gb137, 0, none⟩ (.int .i64 0)).setCell ⟨gb137, 1, none⟩ (.int .i64 (wrap64 (8 * (l0.length : Int))))).setCell ⟨gb137, 2, none⟩ (.int .i64 0)).setCell ⟨gb137, 3, none⟩ (.int .i64 (wrap64 (2 * t141)))) ?_; intro w23 hw; replace BK137 := sps #[.int .i64 0, .int .i64 (wrap64 (8 * (l0.length : Int))), .int .i64 0, .int .i64 (wrap64 (2 * t141))] BK137 hw (.p (.p (.p (.p (.f NB137_138 .nil))))); replace BK138 := sps #[.int .i64 0, .int .i64 (wrap64 (8 * (l0.length : Int))), .int .i64 0, .int .i64 (wrap64 (2 * t141))] BK138 hw (.f NB138_137 (.f NB138_137 (.f NB138_137 (.f NB138_137 (.p .nil))))); replace HB := bhw HB hw; clear hw))
  refine bodyPost_ret (results_cell_row rfl _ _ gb137 67 #[.int .i64 0, .int .i64 (wrap64 (8 * (l0.length : Int))), .int .i64 0, .int .i64 (wrap64 (2 * t141))] (0, 0) _ rfl (bx BK137.out) Tryz.underlying67 rfl (by kernel_rfl)) rfl ?_
  exact ⟨er, bh HB.out⟩
/-! ### api_Span_42: function 42 (a contract of the session's own) -/
def api_Span_42.f (l0 : List S64) : Option (List S64) := if l0.length ≤ 2000000000000 then some l0 else none
set_option maxHeartbeats 4000000 in
set_option maxRecDepth 100000 in
theorem api_Span_42.calls (A0 : Option Addr) (c0 : Nat) (l0 : List S64) (r : List S64) (w : World) (hr0 : k64.C w A0 l0.length l0) (hc0 : l0.length ≤ c0) (h : api_Span_42.f l0 = some r) :
    Calls Tryz.prog 42 #[.slice A0 l0.length c0] w fun e w' => ∃ v0_ : Value, e = .returned v0_ ∧ k64.R 64 w' w.heap.size (fun _ => True) v0_ r ∧ Below w.heap.size w w' := by
 have hl : l0.length ≤ 2000000000000 := by
   unfold api_Span_42.f at h
   split at h
   ·assumption
   ·exact absurd h (by simp)
 obtain rfl : l0 = r := by
   unfold api_Span_42.f at h
   rw [if_pos hl] at h
   exact Option.some.inj h
 have HR := Aside0.mk hr0
 have HC := Aside0.mk hc0
 have HL := Aside0.mk hl
 clear hr0 hc0 hl h
 go_enter Tryz.func42, Tryz.ntmps42
 rcases A0 with _ | ad
 ·have h0 : l0 = [] := by
    have := HR.out.2.2
    rcases l0 with _ | ⟨x, l⟩
    ·rfl
    ·obtain ⟨ad, he, _⟩ := this (by simp)
     exact absurd he (by simp)
  subst h0
  have hE := Go.Lib.run_eql_slice_nil_nil (P := Tryz.prog) w (t := 22) (e := 64) 0 c0 Tryz.underlying22
  go_wp2
  go_ret
  exact ⟨_, rfl, Kd.R_nil _ _ _ _ _, Below.refl _ _⟩
 ·have hE := Go.Lib.run_eql_slice_some_nil (P := Tryz.prog) w (t := 22) (e := 64) ad l0.length c0 Tryz.underlying22
  go_wp2_with (first | ((with_reducible refine gate_dst (N := 5) rfl ?_); refine Kd.R_lit k64 (w0 := w) w.heap.size 64 rfl (N := 5) rfl (xs := []) (inner := []) (ok := fun _ => True) (okp := fun _ => True) (by (go_simp; done)) (Reps.none _ _) (fun _ _ => trivial) trivial (Below.refl _ _) (Nat.le_refl _) (by simp) ?_; intro v5 w1 ho5 hb hg_ hnew_; have HO5 := Aside0.mk ho5; have HB := Aside0.mk hb; clear ho5 hb hg_ hnew_; obtain ⟨Ao5, co5, eo5⟩ := Kd.R_slice HO5.out; subst eo5) | ((with_reducible refine gate_builtin (b := .append) (xs := #[.tmp 5, .tmp 6]) rfl ?_); at_builtin; refine Kd.R_append_rows k64 (w0 := w) w.heap.size rfl (.tmp 5) (.tmp 6) 22 64 _ _ rfl Tryz.underlying22 info64 rfl (by decide) (by omega) _ [] l0 _ _ _ (fun _ => True) (fun _ => False) rfl rfl HO5.out (Kd.C_below HR.out HB.out) (fun _ _ h => h) (fun _ h => h.elim) (fun _ _ => trivial) HB.out (below_size HB.out) (by have := HL.out; simp; omega) ?_; intro v7 w2 ho7 hb7 hg_ hat_; have HO7 := Aside0.mk ho7; have HB7 := Aside0.mk hb7; clear ho7 hb7 hg_ hat_))
  go_ret
  exact ⟨_, rfl, by simpa using HO7.out, HB7.out⟩
/-! ### bits_placed: function 113 -/
def bits_placed.f (a0 : Int) (a1 : Int) : Option (Bool) := if a0 ≥ 0 then (if a0 < 64 then (some (decide (a1 ≥ 1))) else (some false)) else (some false)
set_option maxHeartbeats 8000000 in
set_option maxRecDepth 100000 in
theorem bits_placed.calls (a0 : Int) (a1 : Int) (r : Bool) (w : World) (h : bits_placed.f a0 a1 = some r) :
  Calls Tryz.prog 113 #[.int .i64 a0, .int .i64 a1] w fun e w' => e = .returned (.bool r) ∧ Drawn0 w w' := by
 have H := h
 clear h
 unfold bits_placed.f at H
 replace H := ifd H
 rcases H with ⟨-, c3b0, H⟩ | ⟨-, c3b0, H⟩
 ·replace H := ifd H
  rcases H with ⟨-, c4b0, H⟩ | ⟨-, c4b0, H⟩
  ·obtain rfl := Option.some.inj H
   go_enter Tryz.func113, Tryz.ntmps113
   go_wp2
   go_ret
   exact ⟨by rfl, by repeat (exact Drawn0.refl _)⟩
  ·obtain rfl := Option.some.inj H
   go_enter Tryz.func113, Tryz.ntmps113
   go_wp2
   go_ret
   exact ⟨by rfl, by repeat (exact Drawn0.refl _)⟩
 ·obtain rfl := Option.some.inj H
  go_enter Tryz.func113, Tryz.ntmps113
  go_wp2
  go_ret
  exact ⟨by rfl, by repeat (exact Drawn0.refl _)⟩
/-! ### bits_Mask: function 114 -/
def bits_Mask.f (a0 : Int) : Option (Int) := if a0 ≤ 0 then (some 0) else (if a0 ≥ 64 then (some (-1)) else (if 0 ≤ a0 then (some (wrap64 (IntKind.u64.wrap ((shl .u64 1 a0) - 1)))) else (none)))
set_option maxHeartbeats 8000000 in
set_option maxRecDepth 100000 in
theorem bits_Mask.calls (a0 : Int) (r : Int) (w : World) (h : bits_Mask.f a0 = some r) :
  Calls Tryz.prog 114 #[.int .i64 a0] w fun e w' => e = .returned (.int .i64 r) ∧ Drawn0 w w' := by
 have H := h
 clear h
 unfold bits_Mask.f at H
 replace H := ifd H
 rcases H with ⟨-, c2b0, H⟩ | ⟨-, c2b0, H⟩
 ·obtain rfl := Option.some.inj H
  go_enter Tryz.func114, Tryz.ntmps114
  go_wp2
  go_ret
  exact ⟨by rfl, by repeat (exact Drawn0.refl _)⟩
 ·replace H := ifd H
  rcases H with ⟨-, c3b0, H⟩ | ⟨-, c3b0, H⟩
  ·obtain rfl := Option.some.inj H
   go_enter Tryz.func114, Tryz.ntmps114
   go_wp2
   go_ret
   exact ⟨by rfl, by repeat (exact Drawn0.refl _)⟩
  ·replace H := ifn H
   obtain ⟨c4, -, H⟩ := H
   have c4b0 := eq_true c4
   have c4b1 : decide (0 ≤ a0) = true := decide_eq_true c4
   clear c4
   obtain ⟨ji5, hji5⟩ : ∃ j_ : Int, (shl .u64 1 a0) = j_ := ⟨_, rfl⟩
   replace H : (some (wrap64 (IntKind.u64.wrap ((ji5) - 1)))) = some r := by (rw [hji5] at H; exact H)
   have hji5_ : (IntKind.u64.wrap (1 * 2 ^ min a0.toNat 64)) = ji5 := hji5
   have hji5z : a0 ≤ 64 → (IntKind.u64.wrap (1 * 2 ^ a0.toNat)) = ji5 := shl_small hji5
   have hji5u : (IntKind.u64.wrap (2 ^ min a0.toNat 64)) = ji5 := by have h_ := hji5_; rw [Int.one_mul] at h_; exact h_
   have hji5v : a0 ≤ 64 → (IntKind.u64.wrap (2 ^ a0.toNat)) = ji5 := fun hle_ => by have h_ := hji5z hle_; rw [Int.one_mul] at h_; exact h_
   obtain rfl := Option.some.inj H
   go_enter Tryz.func114, Tryz.ntmps114
   go_wp2
   go_ret
   exact ⟨by rfl, by repeat (exact Drawn0.refl _)⟩
/-! ### bits_With: function 103 -/
def bits_With.f (a0 : Int) (a1 : Int) (a2 : Int) (a3 : Int) : Option (Int) := (bits_placed.f a1 a2).bind fun t142 => (if t142 = true then ((bits_Mask.f a2).bind fun t143 => (if 0 ≤ a1 then (some (wrap64 (Go.bits .or .u64 (Go.bits .andNot .u64 (IntKind.u64.wrap (a0)) (shl .u64 (IntKind.u64.wrap (t143)) a1)) (Go.bits .and .u64 (shl .u64 (IntKind.u64.wrap (a3)) a1) (shl .u64 (IntKind.u64.wrap (t143)) a1))))) else (none))) else (some a0))
set_option maxHeartbeats 8000000 in
set_option maxRecDepth 100000 in
theorem bits_With.calls (a0 : Int) (a1 : Int) (a2 : Int) (a3 : Int) (r : Int) (w : World) (h : bits_With.f a0 a1 a2 a3 = some r) :
  Calls Tryz.prog 103 #[.int .i64 a0, .int .i64 a1, .int .i64 a2, .int .i64 a3] w fun e w' => e = .returned (.int .i64 r) ∧ Drawn0 w w' := by
 have H := h
 clear h
 unfold bits_With.f at H
 replace H := bd H
 obtain ⟨t142, A5, H⟩ := H
 replace H := ifb H
 rcases H with ⟨rfl, H⟩ | ⟨rfl, H⟩
 ·replace H := bd H
  obtain ⟨t143, A7, H⟩ := H
  replace H := ifn H
  obtain ⟨c8, -, H⟩ := H
  have c8b0 := eq_true c8
  have c8b1 : decide (0 ≤ a1) = true := decide_eq_true c8
  clear c8
  obtain ⟨ji9, hji9⟩ : ∃ j_ : Int, (shl .u64 (IntKind.u64.wrap (t143)) a1) = j_ := ⟨_, rfl⟩
  replace H : (some (wrap64 (Go.bits .or .u64 (Go.bits .andNot .u64 (IntKind.u64.wrap (a0)) (ji9)) (Go.bits .and .u64 (shl .u64 (IntKind.u64.wrap (a3)) a1) (ji9))))) = some r := by (rw [hji9] at H; exact H)
  have hji9_ : (IntKind.u64.wrap ((IntKind.u64.wrap (t143)) * 2 ^ min a1.toNat 64)) = ji9 := hji9
  have hji9z : a1 ≤ 64 → (IntKind.u64.wrap ((IntKind.u64.wrap (t143)) * 2 ^ a1.toNat)) = ji9 := shl_small hji9
  have c10b0 := eq_true (of_decide_eq_true (by assumption) : 0 ≤ a1)
  obtain ⟨ji11, hji11⟩ : ∃ j_ : Int, (shl .u64 (IntKind.u64.wrap (a3)) a1) = j_ := ⟨_, rfl⟩
  replace H : (some (wrap64 (Go.bits .or .u64 (Go.bits .andNot .u64 (IntKind.u64.wrap (a0)) (ji9)) (Go.bits .and .u64 (ji11) (ji9))))) = some r := by (rw [hji11] at H; exact H)
  have hji11_ : (IntKind.u64.wrap ((IntKind.u64.wrap (a3)) * 2 ^ min a1.toNat 64)) = ji11 := hji11
  have hji11z : a1 ≤ 64 → (IntKind.u64.wrap ((IntKind.u64.wrap (a3)) * 2 ^ a1.toNat)) = ji11 := shl_small hji11
  obtain rfl := Option.some.inj H
  go_enter Tryz.func103, Tryz.ntmps103
  go_wp2_with (first | ((with_reducible refine gate_callee (f := 113) rfl ?_); refine gL 12 Tryz.func113 #[.int .i64 a1, .int .i64 a2] ?_; (with_reducible refine (bits_placed.calls a1 a2 true _ A5.out).mono ?_); rintro e w' ⟨rfl, ⟨nd, rfl⟩⟩; refine ⟨_, rfl, ?_⟩) | ((with_reducible refine gate_callee (f := 114) rfl ?_); refine gL 16 Tryz.func114 #[.int .i64 a2] ?_; (with_reducible refine (bits_Mask.calls a2 t143 _ A7.out).mono ?_); rintro e w' ⟨rfl, ⟨nd, rfl⟩⟩; refine ⟨_, rfl, ?_⟩))
  go_ret
  exact ⟨by rfl, by repeat (first | exact Drawn0.refl _ | apply Drawn0.step)⟩
 ·obtain rfl := Option.some.inj H
  go_enter Tryz.func103, Tryz.ntmps103
  go_wp2_with (((with_reducible refine gate_callee (f := 113) rfl ?_); refine gL 12 Tryz.func113 #[.int .i64 a1, .int .i64 a2] ?_; (with_reducible refine (bits_placed.calls a1 a2 false _ A5.out).mono ?_); rintro e w' ⟨rfl, ⟨nd, rfl⟩⟩; refine ⟨_, rfl, ?_⟩))
  go_ret
  exact ⟨by rfl, by repeat (first | exact Drawn0.refl _ | apply Drawn0.step)⟩
/-! ### words_fills: function 73 -/
def words_fills.l0 : Nat → List Int → Int → Int → Option (List Int)
 | 0, _, _, _ => none
 | k + 1, x0, x1, x2 => if x1 < x2 then (if 0 ≤ (x1 / 64) then (if (x1 / 64) < (x0.length : Int) then ((bits_With.f (rd x0 (x1 / 64)) (Go.bits .and .i64 x1 63) (mn (wrap64 (64 - (Go.bits .and .i64 x1 63))) (wrap64 (x2 - x1))) (-1)).bind fun t145 => (words_fills.l0 k (x0.set ((x1 / 64) : Int).toNat t145) (wrap64 (x1 + (mn (wrap64 (64 - (Go.bits .and .i64 x1 63))) (wrap64 (x2 - x1))))) x2)) else (none)) else (none)) else (some x0)
def words_fills.f (k : Nat) (l0 : List Int) (a1 : Int) (a2 : Int) : Option (List Int) := words_fills.l0 k l0 a1 a2
theorem words_fills.l0_succ (k) (a0) (a1) (a2) : type_of% (@words_fills.l0.eq_2 a0 a1 a2 k) := words_fills.l0.eq_2 a0 a1 a2 k
theorem words_fills.mono_l : ∀ k, (∀ y0 y1 y2, LeO (words_fills.l0 k y0 y1 y2) (words_fills.l0 (k + 1) y0 y1 y2))
 | 0 => fun _ _ _ r h => by simp [words_fills.l0] at h
 | k + 1 => by
  have ih0 := words_fills.mono_l k
  ·intro y0 y1 y2
   unfold words_fills.l0
   repeat' first | (with_reducible exact ih0 _ _ _) | (with_reducible exact LeO.refl _) | (with_reducible refine LeO.ite ?_ ?_) | (with_reducible refine LeO.bind ?_ (fun _ => ?_))
theorem words_fills.mono : ∀ a0 a1 a2 k, LeO (words_fills.f k a0 a1 a2) (words_fills.f (k + 1) a0 a1 a2) := by
 intro a0 a1 a2 k
 have ih0 := words_fills.mono_l k
 unfold words_fills.f
 repeat' (with_reducible exact ih0 _ _ _)
set_option maxHeartbeats 8000000 in
set_option maxRecDepth 100000 in
theorem words_fills.calls (k : Nat) (P0_ : Nat → Prop) (u9000_ : Value) (l0 : List Int) (a1 : Int) (a2 : Int) (r : List Int) (w0 w : World) (hB : Below w0.heap.size w0 w) (ho0 : Kd.R (Kd.int .i64) 3 w w0.heap.size P0_ u9000_ l0) (h : words_fills.f k l0 a1 a2 = some r) :
  Calls Tryz.prog 73 #[u9000_, .int .i64 a1, .int .i64 a2] w fun e w' => e = .returned (.tuple #[]) ∧ Kd.R (Kd.int .i64) 3 w' w0.heap.size (fun k_ => (P0_ k_ ∨ w.heap.size ≤ k_)) u9000_ r ∧ Below w0.heap.size w0 w' ∧ Kept w w' (fun k_ => P0_ k_) := by
 have HO0 := Aside0.mk (show Kd.R (Kd.int .i64) 3 w w0.heap.size (fun k_ => (P0_ k_ ∨ w.heap.size ≤ k_)) u9000_ l0 from Kd.R_mono ho0 (fun k_ hk => (.inl hk)))
 have HK := Aside0.mk (Kept.refl w (fun k_ => P0_ k_))
 have HW0 := Aside0.mk hB.size
 have HB := Aside0.mk hB
 clear hB
 have H := h
 clear h
 unfold words_fills.f at H
 have H' := Aside0.mk H
 clear H
 go_enter Tryz.func73, Tryz.ntmps73
 go_wp2
 go_loopg [1] k (fun kq v1 w' => ∃ (x0_1 : List Int) (x1_1 : Int), v1 = .int .i64 x1_1 ∧ Aside0 (words_fills.l0 kq x0_1 x1_1 a2 = some r) ∧ Aside0 (kq ≤ k) ∧ Aside0 (Kd.R (Kd.int .i64) 3 w' w0.heap.size (fun k_ => (P0_ k_ ∨ w.heap.size ≤ k_)) u9000_ x0_1) ∧ Aside0 (Kept w w' (fun k_ => P0_ k_)) ∧ Aside0 (Below w0.heap.size w0 w'))
 case atStart => exact ⟨(l0), (a1), (by rfl), H', ⟨Nat.le_refl _⟩, ⟨by exact HO0.out⟩, ⟨by repeat ((with_reducible exact HK.out))⟩, ⟨bh HB.out⟩⟩
 case round =>
  clear H'
  obtain ⟨x0_1, x1_1, rfl, HA, HK1, HO_0, HK, HB⟩ := hrel
  cases gk with
  | zero => exact absurd HA.out (by simp [words_fills.l0])
  | succ k1 =>
   have H := HA.out
   clear HA
   simp only [words_fills.l0] at H
   replace H := ifd H
   rcases H with ⟨-, c4b0, H⟩ | ⟨-, c4b0, H⟩
   ·obtain ⟨ji5, hji5⟩ : ∃ j_ : Int, (mn (wrap64 (64 - (Go.bits .and .i64 x1_1 63))) (wrap64 (a2 - x1_1))) = j_ := ⟨_, rfl⟩
    replace H : (if 0 ≤ (x1_1 / 64) then (if (x1_1 / 64) < (x0_1.length : Int) then ((bits_With.f (rd x0_1 (x1_1 / 64)) (Go.bits .and .i64 x1_1 63) (ji5) (-1)).bind fun t145 => (words_fills.l0 k1 (x0_1.set ((x1_1 / 64) : Int).toNat t145) (wrap64 (x1_1 + (ji5))) a2)) else (none)) else (none)) = some r := by (rw [hji5] at H; exact H)
    have hji5_ : (if (wrap64 (a2 - x1_1)) < (wrap64 (64 - (Go.bits .and .i64 x1_1 63))) then (wrap64 (a2 - x1_1)) else (wrap64 (64 - (Go.bits .and .i64 x1_1 63)))) = ji5 := hji5
    obtain ⟨ji6, hji6⟩ : ∃ j_ : Int, (x1_1 / 64) = j_ := ⟨_, rfl⟩
    replace H : (if 0 ≤ (ji6) then (if (ji6) < (x0_1.length : Int) then ((bits_With.f (rd x0_1 (ji6)) (Go.bits .and .i64 x1_1 63) (ji5) (-1)).bind fun t145 => (words_fills.l0 k1 (x0_1.set ((ji6) : Int).toNat t145) (wrap64 (x1_1 + (ji5))) a2)) else (none)) else (none)) = some r := by (rw [hji6] at H; exact H)
    replace H := ifn H
    obtain ⟨-, c7b0, H⟩ := H
    replace H := ifn H
    obtain ⟨-, c8b0, H⟩ := H
    replace H := bd H
    obtain ⟨t145, A9, H⟩ := H
    obtain ⟨y146, hy146⟩ : ∃ y_ : List Int, y_ = (x0_1.set ((ji6) : Int).toNat t145) := ⟨_, rfl⟩
    replace H : (words_fills.l0 k1 y146 (wrap64 (x1_1 + (ji5))) a2) = some r := by (rw [hy146]; with_reducible exact H)
    have Ny146 := Aside0.mk hy146
    clear hy146
    have H' := Aside0.mk H
    clear H
    obtain ⟨Ao11, co11, eo11⟩ := Kd.R_slice HO_0.out
    subst eo11
    have p144 : 0 ≤ ((ji6) : Int) := ad
    have q144 : (ji6) < (x0_1.length : Int) := ad
    obtain ⟨ad144, e144, hx144_0⟩ := Kd.at_int (Kd.R_reads' HO_0.out).2.2 (ji6) p144 q144
    cases e144
    replace p144 := eq_true p144
    replace q144 := eq_true q144
    go_wp2_with (first | ((with_reducible refine gate_callee (f := 103) rfl ?_); refine gL 29 Tryz.func103 #[.int .i64 (rd x0_1 (ji6)), .int .i64 (Go.bits .and .i64 x1_1 63), .int .i64 ji5, .int .i64 (-1)] ?_; (with_reducible refine (bits_With.calls (rd x0_1 (ji6)) (Go.bits .and .i64 x1_1 63) ji5 (-1) t145 _ A9.out).mono ?_); rintro e w' ⟨rfl, ⟨nd, rfl⟩⟩; refine ⟨_, rfl, ?_⟩; ((rw [drewN_self wr]; generalize hq_ : World.drewN wr _ = wr; have n0_ : Aside0 (Kd.R (Kd.int .i64) 3 wr w0.heap.size (fun k_ => (P0_ k_ ∨ w.heap.size ≤ k_)) (.slice (some ad144) x0_1.length co11) x0_1) := ⟨by rw [← hq_]; exact (rx HO_0.out)⟩; have n1_ : Aside0 (Kept w wr (fun k_ => P0_ k_)) := ⟨by rw [← hq_]; exact (by repeat ((with_reducible first | exact HK.out | apply Kept.drewN)))⟩; have n2_ : Aside0 (Below w0.heap.size w0 wr) := ⟨by rw [← hq_]; exact (bh HB.out)⟩; clear HO_0 HK HB hq_; have HO_0 := n0_; have HK := n1_; have HB := n2_; clear n0_ n1_ n2_)); have p10 : 0 ≤ ((ji6) : Int) := ad; have q10 : ((ji6) : Int) < ((x0_1.length : Int) : Int) := ad; obtain ⟨go10, co10, eo10, gb10, gl10, cl10, HG10⟩ := Kd.R_form HO_0.out (by omega); (cases eo10); have GB10 := Aside0.mk gb10; have GG10 := Aside0.mk HG10; clear gb10 gl10 HG10; have HMgo10 := Aside0.mk (show (P0_ go10 ∨ w.heap.size ≤ go10) from (HO_0.out.1 _ rfl)); (simp only [add_plain] at hx144_0); obtain ⟨hx10_0, hf10_0⟩ := Kd.R_celln 0 HO_0.out ((ji6) : Int) p10 q10; replace p10 := eq_true p10; replace q10 := eq_true q10; obtain ⟨hy12_, hz12_⟩ := Kd.R_celln 0 HO_0.out ((ji6) : Int) (of_decide_eq_true (by assumption)) (of_decide_eq_true (by assumption)); have HP12 := Kd.R_putg HO_0.out ((ji6) : Int) t145) | ((with_reducible refine gate_store (t := 3) (p := 30) rfl ?_); refine stE 3 30 (wr.setCell ⟨go10, ((ji6) : Int).toNat, none⟩ (.int .i64 t145)) ?_; intro w13 hw; have hg : wr.grownBy w13 (some go10) := (by rw [hw]; exact HP12.2); have hp_ : Kd.R (Kd.int .i64) 3 w13 w0.heap.size (fun k_ => (P0_ k_ ∨ w.heap.size ≤ k_)) (.slice (some ⟨go10, 0, none⟩) x0_1.length co11) y146 := (by rw [hw, Ny146.out]; exact HP12.1); clear HP12; replace HB := Aside0.mk ((by rw [hw]; exact below_set (HB.out) GB10.out : Below w0.heap.size w0 w13)); replace HK := Aside0.mk (Kept.of_grown (S := (fun k_ => P0_ k_)) hg (by repeat ((with_reducible exact HK.out))) (fun k_ e_ => (HO_0.out.1 k_ e_))); replace HO_0 := Aside0.mk (hp_); clear hg hw hp_))
    go_roundg k1
    case measure => have := HK1.out; omega
    case rel => exact ⟨(y146), (wrap64 (x1_1 + (ji5))), (by rfl), (by exact H'), ⟨by have := HK1.out; omega⟩, ⟨by exact HO_0.out⟩, ⟨by repeat ((with_reducible exact HK.out))⟩, ⟨bh HB.out⟩⟩
   ·obtain rfl := Option.some.inj H
    go_wp2
    go_end0
    exact ⟨er, by exact HO_0.out, bh HB.out, by repeat ((with_reducible exact HK.out))⟩
/-! ### words_Of: function 43 -/
def words_Of.l0 : Nat → List Int → List (S64) → Int → Int → Option (List Int × Int)
 | 0, _, _, _, _ => none
 | k + 1, x4, x24, x25, x26 => if x26 < x25 then (if 0 ≤ x26 then (if x26 < (x24.length : Int) then ((words_fills.f k x4 ((rd_T64 x24 x26).f0) ((rd_T64 x24 x26).f1)).bind fun t154 => (words_Of.l0 k t154 x24 x25 (wrap64 (x26 + 1)))) else (none)) else (none)) else (some (x4, 0))
def words_Of.f (k : Nat) (l0 : List (S64)) : Option (List Int × Int) := (span_May.f k l0).bind fun t147 => (if t147 = true then (if (l0.length : Int) = 0 then (some (([] : List Int), 0)) else (if 0 ≤ (wrap64 ((l0.length : Int) - 1)) then (if (wrap64 ((l0.length : Int) - 1)) < (l0.length : Int) then (if 0 ≤ ((wrap64 ((wrap64 (((rd_T64 l0 (wrap64 ((l0.length : Int) - 1))).f1) + 64)) - 1)) / 64) then (if ((wrap64 ((wrap64 (((rd_T64 l0 (wrap64 ((l0.length : Int) - 1))).f1) + 64)) - 1)) / 64 : Int).toNat ≤ 35184372088832 then (words_Of.l0 k (List.replicate ((wrap64 ((wrap64 (((rd_T64 l0 (wrap64 ((l0.length : Int) - 1))).f1) + 64)) - 1)) / 64 : Int).toNat 0) l0 (l0.length : Int) 0) else (none)) else (none)) else (none)) else (none))) else (some (([] : List Int), 1)))
theorem words_Of.l0_succ (k) (a0) (a1) (a2) (a3) : type_of% (@words_Of.l0.eq_2 a0 a1 a2 a3 k) := words_Of.l0.eq_2 a0 a1 a2 a3 k
theorem words_Of.mono_l : ∀ k, (∀ y0 y1 y2 y3, LeO (words_Of.l0 k y0 y1 y2 y3) (words_Of.l0 (k + 1) y0 y1 y2 y3))
 | 0 => fun _ _ _ _ r h => by simp [words_Of.l0] at h
 | k + 1 => by
  have ih0 := words_Of.mono_l k
  ·intro y0 y1 y2 y3
   unfold words_Of.l0
   repeat' first | (with_reducible exact ih0 _ _ _ _) | (with_reducible exact words_fills.mono _ _ _ _) | (with_reducible exact LeO.refl _) | (with_reducible refine LeO.ite ?_ ?_) | (with_reducible refine LeO.bind ?_ (fun _ => ?_))
theorem words_Of.mono : ∀ a0 k, LeO (words_Of.f k a0) (words_Of.f (k + 1) a0) := by
 intro a0 k
 have ih0 := words_Of.mono_l k
 unfold words_Of.f
 repeat' first | (with_reducible exact ih0 _ _ _ _) | (with_reducible exact span_May.mono _ _) | (with_reducible exact LeO.refl _) | (with_reducible refine LeO.ite ?_ ?_) | (with_reducible refine LeO.bind ?_ (fun _ => ?_))
set_option maxHeartbeats 8000000 in
set_option maxRecDepth 100000 in
theorem words_Of.calls (k : Nat) (A0 : Option Addr) (c0 : Nat) (l0 : List (S64)) (r1 : List Int) (r2 : Int) (w : World) (hr0 : Kd.C k64 w A0 l0.length l0) (hc0 : l0.length ≤ c0) (h : words_Of.f k l0 = some (r1, r2)) :
  Calls Tryz.prog 43 #[.slice A0 l0.length c0] w fun e w' => ∃ v0_ : Value, e = .returned (.tuple #[v0_, .int .i64 r2]) ∧ Kd.R (Kd.int .i64) 3 w' w.heap.size (fun _ => True) v0_ r1 ∧ Below w.heap.size w w' := by
 have hu64 := Tryz.underlying64
 have HR0 := Aside0.mk hr0
 have HC0 := Aside0.mk hc0
 clear hr0 hc0
 have HB := Aside0.mk (Below.refl w.heap.size w)
 have H := h
 clear h
 unfold words_Of.f at H
 replace H := bd H
 obtain ⟨t147, A2, H⟩ := H
 replace H := ifb H
 rcases H with ⟨rfl, H⟩ | ⟨rfl, H⟩
 ·replace H := ife H
  rcases H with ⟨-, c4b0, c4b1, H⟩ | ⟨c4, c4b0, c4b1, H⟩
  ·simp only [Option.some.injEq, Prod.mk.injEq] at H
   obtain ⟨rfl, rfl⟩ := H
   go_enter Tryz.func43, Tryz.ntmps43
   go_wp2_with (((with_reducible refine gate_callee (f := 41) rfl ?_); refine gL 8 Tryz.func41 #[.slice A0 l0.length c0] ?_; (with_reducible refine (span_May.calls k _ _ l0 true _ ?side1 ?side2 A2.out).mono ?_); (case side1 => exact cx HR0.out); (case side2 => exact HC0.out); rintro e w5 ⟨rfl, hb⟩; refine ⟨_, rfl, ?_⟩; replace HB := bsa HB hb; clear hb))
   go_ret2
   exact ⟨_, er, nl, bh HB.out⟩
  ·have c4b2 : ¬ (l0 = []) := fun h_ => c4 (by rw [h_]; rfl)
   obtain ⟨ji6, hji6⟩ : ∃ j_ : Int, (wrap64 ((l0.length : Int) - 1)) = j_ := ⟨_, rfl⟩
   replace H : (if 0 ≤ (ji6) then (if (ji6) < (l0.length : Int) then (if 0 ≤ ((wrap64 ((wrap64 (((rd_T64 l0 (ji6)).f1) + 64)) - 1)) / 64) then (if ((wrap64 ((wrap64 (((rd_T64 l0 (ji6)).f1) + 64)) - 1)) / 64 : Int).toNat ≤ 35184372088832 then (words_Of.l0 k (List.replicate ((wrap64 ((wrap64 (((rd_T64 l0 (ji6)).f1) + 64)) - 1)) / 64 : Int).toNat 0) l0 (l0.length : Int) 0) else (none)) else (none)) else (none)) else (none)) = some (r1, r2) := by (rw [hji6] at H; exact H)
   have hji6w : (IntKind.i64.wrap ((l0.length : Int) - 1)) = ji6 := (i64_w _).trans hji6
   replace H := ifn H
   obtain ⟨-, c7b0, H⟩ := H
   replace H := ifn H
   obtain ⟨-, c8b0, H⟩ := H
   obtain ⟨ji9, hji9⟩ : ∃ j_ : Int, ((wrap64 ((wrap64 (((rd_T64 l0 (ji6)).f1) + 64)) - 1)) / 64) = j_ := ⟨_, rfl⟩
   replace H : (if 0 ≤ (ji9) then (if (ji9 : Int).toNat ≤ 35184372088832 then (words_Of.l0 k (List.replicate (ji9 : Int).toNat 0) l0 (l0.length : Int) 0) else (none)) else (none)) = some (r1, r2) := by (rw [hji9] at H; exact H)
   replace H := ifn H
   obtain ⟨c10, -, H⟩ := H
   have c10b0 := eq_true c10
   have c10b1 : decide (0 ≤ (ji9)) = true := decide_eq_true c10
   clear c10
   replace H := ifn H
   obtain ⟨c11, -, H⟩ := H
   have c11b0 := eq_true c11
   have c11b1 : decide ((ji9 : Int).toNat ≤ 35184372088832) = true := decide_eq_true c11
   clear c11
   obtain ⟨y149, hy149⟩ : ∃ y_ : List Int, y_ = (List.replicate (ji9 : Int).toNat 0) := ⟨_, rfl⟩
   replace H : (words_Of.l0 k y149 l0 (l0.length : Int) 0) = some (r1, r2) := by (rw [hy149]; with_reducible exact H)
   have Ny149 := Aside0.mk hy149
   clear hy149
   have H' := Aside0.mk H
   clear H
   go_enter Tryz.func43, Tryz.ntmps43
   go_wp2_with (first | ((with_reducible refine gate_callee (f := 41) rfl ?_); refine gL 8 Tryz.func41 #[.slice A0 l0.length c0] ?_; (with_reducible refine (span_May.calls k _ _ l0 true _ ?side1 ?side2 A2.out).mono ?_); (case side1 => exact cx HR0.out); (case side2 => exact HC0.out); rintro e w12 ⟨rfl, hb⟩; refine ⟨_, rfl, ?_⟩; replace HB := bsa HB hb; clear hb; have p148 : 0 ≤ ((ji6) : Int) := ad; have q148 : (ji6) < (l0.length : Int) := ad; obtain ⟨ad148, e148, hx148_0, hx148_1⟩ := at_T64 HR0.out (ji6) p148 q148; cases e148; replace hx148_0 := cb HB.out.cell hx148_0; replace hx148_1 := cb HB.out.cell hx148_1; replace p148 := eq_true p148; replace q148 := eq_true q148) | ((with_reducible refine gate_dst (N := 23) rfl ?_); refine Kd.R_make (Kd.int .i64) _ 3 rfl (N := 23) rfl 25 _ _ rfl ji9 (by rfl) (by rfl) Tryz.underlying25 (.int .i64 0) 8 info3 rfl (by decide) (by omega) 0 (ok := fun _ => True) (okp := fun _ => True) rfl (fun _ hk => hk) trivial (of_decide_eq_true (by assumption)) (Nat.le_trans (Nat.mul_le_mul_right _ (of_decide_eq_true (by assumption) : ji9.toNat ≤ 35184372088832)) (by omega)) (Below.refl _ _) (Nat.le_refl _) ?_; intro v150 w13 ho14 hb hg_ hnew_; clear hg_ hnew_; (rw [← Ny149.out] at ho14); have HO151 := Aside0.mk (Kd.R_lower ho14 (below_size (bh HB.out))); replace HB := bsa HB hb; clear hb ho14))
   go_loopg [26] k (fun kq v26 w' => ∃ (x4_1 : List Int) (x26_1 : Int), v26 = .int .i64 x26_1 ∧ Aside0 (words_Of.l0 kq x4_1 l0 (l0.length : Int) x26_1 = some (r1, r2)) ∧ Aside0 (kq ≤ k) ∧ Aside0 (Kd.R (Kd.int .i64) 3 w' w.heap.size (fun _ => True) v150 x4_1) ∧ Aside0 (Below w.heap.size w w'))
   case atStart => exact ⟨(y149), (0), (by rfl), H', ⟨Nat.le_refl _⟩, ⟨by exact HO151.out⟩, ⟨bh HB.out⟩⟩
   case round =>
    clear H' c4 c4b0 c4b1 c4b2 c7b0 c8b0 c10b0 c10b1 c11b0 c11b1 hx148_0 hx148_1 p148 q148
    obtain ⟨x4_1, x26_1, rfl, HA, HK1, HO_4, HB⟩ := hrel
    cases gk with
    | zero => exact absurd HA.out (by simp [words_Of.l0])
    | succ k1 =>
     have H := HA.out
     clear HA
     simp only [words_Of.l0] at H
     replace H := ifd H
     rcases H with ⟨-, c15b0, H⟩ | ⟨-, c15b0, H⟩
     ·replace H := ifn H
      obtain ⟨-, c16b0, H⟩ := H
      replace H := ifn H
      obtain ⟨-, c17b0, H⟩ := H
      replace H := bd H
      obtain ⟨t154, A18, H⟩ := H
      have H' := Aside0.mk H
      clear H
      have p152 : 0 ≤ (x26_1 : Int) := ad
      have q152 : x26_1 < (l0.length : Int) := ad
      obtain ⟨ad152, e152, hx152_0, hx152_1⟩ := at_T64 HR0.out x26_1 p152 q152
      obtain rfl : ad148 = ad152 := (by injection e152)
      replace hx152_0 := cb HB.out.cell hx152_0
      replace hx152_1 := cb HB.out.cell hx152_1
      replace p152 := eq_true p152
      replace q152 := eq_true q152
      go_wp2_with (first | ((with_reducible refine gate_dst (N := 6) rfl ?_); refine box_event ?hg (N := 6) ?hd (cs := #[.int .i64 0, .int .i64 0]) (t := 64) ?hr ?_; (case hd => rfl); (case hg => rfl); (case hr => (go_simp; done)); intro gb153 hg w19 hbox hb; replace HO_4 := rba HO_4 hb; have BK153 := Aside0.mk (hbox); have GW153 := bza HB hg; have GE153 := bza HB hg; replace HB := bsa HB hb; clear hb hbox hg; obtain ⟨hcz20_0, hcz20_1, hfz20_0, hfz20_1⟩ := b2 BK153) | ((with_reducible refine gate_store (t := 64) (p := 6) rfl ?_); refine stE 64 6 ((w19.setCell ⟨gb153, 0, none⟩ (.int .i64 ((rd_T64 l0 x26_1).f0))).setCell ⟨gb153, 1, none⟩ (.int .i64 ((rd_T64 l0 x26_1).f1))) ?_; intro w21 hw; replace HO_4 := rsm (fun _ => True) HO_4 hw (fun _ hk => trivial); replace BK153 := sps #[.int .i64 ((rd_T64 l0 x26_1).f0), .int .i64 ((rd_T64 l0 x26_1).f1)] BK153 hw (.p (.p .nil)); replace HB := bhw HB hw; clear hw; obtain ⟨hcz22_0, hcz22_1, hfz22_0, hfz22_1⟩ := b2 BK153; obtain ⟨Ao23, co23, eo23⟩ := Kd.R_slice HO_4.out; subst eo23) | ((with_reducible refine gate_callee (f := 73) rfl ?_); refine gL 35 Tryz.func73 #[.slice Ao23 x4_1.length co23, .int .i64 ((rd_T64 l0 x26_1).f0), .int .i64 ((rd_T64 l0 x26_1).f1)] ?_; (with_reducible refine (words_fills.calls k1 (fun k_ => some k_ = (.slice Ao23 x4_1.length co23 : Value).ownBlock) (.slice Ao23 x4_1.length co23) x4_1 ((rd_T64 l0 x26_1).f0) ((rd_T64 l0 x26_1).f1) t154 w _ ?side1 ?side2 A18.out).mono ?_); (case side1 => repeat ((with_reducible exact HB.out))); (case side2 => exact Kd.R_tight rfl HO_4.out); rintro e w24 ⟨rfl, hy0, hb, hkp⟩; refine ⟨_, rfl, ?_⟩; replace BK153 := Aside0.mk (blk_kept (bx BK153.out) hkp (fun hs_ => (fun e_ => (Kd.R_ne HO_4.out BK153.out (by decide)) e_) hs_)); replace HO_4 := Aside0.mk (Kd.R_reok rfl hy0 (fun k_ e_ => HO_4.out.1 k_ e_)); replace HB := Aside0.mk (hb); clear hb hkp hy0))
      go_roundg k1
      case measure => have := HK1.out; omega
      case rel => exact ⟨(t154), (wrap64 (x26_1 + 1)), (by rfl), (by exact H'), ⟨by have := HK1.out; omega⟩, ⟨by exact HO_4.out⟩, ⟨bh HB.out⟩⟩
     ·simp only [Option.some.injEq, Prod.mk.injEq] at H
      obtain ⟨rfl, rfl⟩ := H
      go_wp2
      go_ret2
      exact ⟨_, by rfl, by exact HO_4.out, bh HB.out⟩
 ·simp only [Option.some.injEq, Prod.mk.injEq] at H
  obtain ⟨rfl, rfl⟩ := H
  go_enter Tryz.func43, Tryz.ntmps43
  go_wp2_with (((with_reducible refine gate_callee (f := 41) rfl ?_); refine gL 8 Tryz.func41 #[.slice A0 l0.length c0] ?_; (with_reducible refine (span_May.calls k _ _ l0 false _ ?side1 ?side2 A2.out).mono ?_); (case side1 => exact cx HR0.out); (case side2 => exact HC0.out); rintro e w25 ⟨rfl, hb⟩; refine ⟨_, rfl, ?_⟩; replace HB := bsa HB hb; clear hb))
  go_ret2
  exact ⟨_, er, nl, bh HB.out⟩
end Go.Proofs.YtjgmdjieandemaaGreat.Print
end
section
namespace Go.Proofs.YtjgmdjieandemaaGreat.Print
open Go.RowKit Go.Proofs.YtjgmdjieandemaaGreatW.PrintWords Go.Proofs.YtjgmdjieandemaaGreatW.PrintLast Go.Proofs.YtjgmdjieandemaaGreatW.PrintMore
attribute [local go_sem] max2_int min2_int max_two min_two max_three min_three max_four min_four   -- for this text's walks alone
set_option linter.unusedVariables false
set_option linter.unusedSimpArgs false
/-! ### span_Places: function 44 -/
mutual
def span_Places.l0 : Nat → List Int → List (S64) → Int → Int → Option (List Int × Int)
 | 0, _, _, _, _ => none
 | k + 1, x4, x14, x15, x16 => if x16 < x15 then (if 0 ≤ x16 then (if x16 < (x14.length : Int) then (span_Places.l1 k x4 ((rd_T64 x14 x16).f0) x14 x15 x16 ((rd_T64 x14 x16).f0) ((rd_T64 x14 x16).f1)) else (none)) else (none)) else (some (x4, 0))
def span_Places.l1 : Nat → List Int → Int → List (S64) → Int → Int → Int → Int → Option (List Int × Int)
 | 0, _, _, _, _, _, _, _ => none
 | k + 1, x4, x7, x14, x15, x16, x162000, x162001 => if x7 < x162001 then (if x4.length < 17592186044416 then (span_Places.l1 k (x4 ++ [x7]) (wrap64 (x7 + 1)) x14 x15 x16 x162000 x162001) else (none)) else (span_Places.l0 k x4 x14 x15 (wrap64 (x16 + 1)))
end
def span_Places.f (k : Nat) (l0 : List (S64)) : Option (List Int × Int) := (span_May.f k l0).bind fun t155 => (if t155 = true then ((span_Count.f k l0).bind fun t156 => (if 0 ≤ t156 then (if (t156 : Int).toNat ≤ 35184372088832 then (span_Places.l0 k (([] : List Int)) l0 (l0.length : Int) 0) else (none)) else (none))) else (some (([] : List Int), 1)))
theorem span_Places.l0_succ (k) (a0) (a1) (a2) (a3) : type_of% (@span_Places.l0.eq_2 a0 a1 a2 a3 k) := span_Places.l0.eq_2 a0 a1 a2 a3 k
theorem span_Places.l1_succ (k) (a0) (a1) (a2) (a3) (a4) (a5) (a6) : type_of% (@span_Places.l1.eq_2 a0 a1 a2 a3 a4 a5 a6 k) := span_Places.l1.eq_2 a0 a1 a2 a3 a4 a5 a6 k
theorem span_Places.mono_l : ∀ k, (∀ y0 y1 y2 y3, LeO (span_Places.l0 k y0 y1 y2 y3) (span_Places.l0 (k + 1) y0 y1 y2 y3)) ∧ (∀ y0 y1 y2 y3 y4 y5 y6, LeO (span_Places.l1 k y0 y1 y2 y3 y4 y5 y6) (span_Places.l1 (k + 1) y0 y1 y2 y3 y4 y5 y6))
 | 0 => ⟨fun _ _ _ _ r h => by simp [span_Places.l0] at h, fun _ _ _ _ _ _ _ r h => by simp [span_Places.l1] at h⟩
 | k + 1 => by
  obtain ⟨ih0, ih1⟩ := span_Places.mono_l k
  refine ⟨?_, ?_⟩
  ·intro y0 y1 y2 y3
   unfold span_Places.l0
   repeat' first | (with_reducible exact ih1 _ _ _ _ _ _ _) | (with_reducible exact LeO.refl _) | (with_reducible refine LeO.ite ?_ ?_)
  ·intro y0 y1 y2 y3 y4 y5 y6
   unfold span_Places.l1
   repeat' first | (with_reducible exact ih0 _ _ _ _) | (with_reducible exact ih1 _ _ _ _ _ _ _) | (with_reducible exact LeO.refl _) | (with_reducible refine LeO.ite ?_ ?_)
theorem span_Places.mono : ∀ a0 k, LeO (span_Places.f k a0) (span_Places.f (k + 1) a0) := by
 intro a0 k
 obtain ⟨ih0, ih1⟩ := span_Places.mono_l k
 unfold span_Places.f
 repeat' first | (with_reducible exact ih0 _ _ _ _) | (with_reducible exact span_Count.mono _ _) | (with_reducible exact span_May.mono _ _) | (with_reducible exact LeO.refl _) | (with_reducible refine LeO.ite ?_ ?_) | (with_reducible refine LeO.bind ?_ (fun _ => ?_))
set_option maxHeartbeats 8000000 in
set_option maxRecDepth 100000 in
theorem span_Places.calls (k : Nat) (A0 : Option Addr) (c0 : Nat) (l0 : List (S64)) (r1 : List Int) (r2 : Int) (w : World) (hr0 : Kd.C k64 w A0 l0.length l0) (hc0 : l0.length ≤ c0) (h : span_Places.f k l0 = some (r1, r2)) :
  Calls Tryz.prog 44 #[.slice A0 l0.length c0] w fun e w' => ∃ v0_ : Value, e = .returned (.tuple #[v0_, .int .i64 r2]) ∧ Kd.R (Kd.int .i64) 3 w' w.heap.size (fun _ => True) v0_ r1 ∧ Below w.heap.size w w' := by
 have hu64 := Tryz.underlying64
 have HR0 := Aside0.mk hr0
 have HC0 := Aside0.mk hc0
 clear hr0 hc0
 have HB := Aside0.mk (Below.refl w.heap.size w)
 have H := h
 clear h
 unfold span_Places.f at H
 replace H := bd H
 obtain ⟨t155, A2, H⟩ := H
 replace H := ifb H
 rcases H with ⟨rfl, H⟩ | ⟨rfl, H⟩
 ·replace H := bd H
  obtain ⟨t156, A4, H⟩ := H
  replace H := ifn H
  obtain ⟨c5, -, H⟩ := H
  have c5b0 := eq_true c5
  have c5b1 : decide (0 ≤ t156) = true := decide_eq_true c5
  clear c5
  replace H := ifn H
  obtain ⟨c6, -, H⟩ := H
  have c6b0 := eq_true c6
  have c6b1 : decide ((t156 : Int).toNat ≤ 35184372088832) = true := decide_eq_true c6
  clear c6
  obtain ⟨y157, hy157⟩ : ∃ y_ : List Int, y_ = (([] : List Int)) := ⟨_, rfl⟩
  replace H : (span_Places.l0 k y157 l0 (l0.length : Int) 0) = some (r1, r2) := by (rw [hy157]; with_reducible exact H)
  have Ny157 := Aside0.mk hy157
  clear hy157
  have H' := Aside0.mk H
  clear H
  go_enter Tryz.func44, Tryz.ntmps44
  go_wp2_with (first | ((with_reducible refine gate_callee (f := 41) rfl ?_); refine gL 9 Tryz.func41 #[.slice A0 l0.length c0] ?_; (with_reducible refine (span_May.calls k _ _ l0 true _ ?side1 ?side2 A2.out).mono ?_); (case side1 => exact cx HR0.out); (case side2 => exact HC0.out); rintro e w7 ⟨rfl, hb⟩; refine ⟨_, rfl, ?_⟩; replace HB := bsa HB hb; clear hb) | ((with_reducible refine gate_callee (f := 52) rfl ?_); refine gL 12 Tryz.func52 #[.slice A0 l0.length c0] ?_; (with_reducible refine (span_Count.calls k _ _ l0 t156 _ ?side1 ?side2 A4.out).mono ?_); (case side1 => exact cx (Kd.C_below HR0.out HB.out)); (case side2 => exact HC0.out); rintro e w8 ⟨rfl, hb⟩; refine ⟨_, rfl, ?_⟩; replace HB := bsa HB hb; clear hb) | ((with_reducible refine gate_dst (N := 13) rfl ?_); refine Kd.R_make0 (Kd.int .i64) _ 3 rfl (N := 13) rfl 25 _ _ rfl t156 rfl rfl Tryz.underlying25 (.int .i64 0) 8 info3 rfl (by decide) (by omega) 0 (ok := fun _ => True) (okp := fun _ => True) rfl (fun _ hk => hk) trivial (of_decide_eq_true (by assumption)) (Nat.le_trans (Nat.mul_le_mul_right _ (of_decide_eq_true (by assumption) : t156.toNat ≤ 35184372088832)) (by omega)) (Below.refl _ _) (Nat.le_refl _) ?_; intro v158 w9 ho10 hb hg_ hnew_; clear hg_ hnew_; (rw [← Ny157.out] at ho10); have HO159 := Aside0.mk (Kd.R_lower ho10 (below_size (bh HB.out))); replace HB := bsa HB hb; clear hb ho10))
  go_loopg [4, 16] k (fun kq v4 v16 w' => ∃ (x4_1 : List Int) (x16_1 : Int), v16 = .int .i64 x16_1 ∧ Aside0 (span_Places.l0 kq x4_1 l0 (l0.length : Int) x16_1 = some (r1, r2)) ∧ Aside0 (kq ≤ k) ∧ Aside0 (Kd.R (Kd.int .i64) 3 w' w.heap.size (fun _ => True) v4 x4_1) ∧ Aside0 (Below w.heap.size w w'))
  case atStart => exact ⟨(y157), (0), (by rfl), H', ⟨Nat.le_refl _⟩, ⟨by exact HO159.out⟩, ⟨bh HB.out⟩⟩
  case round =>
   clear H' c5b0 c5b1 c6b0 c6b1
   obtain ⟨x4_1, x16_1, rfl, HA, HK1, HO_4, HB⟩ := hrel
   cases gk with
   | zero => exact absurd HA.out (by simp [span_Places.l0])
   | succ k1 =>
    have H := HA.out
    clear HA
    simp only [span_Places.l0] at H
    replace H := ifd H
    rcases H with ⟨-, c11b0, H⟩ | ⟨-, c11b0, H⟩
    ·replace H := ifn H
     obtain ⟨-, c12b0, H⟩ := H
     replace H := ifn H
     obtain ⟨-, c13b0, H⟩ := H
     have H' := Aside0.mk H
     clear H
     have p160 : 0 ≤ (x16_1 : Int) := ad
     have q160 : x16_1 < (l0.length : Int) := ad
     obtain ⟨ad160, e160, hx160_0, hx160_1⟩ := at_T64 HR0.out x16_1 p160 q160
     cases e160
     replace hx160_0 := cb HB.out.cell hx160_0
     replace hx160_1 := cb HB.out.cell hx160_1
     replace p160 := eq_true p160
     replace q160 := eq_true q160
     go_wp2_with (((with_reducible refine gate_dst (N := 6) rfl ?_); refine box_event ?hg (N := 6) ?hd (cs := #[.int .i64 0, .int .i64 0]) (t := 64) ?hr ?_; (case hd => rfl); (case hg => rfl); (case hr => (go_simp; done)); intro gb161 hg w14 hbox hb; replace HO_4 := rba HO_4 hb; have BK161 := Aside0.mk (hbox); have GW161 := bza HB hg; have GE161 := bza HB hg; replace HB := bsa HB hb; clear hb hbox hg; obtain ⟨hcz15_0, hcz15_1, hfz15_0, hfz15_1⟩ := b2 BK161))
     go_loopg [4, 7] k1 (fun kq v4 v7 w' => ∃ (x4_2 : List Int) (x7_2 : Int), v7 = .int .i64 x7_2 ∧ Aside0 (span_Places.l1 kq x4_2 x7_2 l0 (l0.length : Int) x16_1 ((rd_T64 l0 x16_1).f0) ((rd_T64 l0 x16_1).f1) = some (r1, r2)) ∧ Aside0 (kq ≤ k1) ∧ Aside0 (Kd.R (Kd.int .i64) 3 w' w.heap.size (fun _ => True) v4 x4_2) ∧ Aside0 (w'.heap[gb161]? = some (.cells #[.int .i64 ((rd_T64 l0 x16_1).f0), .int .i64 ((rd_T64 l0 x16_1).f1)] 64 (0, 0))) ∧ Aside0 (Below w.heap.size w w'))
     case atStart => exact ⟨(x4_1), ((rd_T64 l0 x16_1).f0), (by rfl), H', ⟨Nat.le_refl _⟩, ⟨by exact Kd.R_mono (Kd.R_far (p := ⟨gb161, 1, none⟩) (Kd.R_far (p := ⟨gb161, 0, none⟩) (Kd.R_types HO_4.out BK161.out (by decide)) (fun _ hk => hk.2) (.int .i64 ((rd_T64 l0 x16_1).f0))) (fun _ hk => hk.2) (.int .i64 ((rd_T64 l0 x16_1).f1))) (fun _ hk => trivial)⟩, ⟨by refine blk_put (cs := #[.int .i64 ((rd_T64 l0 x16_1).f0), .int .i64 0]) ?_ 1 _ rfl; refine blk_put (cs := #[.int .i64 0, .int .i64 0]) ?_ 0 _ rfl; exact BK161.out⟩, ⟨bh HB.out⟩⟩
     case round =>
      clear H' c11b0 c12b0 c13b0 hcz15_0 hcz15_1 hfz15_0 hfz15_1 hx160_0 hx160_1 p160 q160
      obtain ⟨x4_2, x7_2, rfl, HA, HK2, HO_4, BK161, HB⟩ := hrel
      cases gk with
      | zero => exact absurd HA.out (by simp [span_Places.l1])
      | succ k2 =>
       have H := HA.out
       clear HA
       simp only [span_Places.l1] at H
       replace H := ifd H
       rcases H with ⟨-, c16b0, H⟩ | ⟨-, c16b0, H⟩
       ·replace H := ifn H
        obtain ⟨c17, -, H⟩ := H
        have LMc17 := Aside0.mk c17
        clear c17
        obtain ⟨y162, hy162⟩ : ∃ y_ : List Int, y_ = (x4_2 ++ [x7_2]) := ⟨_, rfl⟩
        replace H : (span_Places.l1 k2 y162 (wrap64 (x7_2 + 1)) l0 (l0.length : Int) x16_1 ((rd_T64 l0 x16_1).f0) ((rd_T64 l0 x16_1).f1)) = some (r1, r2) := by (rw [hy162]; with_reducible exact H)
        have Ny162 := Aside0.mk hy162
        clear hy162
        have H' := Aside0.mk H
        clear H
        obtain ⟨hcz18_0, hcz18_1, hfz18_0, hfz18_1⟩ := b2 BK161
        go_wp2_with (((with_reducible refine gate_builtin (b := .append) (xs := #[.tmp 28, .tmp 30]) rfl ?_); at_builtin; refine Kd.R_append (Kd.int .i64) (w0 := w) w.heap.size rfl (.tmp 28) (.tmp 30) 25 3 (.int .i64 0) 8 rfl Tryz.underlying25 info3 rfl (by decide) (by omega) u4 x4_2 x7_2 [.int .i64 x7_2] (fun _ => True) (fun _ => False) rfl rfl ?aP (fun _ hk => hk.elim) ?aF ?aO ?aB ?aS ?aL ?_; (case aP => exact rfl); (case aB => exact (bh HB.out)); (case aF => exact (fun _ _ => trivial)); (case aO => exact (rx HO_4.out)); (case aS => exact (below_size (bh HB.out))); (case aL => have := LMc17.out; omega); intro v163 w19 ho hb hg hat; rw [← Ny162.out] at ho; have n0_ := Aside0.mk (blk_grown (g := gb161) (o := .cells #[.int .i64 ((rd_T64 l0 x16_1).f0), .int .i64 ((rd_T64 l0 x16_1).f1)] 64 (0, 0)) (bx BK161.out) hg (Kd.R_ne HO_4.out BK161.out (by decide))); have n1_ := Aside0.mk (hb); have n2_ := Aside0.mk (ho); clear BK161 HB HO_4; have BK161 := n0_; have HB := n1_; have HO164 := n2_; clear n0_ n1_ n2_ ho hb hg hat))
        go_roundg k2
        case measure => have := HK1.out; have := HK2.out; omega
        case rel => exact ⟨(y162), (wrap64 (x7_2 + 1)), (by rfl), H', ⟨by have := HK1.out; have := HK2.out; omega⟩, ⟨by exact HO164.out⟩, ⟨bx BK161.out⟩, ⟨bh HB.out⟩⟩
       ·have H' := Aside0.mk H
        clear H
        obtain ⟨hcz20_0, hcz20_1, hfz20_0, hfz20_1⟩ := b2 BK161
        go_wp2
        go_roundg k2
        case measure => have := HK1.out; have := HK2.out; omega
        case rel => exact ⟨(x4_2), (wrap64 (x16_1 + 1)), (by rfl), H', ⟨by have := HK1.out; have := HK2.out; omega⟩, ⟨by exact HO_4.out⟩, ⟨bh HB.out⟩⟩
    ·simp only [Option.some.injEq, Prod.mk.injEq] at H
     obtain ⟨rfl, rfl⟩ := H
     go_wp2
     go_ret2
     exact ⟨_, er, by exact HO_4.out, bh HB.out⟩
 ·simp only [Option.some.injEq, Prod.mk.injEq] at H
  obtain ⟨rfl, rfl⟩ := H
  go_enter Tryz.func44, Tryz.ntmps44
  go_wp2_with (((with_reducible refine gate_callee (f := 41) rfl ?_); refine gL 9 Tryz.func41 #[.slice A0 l0.length c0] ?_; (with_reducible refine (span_May.calls k _ _ l0 false _ ?side1 ?side2 A2.out).mono ?_); (case side1 => exact cx HR0.out); (case side2 => exact HC0.out); rintro e w21 ⟨rfl, hb⟩; refine ⟨_, rfl, ?_⟩; replace HB := bsa HB hb; clear hb))
  go_ret2
  exact ⟨_, er, nl, bh HB.out⟩
/-! ### poslist_Of: function 10 -/
def poslist_Of.f (k : Nat) (l0 : List (S64)) (a1 : Int) : Option (Int × (List (S64)) × List Int × List Int × Int) := (span_May.f k l0).bind fun t166 => (if t166 = true then (if a1 = 1 then ((api_Span_42.f l0).bind fun t168 => (some (a1, t168, ([] : List Int), ([] : List Int), 0))) else (if a1 = 2 then ((words_Of.f k l0).bind fun bt171 => (some (a1, ([] : List (S64)), bt171.1, ([] : List Int), 0))) else (if a1 = 3 then ((span_Places.f k l0).bind fun bt175 => (some (a1, ([] : List (S64)), ([] : List Int), bt175.1, 0))) else (some (0, ([] : List (S64)), ([] : List Int), ([] : List Int), 1))))) else (some (0, ([] : List (S64)), ([] : List Int), ([] : List Int), 1)))
theorem poslist_Of.mono : ∀ a0 a1 k, LeO (poslist_Of.f k a0 a1) (poslist_Of.f (k + 1) a0 a1) := by
 intro a0 a1 k
 unfold poslist_Of.f
 repeat' first | (with_reducible exact span_May.mono _ _) | (with_reducible exact span_Places.mono _ _) | (with_reducible exact words_Of.mono _ _) | (with_reducible exact LeO.refl _) | (with_reducible refine LeO.ite ?_ ?_) | (with_reducible refine LeO.bind ?_ (fun _ => ?_))
set_option maxHeartbeats 8000000 in
set_option maxRecDepth 100000 in
theorem poslist_Of.calls (k : Nat) (A0 : Option Addr) (c0 : Nat) (l0 : List (S64)) (a1 : Int) (r1 : Int) (r2 : List (S64)) (r3 : List Int) (r4 : List Int) (r5 : Int) (w : World) (hr0 : Kd.C k64 w A0 l0.length l0) (hc0 : l0.length ≤ c0) (h : poslist_Of.f k l0 a1 = some (r1, r2, r3, r4, r5)) :
  Calls Tryz.prog 10 #[.slice A0 l0.length c0, .int .i64 a1] w fun e w' => ∃ v1_ v2_ v3_ : Value, e = .returned (.tuple #[.agg #[.int .i64 r1, v1_, v2_, v3_], .int .i64 r5]) ∧ Kd.R k64 64 w' w.heap.size (fun _ => True) v1_ r2 ∧ Kd.R (Kd.int .i64) 3 w' w.heap.size (fun k_ => some k_ ≠ (v3_ : Value).ownBlock) v2_ r3 ∧ Kd.R (Kd.int .i64) 3 w' w.heap.size (fun k_ => some k_ ≠ (v2_ : Value).ownBlock) v3_ r4 ∧ Below w.heap.size w w' := by
 have hu27 := Tryz.underlying27
 have HR0 := Aside0.mk hr0
 have HC0 := Aside0.mk hc0
 clear hr0 hc0
 have HB := Aside0.mk (Below.refl w.heap.size w)
 have H := h
 clear h
 unfold poslist_Of.f at H
 replace H := bd H
 obtain ⟨t166, A3, H⟩ := H
 replace H := ifb H
 rcases H with ⟨rfl, H⟩ | ⟨rfl, H⟩
 ·replace H := ife H
  rcases H with ⟨-, c5b0, c5b1, H⟩ | ⟨c5, c5b0, c5b1, H⟩
  ·replace H := bd H
   obtain ⟨t168, A6, H⟩ := H
   simp only [Option.some.injEq, Prod.mk.injEq] at H
   obtain ⟨rfl, rfl, rfl, rfl, rfl⟩ := H
   go_enter Tryz.func10, Tryz.ntmps10
   go_wp2_with (first | ((with_reducible refine gate_dst (N := 4) rfl ?_); refine boxE HB 4 27 #[.int .i64 0, .slice none 0 0, .slice none 0 0, .slice none 0 0] ?_; clear HB; intro gb165 w7 BK165 GW165 hg hb HB; have GE165 := GW165; clear hb hg) | ((with_reducible refine gate_callee (f := 41) rfl ?_); refine gL 8 Tryz.func41 #[.slice A0 l0.length c0] ?_; (with_reducible refine (span_May.calls k _ _ l0 true _ ?side1 ?side2 A3.out).mono ?_); (case side1 => exact cx (Kd.C_below HR0.out HB.out)); (case side2 => exact HC0.out); rintro e w8 ⟨rfl, hb⟩; refine ⟨_, rfl, ?_⟩; replace BK165 := bba BK165 hb; replace HB := bsa HB hb; clear hb) | ((with_reducible refine gate_dst (N := 6) rfl ?_); refine boxE HB 6 27 #[.int .i64 0, .slice none 0 0, .slice none 0 0, .slice none 0 0] ?_; clear HB; intro gb167 w9 BK167 GW167 hg hb HB; have GE167 := GW167; have NB165_167 := bna BK165 hg; have NB167_165 := bma BK165 hg; replace BK165 := bba BK165 hb; clear hb hg; have hnb10 := NB167_165.out; have hnc10 := NB165_167.out; obtain ⟨hcz11_0, hcz11_1, hcz11_2, hcz11_3, hfz11_0, hfz11_1, hfz11_2, hfz11_3⟩ := b4 BK167) | ((with_reducible refine gate_store (t := 27) (p := 6) rfl ?_); refine stE 27 6 ((((w9.setCell ⟨gb167, 0, none⟩ (.int .i64 a1)).setCell ⟨gb167, 1, none⟩ (.slice none 0 0)).setCell ⟨gb167, 2, none⟩ (.slice none 0 0)).setCell ⟨gb167, 3, none⟩ (.slice none 0 0)) ?_; intro w12 hw; have n0_ : Aside0 (w12.heap[gb165]? = some (.cells #[.int .i64 0, .slice none 0 0, .slice none 0 0, .slice none 0 0] 27 (0, 0))) := ⟨(by rw [hw]; exact (bx BK165.out))⟩; have n1_ := sps #[.int .i64 a1, .slice none 0 0, .slice none 0 0, .slice none 0 0] BK167 hw (.p (.p (.p (.p .nil)))); have n2_ := bhw HB hw; clear hw BK165 BK167 HB; have BK165 := n0_; have BK167 := n1_; have HB := n2_; clear n0_ n1_ n2_) | ((with_reducible refine gate_callee (f := 42) rfl ?_); refine gL 18 Tryz.func42 #[.slice A0 l0.length c0] ?_; (with_reducible refine (api_Span_42.calls _ _ l0 t168 _ ?side1 ?side2 A6.out).mono ?_); (case side1 => exact cx (Kd.C_below HR0.out HB.out)); (case side2 => exact HC0.out); rintro e w13 ⟨v169, rfl, ho0, hb⟩; refine ⟨_, rfl, ?_⟩; have HO170 := Aside0.mk (Kd.R_lower ho0 (below_size (bh HB.out))); replace BK165 := bba BK165 hb; replace BK167 := bba BK167 hb; replace HB := bsa HB hb; clear hb ho0; obtain ⟨Ao14, co14, eo14⟩ := Kd.R_slice HO170.out; subst eo14; obtain ⟨hcz15_0, hcz15_1, hcz15_2, hcz15_3, hfz15_0, hfz15_1, hfz15_2, hfz15_3⟩ := b4 BK167; obtain ⟨hcz16_0, hcz16_1, hcz16_2, hcz16_3, hfz16_0, hfz16_1, hfz16_2, hfz16_3⟩ := b4 BK165) | ((with_reducible refine gate_store (t := 27) (p := 4) rfl ?_); refine stE 27 4 (((((w13.setCell ⟨gb167, 1, none⟩ (.slice Ao14 t168.length co14)).setCell ⟨gb165, 0, none⟩ (.int .i64 a1)).setCell ⟨gb165, 1, none⟩ (.slice Ao14 t168.length co14)).setCell ⟨gb165, 2, none⟩ (.slice none 0 0)).setCell ⟨gb165, 3, none⟩ (.slice none 0 0)) ?_; intro w17 hw; replace HO170 := rsm (fun _ => True) HO170 hw (fun _ hk => trivial); replace BK165 := sps #[.int .i64 a1, .slice Ao14 t168.length co14, .slice none 0 0, .slice none 0 0] BK165 hw (.p (.p (.p (.p (.f NB165_167 .nil))))); replace BK167 := sps #[.int .i64 a1, .slice Ao14 t168.length co14, .slice none 0 0, .slice none 0 0] BK167 hw (.f NB167_165 (.f NB167_165 (.f NB167_165 (.f NB167_165 (.p .nil))))); replace HB := bhw HB hw; clear hw))
   refine bodyPost_ret (results_ct rfl _ _ gb165 27 #[.int .i64 a1, .slice Ao14 t168.length co14, .slice none 0 0, .slice none 0 0] (0, 0) _ rfl (bx BK165.out) Tryz.underlying27 rfl (by kernel_rfl)) rfl ?_
   exact ⟨_, _, _, er, by exact HO170.out, nl, nl, bh HB.out⟩
  ·replace H := ife H
   rcases H with ⟨-, c18b0, c18b1, H⟩ | ⟨c18, c18b0, c18b1, H⟩
   ·replace H := bd H
    obtain ⟨⟨t171, t172⟩, A19, H⟩ := H
    dsimp only at H
    simp only [Option.some.injEq, Prod.mk.injEq] at H
    obtain ⟨rfl, rfl, rfl, rfl, rfl⟩ := H
    go_enter Tryz.func10, Tryz.ntmps10
    go_wp2_with (first | ((with_reducible refine gate_dst (N := 4) rfl ?_); refine boxE HB 4 27 #[.int .i64 0, .slice none 0 0, .slice none 0 0, .slice none 0 0] ?_; clear HB; intro gb165 w20 BK165 GW165 hg hb HB; have GE165 := GW165; clear hb hg) | ((with_reducible refine gate_callee (f := 41) rfl ?_); refine gL 8 Tryz.func41 #[.slice A0 l0.length c0] ?_; (with_reducible refine (span_May.calls k _ _ l0 true _ ?side1 ?side2 A3.out).mono ?_); (case side1 => exact cx (Kd.C_below HR0.out HB.out)); (case side2 => exact HC0.out); rintro e w21 ⟨rfl, hb⟩; refine ⟨_, rfl, ?_⟩; replace BK165 := bba BK165 hb; replace HB := bsa HB hb; clear hb) | ((with_reducible refine gate_dst (N := 6) rfl ?_); refine boxE HB 6 27 #[.int .i64 0, .slice none 0 0, .slice none 0 0, .slice none 0 0] ?_; clear HB; intro gb167 w22 BK167 GW167 hg hb HB; have GE167 := GW167; have NB165_167 := bna BK165 hg; have NB167_165 := bma BK165 hg; replace BK165 := bba BK165 hb; clear hb hg; have hnb23 := NB167_165.out; have hnc23 := NB165_167.out; obtain ⟨hcz24_0, hcz24_1, hcz24_2, hcz24_3, hfz24_0, hfz24_1, hfz24_2, hfz24_3⟩ := b4 BK167) | ((with_reducible refine gate_store (t := 27) (p := 6) rfl ?_); refine stE 27 6 ((((w22.setCell ⟨gb167, 0, none⟩ (.int .i64 a1)).setCell ⟨gb167, 1, none⟩ (.slice none 0 0)).setCell ⟨gb167, 2, none⟩ (.slice none 0 0)).setCell ⟨gb167, 3, none⟩ (.slice none 0 0)) ?_; intro w25 hw; have n0_ : Aside0 (w25.heap[gb165]? = some (.cells #[.int .i64 0, .slice none 0 0, .slice none 0 0, .slice none 0 0] 27 (0, 0))) := ⟨(by rw [hw]; exact (bx BK165.out))⟩; have n1_ := sps #[.int .i64 a1, .slice none 0 0, .slice none 0 0, .slice none 0 0] BK167 hw (.p (.p (.p (.p .nil)))); have n2_ := bhw HB hw; clear hw BK165 BK167 HB; have BK165 := n0_; have BK167 := n1_; have HB := n2_; clear n0_ n1_ n2_) | ((with_reducible refine gate_callee (f := 43) rfl ?_); refine gL 24 Tryz.func43 #[.slice A0 l0.length c0] ?_; (with_reducible refine (words_Of.calls k _ _ l0 t171 t172 _ ?side1 ?side2 A19.out).mono ?_); (case side1 => exact cx (Kd.C_below HR0.out HB.out)); (case side2 => exact HC0.out); rintro e w26 ⟨v173, rfl, ho0, hb⟩; refine ⟨_, rfl, ?_⟩; have HO174 := Aside0.mk (Kd.R_lower ho0 (below_size (bh HB.out))); replace BK165 := bba BK165 hb; replace BK167 := bba BK167 hb; replace HB := bsa HB hb; clear hb ho0; obtain ⟨Ao27, co27, eo27⟩ := Kd.R_slice HO174.out; subst eo27; obtain ⟨hcz28_0, hcz28_1, hcz28_2, hcz28_3, hfz28_0, hfz28_1, hfz28_2, hfz28_3⟩ := b4 BK167; obtain ⟨hcz29_0, hcz29_1, hcz29_2, hcz29_3, hfz29_0, hfz29_1, hfz29_2, hfz29_3⟩ := b4 BK165) | ((with_reducible refine gate_store (t := 27) (p := 4) rfl ?_); refine stE 27 4 (((((w26.setCell ⟨gb167, 2, none⟩ (.slice Ao27 t171.length co27)).setCell ⟨gb165, 0, none⟩ (.int .i64 a1)).setCell ⟨gb165, 1, none⟩ (.slice none 0 0)).setCell ⟨gb165, 2, none⟩ (.slice Ao27 t171.length co27)).setCell ⟨gb165, 3, none⟩ (.slice none 0 0)) ?_; intro w30 hw; replace HO174 := rsm (fun _ => True) HO174 hw (fun _ hk => trivial); replace BK165 := sps #[.int .i64 a1, .slice none 0 0, .slice Ao27 t171.length co27, .slice none 0 0] BK165 hw (.p (.p (.p (.p (.f NB165_167 .nil))))); replace BK167 := sps #[.int .i64 a1, .slice none 0 0, .slice Ao27 t171.length co27, .slice none 0 0] BK167 hw (.f NB167_165 (.f NB167_165 (.f NB167_165 (.f NB167_165 (.p .nil))))); replace HB := bhw HB hw; clear hw))
    refine bodyPost_ret (results_ct rfl _ _ gb165 27 #[.int .i64 a1, .slice none 0 0, .slice Ao27 t171.length co27, .slice none 0 0] (0, 0) _ rfl (bx BK165.out) Tryz.underlying27 rfl (by kernel_rfl)) rfl ?_
    exact ⟨_, _, _, er, nl, by exact Kd.R_mono HO174.out (fun _ hk => (by simp [Value.ownBlock])), nl, bh HB.out⟩
   ·replace H := ife H
    rcases H with ⟨-, c31b0, c31b1, H⟩ | ⟨c31, c31b0, c31b1, H⟩
    ·replace H := bd H
     obtain ⟨⟨t175, t176⟩, A32, H⟩ := H
     dsimp only at H
     simp only [Option.some.injEq, Prod.mk.injEq] at H
     obtain ⟨rfl, rfl, rfl, rfl, rfl⟩ := H
     go_enter Tryz.func10, Tryz.ntmps10
     go_wp2_with (first | ((with_reducible refine gate_dst (N := 4) rfl ?_); refine boxE HB 4 27 #[.int .i64 0, .slice none 0 0, .slice none 0 0, .slice none 0 0] ?_; clear HB; intro gb165 w33 BK165 GW165 hg hb HB; have GE165 := GW165; clear hb hg) | ((with_reducible refine gate_callee (f := 41) rfl ?_); refine gL 8 Tryz.func41 #[.slice A0 l0.length c0] ?_; (with_reducible refine (span_May.calls k _ _ l0 true _ ?side1 ?side2 A3.out).mono ?_); (case side1 => exact cx (Kd.C_below HR0.out HB.out)); (case side2 => exact HC0.out); rintro e w34 ⟨rfl, hb⟩; refine ⟨_, rfl, ?_⟩; replace BK165 := bba BK165 hb; replace HB := bsa HB hb; clear hb) | ((with_reducible refine gate_dst (N := 6) rfl ?_); refine boxE HB 6 27 #[.int .i64 0, .slice none 0 0, .slice none 0 0, .slice none 0 0] ?_; clear HB; intro gb167 w35 BK167 GW167 hg hb HB; have GE167 := GW167; have NB165_167 := bna BK165 hg; have NB167_165 := bma BK165 hg; replace BK165 := bba BK165 hb; clear hb hg; have hnb36 := NB167_165.out; have hnc36 := NB165_167.out; obtain ⟨hcz37_0, hcz37_1, hcz37_2, hcz37_3, hfz37_0, hfz37_1, hfz37_2, hfz37_3⟩ := b4 BK167) | ((with_reducible refine gate_store (t := 27) (p := 6) rfl ?_); refine stE 27 6 ((((w35.setCell ⟨gb167, 0, none⟩ (.int .i64 a1)).setCell ⟨gb167, 1, none⟩ (.slice none 0 0)).setCell ⟨gb167, 2, none⟩ (.slice none 0 0)).setCell ⟨gb167, 3, none⟩ (.slice none 0 0)) ?_; intro w38 hw; have n0_ : Aside0 (w38.heap[gb165]? = some (.cells #[.int .i64 0, .slice none 0 0, .slice none 0 0, .slice none 0 0] 27 (0, 0))) := ⟨(by rw [hw]; exact (bx BK165.out))⟩; have n1_ := sps #[.int .i64 a1, .slice none 0 0, .slice none 0 0, .slice none 0 0] BK167 hw (.p (.p (.p (.p .nil)))); have n2_ := bhw HB hw; clear hw BK165 BK167 HB; have BK165 := n0_; have BK167 := n1_; have HB := n2_; clear n0_ n1_ n2_) | ((with_reducible refine gate_callee (f := 44) rfl ?_); refine gL 32 Tryz.func44 #[.slice A0 l0.length c0] ?_; (with_reducible refine (span_Places.calls k _ _ l0 t175 t176 _ ?side1 ?side2 A32.out).mono ?_); (case side1 => exact cx (Kd.C_below HR0.out HB.out)); (case side2 => exact HC0.out); rintro e w39 ⟨v177, rfl, ho0, hb⟩; refine ⟨_, rfl, ?_⟩; have HO178 := Aside0.mk (Kd.R_lower ho0 (below_size (bh HB.out))); replace BK165 := bba BK165 hb; replace BK167 := bba BK167 hb; replace HB := bsa HB hb; clear hb ho0; obtain ⟨Ao40, co40, eo40⟩ := Kd.R_slice HO178.out; subst eo40; obtain ⟨hcz41_0, hcz41_1, hcz41_2, hcz41_3, hfz41_0, hfz41_1, hfz41_2, hfz41_3⟩ := b4 BK167; obtain ⟨hcz42_0, hcz42_1, hcz42_2, hcz42_3, hfz42_0, hfz42_1, hfz42_2, hfz42_3⟩ := b4 BK165) | ((with_reducible refine gate_store (t := 27) (p := 4) rfl ?_); refine stE 27 4 (((((w39.setCell ⟨gb167, 3, none⟩ (.slice Ao40 t175.length co40)).setCell ⟨gb165, 0, none⟩ (.int .i64 a1)).setCell ⟨gb165, 1, none⟩ (.slice none 0 0)).setCell ⟨gb165, 2, none⟩ (.slice none 0 0)).setCell ⟨gb165, 3, none⟩ (.slice Ao40 t175.length co40)) ?_; intro w43 hw; replace HO178 := rsm (fun _ => True) HO178 hw (fun _ hk => trivial); replace BK165 := sps #[.int .i64 a1, .slice none 0 0, .slice none 0 0, .slice Ao40 t175.length co40] BK165 hw (.p (.p (.p (.p (.f NB165_167 .nil))))); replace BK167 := sps #[.int .i64 a1, .slice none 0 0, .slice none 0 0, .slice Ao40 t175.length co40] BK167 hw (.f NB167_165 (.f NB167_165 (.f NB167_165 (.f NB167_165 (.p .nil))))); replace HB := bhw HB hw; clear hw))
     refine bodyPost_ret (results_ct rfl _ _ gb165 27 #[.int .i64 a1, .slice none 0 0, .slice none 0 0, .slice Ao40 t175.length co40] (0, 0) _ rfl (bx BK165.out) Tryz.underlying27 rfl (by kernel_rfl)) rfl ?_
     exact ⟨_, _, _, er, nl, nl, by exact Kd.R_mono HO178.out (fun _ hk => (by simp [Value.ownBlock])), bh HB.out⟩
    ·simp only [Option.some.injEq, Prod.mk.injEq] at H
     obtain ⟨rfl, rfl, rfl, rfl, rfl⟩ := H
     go_enter Tryz.func10, Tryz.ntmps10
     go_wp2_with (first | ((with_reducible refine gate_dst (N := 4) rfl ?_); refine boxE HB 4 27 #[.int .i64 0, .slice none 0 0, .slice none 0 0, .slice none 0 0] ?_; clear HB; intro gb165 w44 BK165 GW165 hg hb HB; have GE165 := GW165; clear hb hg) | ((with_reducible refine gate_callee (f := 41) rfl ?_); refine gL 8 Tryz.func41 #[.slice A0 l0.length c0] ?_; (with_reducible refine (span_May.calls k _ _ l0 true _ ?side1 ?side2 A3.out).mono ?_); (case side1 => exact cx (Kd.C_below HR0.out HB.out)); (case side2 => exact HC0.out); rintro e w45 ⟨rfl, hb⟩; refine ⟨_, rfl, ?_⟩; replace BK165 := bba BK165 hb; replace HB := bsa HB hb; clear hb) | ((with_reducible refine gate_dst (N := 6) rfl ?_); refine boxE HB 6 27 #[.int .i64 0, .slice none 0 0, .slice none 0 0, .slice none 0 0] ?_; clear HB; intro gb167 w46 BK167 GW167 hg hb HB; have GE167 := GW167; have NB165_167 := bna BK165 hg; have NB167_165 := bma BK165 hg; replace BK165 := bba BK165 hb; clear hb hg; have hnb47 := NB167_165.out; have hnc47 := NB165_167.out; obtain ⟨hcz48_0, hcz48_1, hcz48_2, hcz48_3, hfz48_0, hfz48_1, hfz48_2, hfz48_3⟩ := b4 BK167) | ((with_reducible refine gate_store (t := 27) (p := 6) rfl ?_); refine stE 27 6 ((((w46.setCell ⟨gb167, 0, none⟩ (.int .i64 a1)).setCell ⟨gb167, 1, none⟩ (.slice none 0 0)).setCell ⟨gb167, 2, none⟩ (.slice none 0 0)).setCell ⟨gb167, 3, none⟩ (.slice none 0 0)) ?_; intro w49 hw; have n0_ : Aside0 (w49.heap[gb165]? = some (.cells #[.int .i64 0, .slice none 0 0, .slice none 0 0, .slice none 0 0] 27 (0, 0))) := ⟨(by rw [hw]; exact (bx BK165.out))⟩; have n1_ := sps #[.int .i64 a1, .slice none 0 0, .slice none 0 0, .slice none 0 0] BK167 hw (.p (.p (.p (.p .nil)))); have n2_ := bhw HB hw; clear hw BK165 BK167 HB; have BK165 := n0_; have BK167 := n1_; have HB := n2_; clear n0_ n1_ n2_; obtain ⟨hcz50_0, hcz50_1, hcz50_2, hcz50_3, hfz50_0, hfz50_1, hfz50_2, hfz50_3⟩ := b4 BK165) | ((with_reducible refine gate_store (t := 27) (p := 4) rfl ?_); refine stE 27 4 ((((w49.setCell ⟨gb165, 0, none⟩ (.int .i64 0)).setCell ⟨gb165, 1, none⟩ (.slice none 0 0)).setCell ⟨gb165, 2, none⟩ (.slice none 0 0)).setCell ⟨gb165, 3, none⟩ (.slice none 0 0)) ?_; intro w51 hw; have n0_ := sps #[.int .i64 0, .slice none 0 0, .slice none 0 0, .slice none 0 0] BK165 hw (.p (.p (.p (.p .nil)))); have n1_ : Aside0 (w51.heap[gb167]? = some (.cells #[.int .i64 a1, .slice none 0 0, .slice none 0 0, .slice none 0 0] 27 (0, 0))) := ⟨(by rw [hw]; exact (bx BK167.out))⟩; have n2_ := bhw HB hw; clear hw BK165 BK167 HB; have BK165 := n0_; have BK167 := n1_; have HB := n2_; clear n0_ n1_ n2_))
     refine bodyPost_ret (results_ct rfl _ _ gb165 27 #[.int .i64 0, .slice none 0 0, .slice none 0 0, .slice none 0 0] (0, 0) _ rfl (bx BK165.out) Tryz.underlying27 rfl (by kernel_rfl)) rfl ?_
     exact ⟨_, _, _, er, nl, nl, nl, bh HB.out⟩
 ·simp only [Option.some.injEq, Prod.mk.injEq] at H
  obtain ⟨rfl, rfl, rfl, rfl, rfl⟩ := H
  go_enter Tryz.func10, Tryz.ntmps10
  go_wp2_with (first | ((with_reducible refine gate_dst (N := 4) rfl ?_); refine boxE HB 4 27 #[.int .i64 0, .slice none 0 0, .slice none 0 0, .slice none 0 0] ?_; clear HB; intro gb165 w52 BK165 GW165 hg hb HB; have GE165 := GW165; clear hb hg) | ((with_reducible refine gate_callee (f := 41) rfl ?_); refine gL 8 Tryz.func41 #[.slice A0 l0.length c0] ?_; (with_reducible refine (span_May.calls k _ _ l0 false _ ?side1 ?side2 A3.out).mono ?_); (case side1 => exact cx (Kd.C_below HR0.out HB.out)); (case side2 => exact HC0.out); rintro e w53 ⟨rfl, hb⟩; refine ⟨_, rfl, ?_⟩; replace BK165 := bba BK165 hb; replace HB := bsa HB hb; clear hb; obtain ⟨hcz54_0, hcz54_1, hcz54_2, hcz54_3, hfz54_0, hfz54_1, hfz54_2, hfz54_3⟩ := b4 BK165) | ((with_reducible refine gate_store (t := 27) (p := 4) rfl ?_); refine stE 27 4 ((((w53.setCell ⟨gb165, 0, none⟩ (.int .i64 0)).setCell ⟨gb165, 1, none⟩ (.slice none 0 0)).setCell ⟨gb165, 2, none⟩ (.slice none 0 0)).setCell ⟨gb165, 3, none⟩ (.slice none 0 0)) ?_; intro w55 hw; replace BK165 := sps #[.int .i64 0, .slice none 0 0, .slice none 0 0, .slice none 0 0] BK165 hw (.p (.p (.p (.p .nil)))); replace HB := bhw HB hw; clear hw))
  refine bodyPost_ret (results_ct rfl _ _ gb165 27 #[.int .i64 0, .slice none 0 0, .slice none 0 0, .slice none 0 0] (0, 0) _ rfl (bx BK165.out) Tryz.underlying27 rfl (by kernel_rfl)) rfl ?_
  exact ⟨_, _, _, er, nl, nl, nl, bh HB.out⟩
/-! ### poslist_Best: function 12 (a contract of the session's own) -/
def poslist_Best.b1 (c1 c2 : Int) : Int := if c2 < c1 then 2 else 1
def poslist_Best.b2 (c1 c2 c3 : Int) : Int := if c2 < c1 then (if c3 < c2 then 3 else 2) else (if c3 < c1 then 3 else 1)
def poslist_Best.f (k : Nat) (l0 : List S64) : Option (Int × (List (S64)) × List Int × List Int × Int) := (span_May.f k l0).bind fun a => if a = true then ((poslist_costs.f k l0).bind fun c => poslist_Of.f k l0 (poslist_Best.b2 c.2.1 c.2.2.1 c.2.2.2)) else some (0, ([] : List (S64)), ([] : List Int), ([] : List Int), 1)
theorem poslist_Best.mono : ∀ a0 k, LeO (poslist_Best.f k a0) (poslist_Best.f (k + 1) a0) := by
 intro a0 k
 unfold poslist_Best.f
 repeat' first | (with_reducible exact span_May.mono _ _) | (with_reducible exact poslist_costs.mono _ _) | (with_reducible exact poslist_Of.mono _ _ _) | (with_reducible exact LeO.refl _) | (with_reducible refine LeO.ite ?_ ?_) | (with_reducible refine LeO.bind ?_ (fun _ => ?_))
set_option maxHeartbeats 8000000 in
set_option maxRecDepth 100000 in
theorem poslist_Best.calls (k : Nat) (A0 : Option Addr) (c0 : Nat) (l0 : List (S64)) (r1 : Int) (r2 : List (S64)) (r3 : List Int) (r4 : List Int) (r5 : Int) (w : World) (hr0 : Kd.C k64 w A0 l0.length l0) (hc0 : l0.length ≤ c0) (h : poslist_Best.f k l0 = some (r1, r2, r3, r4, r5)) :
    Calls Tryz.prog 12 #[.slice A0 l0.length c0] w fun e w' => ∃ v1_ v2_ v3_ : Value, e = .returned (.tuple #[.agg #[.int .i64 r1, v1_, v2_, v3_], .int .i64 r5]) ∧ Kd.R k64 64 w' w.heap.size (fun _ => True) v1_ r2 ∧ Kd.R (Kd.int .i64) 3 w' w.heap.size (fun k_ => some k_ ≠ (v3_ : Value).ownBlock) v2_ r3 ∧ Kd.R (Kd.int .i64) 3 w' w.heap.size (fun k_ => some k_ ≠ (v2_ : Value).ownBlock) v3_ r4 ∧ Below w.heap.size w w' := by
 have hu27 := Tryz.underlying27
 have hu67 := Tryz.underlying67
 have HR0 := Aside0.mk hr0
 have HC0 := Aside0.mk hc0
 clear hr0 hc0
 have HB := Aside0.mk (Below.refl w.heap.size w)
 obtain ⟨a, A1_, H⟩ := Option.bind_eq_some_iff.mp (show ((span_May.f k l0).bind fun a => if a = true then ((poslist_costs.f k l0).bind fun c => poslist_Of.f k l0 (poslist_Best.b2 c.2.1 c.2.2.1 c.2.2.2)) else some (0, ([] : List (S64)), ([] : List Int), ([] : List Int), 1)) = some (r1, r2, r3, r4, r5) from h)
 clear h
 have H1 := Aside0.mk A1_
 clear A1_
 cases a with
 | false =>
   simp only [Bool.false_eq_true, if_false, Option.some.injEq, Prod.mk.injEq] at H
   obtain ⟨rfl, rfl, rfl, rfl, rfl⟩ := H
   go_enter Tryz.func12, Tryz.ntmps12
   go_wp2_with (first | ((with_reducible refine gate_dst (N := 2) rfl ?_); refine box_event ?hg (N := 2) ?hd (cs := #[.int .i64 0, .slice none 0 0, .slice none 0 0, .slice none 0 0]) (t := 27) ?hr ?_; (case hd => rfl); (case hg => rfl); (case hr => (go_simp; done)); intro g2 hg w2 hbox hb; have n0_ := Aside0.mk (below_step HB.out hb); have n1_ := Aside0.mk (hbox); have n2_ := Aside0.mk ((by rw [hg]; exact below_size HB.out : w.heap.size ≤ g2)); clear HB; have HB := n0_; have BK2 := n1_; have GE2 := n2_; clear n0_ n1_ n2_ hb hbox hg) | (go_at_call 41; (with_reducible refine (span_May.calls k _ _ l0 false _ ?side1 ?side2 H1.out).mono ?_); (case side1 => exact (Kd.C_below HR0.out HB.out)); (case side2 => exact HC0.out); rintro e w3 ⟨rfl, hb⟩; have n0_ := Aside0.mk (below_step HB.out hb); have n1_ := Aside0.mk (blk_below BK2.out hb); clear HB BK2; have HB := n0_; have BK2 := n1_; clear n0_ n1_ hb; obtain ⟨hc20, hc21, hc22, hc23, hf20, hf21, hf22, hf23⟩ := b4 BK2))
   refine bodyPost_ret (results_ct rfl _ _ g2 27 #[.int .i64 0, .slice none 0 0, .slice none 0 0, .slice none 0 0] (0, 0) _ rfl (by refine blk_put (cs := #[.int .i64 0, .slice none 0 0, .slice none 0 0, .slice none 0 0]) ?_ 3 _ rfl; refine blk_put (cs := #[.int .i64 0, .slice none 0 0, .slice none 0 0, .slice none 0 0]) ?_ 2 _ rfl; refine blk_put (cs := #[.int .i64 0, .slice none 0 0, .slice none 0 0, .slice none 0 0]) ?_ 1 _ rfl; refine blk_put (cs := #[.int .i64 0, .slice none 0 0, .slice none 0 0, .slice none 0 0]) ?_ 0 _ rfl; exact BK2.out) Tryz.underlying27 rfl (by kernel_rfl)) rfl ?_
   exact ⟨_, _, _, rfl, Kd.R_nil _ _ _ _ _, Kd.R_nil _ _ _ _ _, Kd.R_nil _ _ _ _ _, bh HB.out⟩
 | true =>
   rw [if_pos rfl] at H
   obtain ⟨⟨z0, z1, z2, z3⟩, A2_, H⟩ := Option.bind_eq_some_iff.mp H
   have H2 := Aside0.mk A2_
   clear A2_
   dsimp only at H
   have H3 := Aside0.mk H
   clear H
   go_enter Tryz.func12, Tryz.ntmps12
   go_wp2_with (first | ((with_reducible refine gate_dst (N := 2) rfl ?_); refine box_event ?hg (N := 2) ?hd (cs := #[.int .i64 0, .slice none 0 0, .slice none 0 0, .slice none 0 0]) (t := 27) ?hr ?_; (case hd => rfl); (case hg => rfl); (case hr => (go_simp; done)); intro g2 hg w2 hbox hb; have n0_ := Aside0.mk (below_step HB.out hb); have n1_ := Aside0.mk (hbox); have n2_ := Aside0.mk ((by rw [hg]; exact below_size HB.out : w.heap.size ≤ g2)); clear HB; have HB := n0_; have BK2 := n1_; have GE2 := n2_; clear n0_ n1_ n2_ hb hbox hg) | (go_at_call 41; (with_reducible refine (span_May.calls k _ _ l0 true _ ?side1 ?side2 H1.out).mono ?_); (case side1 => exact (Kd.C_below HR0.out HB.out)); (case side2 => exact HC0.out); rintro e w3 ⟨rfl, hb⟩; have n0_ := Aside0.mk (below_step HB.out hb); have n1_ := Aside0.mk (blk_below BK2.out hb); clear HB BK2; have HB := n0_; have BK2 := n1_; clear n0_ n1_ hb) | (go_at_call 46; (with_reducible refine (poslist_costs.calls k _ _ l0 _ _ _ _ _ ?side1 ?side2 H2.out).mono ?_); (case side1 => exact (Kd.C_below HR0.out HB.out)); (case side2 => exact HC0.out); rintro e w4 ⟨rfl, hb⟩; have n0_ := Aside0.mk (below_step HB.out hb); have n1_ := Aside0.mk (blk_below BK2.out hb); clear HB BK2; have HB := n0_; have BK2 := n1_; clear n0_ n1_ hb) | ((with_reducible refine gate_dst (N := 4) rfl ?_); refine box_event ?hg (N := 4) ?hd (cs := #[.int .i64 0, .int .i64 0, .int .i64 0, .int .i64 0]) (t := 67) ?hr ?_; (case hd => rfl); (case hg => rfl); (case hr => (go_simp; done)); intro g4 hg w5 hbox hb; have n0_ := Aside0.mk (below_step HB.out hb); have n1_ := Aside0.mk (blk_below BK2.out hb); have n2_ := Aside0.mk (hbox); have n3_ := Aside0.mk ((by rw [hg]; exact below_size HB.out : w.heap.size ≤ g4)); have n4_ := Aside0.mk ((by rw [hg]; exact Nat.ne_of_lt (blk_lt BK2.out) : g2 ≠ g4)); have n5_ := Aside0.mk ((by rw [hg]; exact (Nat.ne_of_lt (blk_lt BK2.out)).symm : g4 ≠ g2)); clear HB BK2; have HB := n0_; have BK2 := n1_; have BK4 := n2_; have GE4 := n3_; have NB24 := n4_; have NB42 := n5_; clear n0_ n1_ n2_ n3_ n4_ n5_ hb hbox hg; obtain ⟨hc40, hc41, hc42, hc43, hf40, hf41, hf42, hf43⟩ := b4 BK4))
   go_loopg [5, 6] 3 (fun kq v5 v6 w' => ∃ (b f : Int), v5 = .int .i64 b ∧ v6 = .int .i64 f ∧ Aside0 ((kq = 3 ∧ f = 2 ∧ b = 1) ∨ (kq = 2 ∧ f = 3 ∧ b = poslist_Best.b1 z1 z2) ∨ (kq = 1 ∧ f = 4 ∧ b = poslist_Best.b2 z1 z2 z3)) ∧ Aside0 (w'.heap[g2]? = some (.cells #[.int .i64 0, .slice none 0 0, .slice none 0 0, .slice none 0 0] 27 (0, 0))) ∧ Aside0 (w'.heap[g4]? = some (.cells #[.int .i64 z0, .int .i64 z1, .int .i64 z2, .int .i64 z3] 67 (0, 0))) ∧ Aside0 (Below w.heap.size w w'))
   case atStart => exact ⟨1, 2, rfl, rfl, ⟨.inl ⟨rfl, rfl, rfl⟩⟩, ⟨bx BK2.out⟩, ⟨by refine blk_put (cs := #[.int .i64 z0, .int .i64 z1, .int .i64 z2, .int .i64 0]) ?_ 3 _ rfl; refine blk_put (cs := #[.int .i64 z0, .int .i64 z1, .int .i64 0, .int .i64 0]) ?_ 2 _ rfl; refine blk_put (cs := #[.int .i64 z0, .int .i64 0, .int .i64 0, .int .i64 0]) ?_ 1 _ rfl; refine blk_put (cs := #[.int .i64 0, .int .i64 0, .int .i64 0, .int .i64 0]) ?_ 0 _ rfl; exact BK4.out⟩, ⟨bh HB.out⟩⟩
   case round =>
     clear BK2 BK4 HB
     obtain ⟨b, f, rfl, rfl, HD, BK2, BK4, HB⟩ := hrel
     have hd := HD.out
     clear HD
     obtain ⟨hc40, hc41, hc42, hc43, -, -, -, -⟩ := b4 BK4
     rcases hd with ⟨rfl, rfl, rfl⟩ | ⟨rfl, rfl, rfl⟩ | ⟨rfl, rfl, rfl⟩
     ·by_cases q : z2 < z1
      ·have qb : decide (z2 < z1) = true := decide_eq_true q
       go_wp2
       go_region
       go_wp2
       go_roundg 2
       case measure => omega
       case rel => exact ⟨2, 3, rfl, rfl, ⟨.inr (.inl ⟨rfl, rfl, by rw [poslist_Best.b1, if_pos q]⟩)⟩, ⟨bx BK2.out⟩, ⟨bx BK4.out⟩, ⟨bh HB.out⟩⟩
      ·have qb : decide (z2 < z1) = false := decide_eq_false q
       go_wp2
       go_region
       go_wp2
       go_roundg 2
       case measure => omega
       case rel => exact ⟨1, 3, rfl, rfl, ⟨.inr (.inl ⟨rfl, rfl, by rw [poslist_Best.b1, if_neg (by omega)]⟩)⟩, ⟨bx BK2.out⟩, ⟨bx BK4.out⟩, ⟨bh HB.out⟩⟩
     ·by_cases q : z2 < z1
      ·have e1 : poslist_Best.b1 z1 z2 = 2 := by rw [poslist_Best.b1, if_pos q]
       by_cases p : z3 < z2
       ·have pb : decide (z3 < z2) = true := decide_eq_true p
        rw [e1]
        go_wp2
        go_region
        go_wp2
        go_roundg 1
        case measure => omega
        case rel => exact ⟨3, 4, rfl, rfl, ⟨.inr (.inr ⟨rfl, rfl, by rw [poslist_Best.b2, if_pos q, if_pos p]⟩)⟩, ⟨bx BK2.out⟩, ⟨bx BK4.out⟩, ⟨bh HB.out⟩⟩
       ·have pb : decide (z3 < z2) = false := decide_eq_false p
        rw [e1]
        go_wp2
        go_region
        go_wp2
        go_roundg 1
        case measure => omega
        case rel => exact ⟨2, 4, rfl, rfl, ⟨.inr (.inr ⟨rfl, rfl, by rw [poslist_Best.b2, if_pos q, if_neg (by omega)]⟩)⟩, ⟨bx BK2.out⟩, ⟨bx BK4.out⟩, ⟨bh HB.out⟩⟩
      ·have e1 : poslist_Best.b1 z1 z2 = 1 := by rw [poslist_Best.b1, if_neg (by omega)]
       by_cases p : z3 < z1
       ·have pb : decide (z3 < z1) = true := decide_eq_true p
        rw [e1]
        go_wp2
        go_region
        go_wp2
        go_roundg 1
        case measure => omega
        case rel => exact ⟨3, 4, rfl, rfl, ⟨.inr (.inr ⟨rfl, rfl, by rw [poslist_Best.b2, if_neg (by omega), if_pos p]⟩)⟩, ⟨bx BK2.out⟩, ⟨bx BK4.out⟩, ⟨bh HB.out⟩⟩
       ·have pb : decide (z3 < z1) = false := decide_eq_false p
        rw [e1]
        go_wp2
        go_region
        go_wp2
        go_roundg 1
        case measure => omega
        case rel => exact ⟨1, 4, rfl, rfl, ⟨.inr (.inr ⟨rfl, rfl, by rw [poslist_Best.b2, if_neg (by omega), if_neg (by omega)]⟩)⟩, ⟨bx BK2.out⟩, ⟨bx BK4.out⟩, ⟨bh HB.out⟩⟩
     ·generalize poslist_Best.b2 z1 z2 z3 = bb at H3
      go_wp2_with ((go_at_call 10; (with_reducible refine (poslist_Of.calls k _ _ l0 bb r1 r2 r3 r4 r5 _ ?side1 ?side2 H3.out).mono ?_); (case side1 => exact (Kd.C_below HR0.out HB.out)); (case side2 => exact HC0.out); have hlt2 := blk_lt BK2.out; have HB0 := HB; rintro e w6 ⟨v1, v2, v3, rfl, hv1, hv2, hv3, hb⟩; have n0_ := Aside0.mk (below_step HB.out hb); have n1_ := Aside0.mk (blk_below BK2.out hb); clear HB BK2; have HB := n0_; have BK2 := n1_; clear n0_ n1_ hb; obtain ⟨Av1, cv1, rfl⟩ := Kd.R_slice hv1; obtain ⟨Av2, cv2, rfl⟩ := Kd.R_slice hv2; obtain ⟨Av3, cv3, rfl⟩ := Kd.R_slice hv3; obtain ⟨hc20, hc21, hc22, hc23, hf20, hf21, hf22, hf23⟩ := b4 BK2))
      refine bodyPost_ret (results_ct rfl _ _ g2 27 #[.int .i64 r1, .slice Av1 r2.length cv1, .slice Av2 r3.length cv2, .slice Av3 r4.length cv3] (0, 0) _ rfl (by refine blk_put (cs := #[.int .i64 r1, .slice Av1 r2.length cv1, .slice Av2 r3.length cv2, .slice none 0 0]) ?_ 3 _ rfl; refine blk_put (cs := #[.int .i64 r1, .slice Av1 r2.length cv1, .slice none 0 0, .slice none 0 0]) ?_ 2 _ rfl; refine blk_put (cs := #[.int .i64 r1, .slice none 0 0, .slice none 0 0, .slice none 0 0]) ?_ 1 _ rfl; refine blk_put (cs := #[.int .i64 0, .slice none 0 0, .slice none 0 0, .slice none 0 0]) ?_ 0 _ rfl; exact BK2.out) Tryz.underlying27 rfl (by kernel_rfl)) rfl ?_
      have hw_ := below_size HB0.out
      exact ⟨_, _, _, rfl, Kd.R_lower (XR.R_far (XR.R_far (XR.R_far (XR.R_far hv1 hlt2) hlt2) hlt2) hlt2) hw_, Kd.R_lower (XR.R_far (XR.R_far (XR.R_far (XR.R_far hv2 hlt2) hlt2) hlt2) hlt2) hw_, Kd.R_lower (XR.R_far (XR.R_far (XR.R_far (XR.R_far hv3 hlt2) hlt2) hlt2) hlt2) hw_, bh HB.out⟩
/-! ### poslist_From: function 16 -/
def poslist_From.f (k : Nat) (l0 : List Int) : Option (Int × (List (S64)) × List Int × List Int × Int) := (span_Of.f k l0).bind fun bt180 => (if bt180.2 = 0 then ((poslist_Best.f k bt180.1).bind fun bt184 => (some (bt184.1, bt184.2.1, bt184.2.2.1, bt184.2.2.2.1, bt184.2.2.2.2))) else (some (0, ([] : List (S64)), ([] : List Int), ([] : List Int), bt180.2)))
set_option maxHeartbeats 8000000 in
set_option maxRecDepth 100000 in
theorem poslist_From.calls (k : Nat) (A0 : Option Addr) (c0 : Nat) (l0 : List Int) (r1 : Int) (r2 : List (S64)) (r3 : List Int) (r4 : List Int) (r5 : Int) (w : World) (hr0 : Kd.C (Kd.int .i64) w A0 l0.length l0) (hc0 : l0.length ≤ c0) (h : poslist_From.f k l0 = some (r1, r2, r3, r4, r5)) :
  Calls Tryz.prog 16 #[.slice A0 l0.length c0] w fun e w' => ∃ v1_ v2_ v3_ : Value, e = .returned (.tuple #[.agg #[.int .i64 r1, v1_, v2_, v3_], .int .i64 r5]) ∧ Kd.R k64 64 w' w.heap.size (fun _ => True) v1_ r2 ∧ Kd.R (Kd.int .i64) 3 w' w.heap.size (fun k_ => some k_ ≠ (v3_ : Value).ownBlock) v2_ r3 ∧ Kd.R (Kd.int .i64) 3 w' w.heap.size (fun k_ => some k_ ≠ (v2_ : Value).ownBlock) v3_ r4 ∧ Below w.heap.size w w' := by
 have hu27 := Tryz.underlying27
 have HR0 := Aside0.mk hr0
 have HC0 := Aside0.mk hc0
 clear hr0 hc0
 have HB := Aside0.mk (Below.refl w.heap.size w)
 have H := h
 clear h
 unfold poslist_From.f at H
 replace H := bd H
 obtain ⟨⟨t180, t181⟩, A2, H⟩ := H
 dsimp only at H
 replace H := ife H
 rcases H with ⟨-, c3b0, c3b1, H⟩ | ⟨c3, c3b0, c3b1, H⟩
 ·replace H := bd H
  obtain ⟨⟨t184, t185, t188, t191, t194⟩, A4, H⟩ := H
  dsimp only at H
  simp only [Option.some.injEq, Prod.mk.injEq] at H
  obtain ⟨rfl, rfl, rfl, rfl, rfl⟩ := H
  go_enter Tryz.func16, Tryz.ntmps16
  go_wp2_with (first | ((with_reducible refine gate_dst (N := 2) rfl ?_); refine boxE HB 2 27 #[.int .i64 0, .slice none 0 0, .slice none 0 0, .slice none 0 0] ?_; clear HB; intro gb179 w5 BK179 GW179 hg hb HB; have GE179 := GW179; clear hb hg) | ((with_reducible refine gate_callee (f := 49) rfl ?_); refine gL 8 Tryz.func49 #[.slice A0 l0.length c0] ?_; (with_reducible refine (span_Of.calls k _ _ l0 t180 t181 _ ?side1 ?side2 A2.out).mono ?_); (case side1 => exact cx (Kd.C_below HR0.out HB.out)); (case side2 => exact HC0.out); rintro e w6 ⟨v182, rfl, ho0, hb⟩; refine ⟨_, rfl, ?_⟩; have HO183 := Aside0.mk (Kd.R_lower ho0 (below_size (bh HB.out))); replace BK179 := bba BK179 hb; replace HB := bsa HB hb; clear hb ho0; obtain ⟨Ao7, co7, eo7⟩ := Kd.R_slice HO183.out; subst eo7) | ((with_reducible refine gate_callee (f := 12) rfl ?_); refine gL 16 Tryz.func12 #[.slice Ao7 t180.length co7] ?_; (with_reducible refine (poslist_Best.calls k _ _ t180 t184 t185 t188 t191 t194 _ ?side1 ?side2 A4.out).mono ?_); (case side1 => exact cx (Kd.R_reads' HO183.out).2.2); (case side2 => exact (Kd.R_reads' HO183.out).2.1); rintro e w8 ⟨v186, v189, v192, rfl, ho0, ho1, ho2, hb⟩; refine ⟨_, rfl, ?_⟩; have HO187 := Aside0.mk (Kd.R_lower (Kd.R_new' ho0 (Kd.R_lt (rx HO183.out))) (below_size (bh HB.out))); replace HO183 := Aside0.mk (Kd.R_elder' (rx HO183.out) (Kd.R_base ho0) hb); have HO190 := Aside0.mk (Kd.R_lower ho1 (below_size (bh HB.out))); have HO193 := Aside0.mk (Kd.R_lower ho2 (below_size (bh HB.out))); replace BK179 := bba BK179 hb; replace HB := bsa HB hb; clear hb ho0 ho1 ho2; obtain ⟨hcz9_0, hcz9_1, hcz9_2, hcz9_3, hfz9_0, hfz9_1, hfz9_2, hfz9_3⟩ := b4 BK179; obtain ⟨Ao10, co10, eo10⟩ := Kd.R_slice HO187.out; subst eo10; obtain ⟨Ao11, co11, eo11⟩ := Kd.R_slice HO190.out; subst eo11; obtain ⟨Ao12, co12, eo12⟩ := Kd.R_slice HO193.out; subst eo12) | ((with_reducible refine gate_store (t := 27) (p := 2) rfl ?_); refine stE 27 2 ((((w8.setCell ⟨gb179, 0, none⟩ (.int .i64 t184)).setCell ⟨gb179, 1, none⟩ (.slice Ao10 t185.length co10)).setCell ⟨gb179, 2, none⟩ (.slice Ao11 t188.length co11)).setCell ⟨gb179, 3, none⟩ (.slice Ao12 t191.length co12)) ?_; intro w13 hw; replace HO183 := rsm (fun k_ => some k_ ≠ (.slice Ao10 t185.length co10 : Value).ownBlock) HO183 hw (fun _ hk => hk.2); replace HO187 := rsm (fun k_ => some k_ ≠ (.slice Ao7 t180.length co7 : Value).ownBlock) HO187 hw (fun _ hk => hk.2); replace HO190 := rst HO190 hw; replace HO193 := rst HO193 hw; replace BK179 := sps #[.int .i64 t184, .slice Ao10 t185.length co10, .slice Ao11 t188.length co11, .slice Ao12 t191.length co12] BK179 hw (.p (.p (.p (.p .nil)))); replace HB := bhw HB hw; clear hw))
  refine bodyPost_ret (results_ct rfl _ _ gb179 27 #[.int .i64 t184, .slice Ao10 t185.length co10, .slice Ao11 t188.length co11, .slice Ao12 t191.length co12] (0, 0) _ rfl (bx BK179.out) Tryz.underlying27 rfl (by kernel_rfl)) rfl ?_
  exact ⟨_, _, _, er, by exact Kd.R_mono HO187.out (fun _ hk => trivial), by exact HO190.out, by exact HO193.out, bh HB.out⟩
 ·simp only [Option.some.injEq, Prod.mk.injEq] at H
  obtain ⟨rfl, rfl, rfl, rfl, rfl⟩ := H
  go_enter Tryz.func16, Tryz.ntmps16
  go_wp2_with (first | ((with_reducible refine gate_dst (N := 2) rfl ?_); refine boxE HB 2 27 #[.int .i64 0, .slice none 0 0, .slice none 0 0, .slice none 0 0] ?_; clear HB; intro gb179 w14 BK179 GW179 hg hb HB; have GE179 := GW179; clear hb hg) | ((with_reducible refine gate_callee (f := 49) rfl ?_); refine gL 8 Tryz.func49 #[.slice A0 l0.length c0] ?_; (with_reducible refine (span_Of.calls k _ _ l0 t180 t181 _ ?side1 ?side2 A2.out).mono ?_); (case side1 => exact cx (Kd.C_below HR0.out HB.out)); (case side2 => exact HC0.out); rintro e w15 ⟨v182, rfl, ho0, hb⟩; refine ⟨_, rfl, ?_⟩; have HO183 := Aside0.mk (Kd.R_lower ho0 (below_size (bh HB.out))); replace BK179 := bba BK179 hb; replace HB := bsa HB hb; clear hb ho0; obtain ⟨hcz16_0, hcz16_1, hcz16_2, hcz16_3, hfz16_0, hfz16_1, hfz16_2, hfz16_3⟩ := b4 BK179) | ((with_reducible refine gate_store (t := 27) (p := 2) rfl ?_); refine stE 27 2 ((((w15.setCell ⟨gb179, 0, none⟩ (.int .i64 0)).setCell ⟨gb179, 1, none⟩ (.slice none 0 0)).setCell ⟨gb179, 2, none⟩ (.slice none 0 0)).setCell ⟨gb179, 3, none⟩ (.slice none 0 0)) ?_; intro w17 hw; replace HO183 := rsm (fun _ => True) HO183 hw (fun _ hk => trivial); replace BK179 := sps #[.int .i64 0, .slice none 0 0, .slice none 0 0, .slice none 0 0] BK179 hw (.p (.p (.p (.p .nil)))); replace HB := bhw HB hw; clear hw))
  refine bodyPost_ret (results_ct rfl _ _ gb179 27 #[.int .i64 0, .slice none 0 0, .slice none 0 0, .slice none 0 0] (0, 0) _ rfl (bx BK179.out) Tryz.underlying27 rfl (by kernel_rfl)) rfl ?_
  exact ⟨_, _, _, er, nl, nl, nl, bh HB.out⟩
/-! ### poslist_All: function 18 -/
def poslist_All.j0 : Nat → Int → Bool → Option (Int × (List (S64)) × List Int × List Int × Int)
 | 0, _, _ => none
 | k + 1, x0, x9 => if x9 = true then (some (0, ([] : List (S64)), ([] : List Int), ([] : List Int), 1)) else (if x0 = 0 then (some (0, ([] : List (S64)), ([] : List Int), ([] : List Int), 0)) else ((poslist_Best.f k (([(⟨0, x0⟩ : S64)] : List (S64)))).bind fun bt199 => (some (bt199.1, bt199.2.1, bt199.2.2.1, bt199.2.2.2.1, bt199.2.2.2.2))))
def poslist_All.f (k : Nat) (a0 : Int) : Option (Int × (List (S64)) × List Int × List Int × Int) := if a0 < 0 then (poslist_All.j0 k a0 true) else (poslist_All.j0 k a0 (decide (a0 > 65536)))
theorem poslist_All.mono_l : ∀ k, (∀ y0 y1, LeO (poslist_All.j0 k y0 y1) (poslist_All.j0 (k + 1) y0 y1))
 | 0 => fun _ _ r h => by simp [poslist_All.j0] at h
 | k + 1 => by
  have ih0 := poslist_All.mono_l k
  ·intro y0 y1
   unfold poslist_All.j0
   repeat' first | (with_reducible exact poslist_Best.mono _ _) | (with_reducible exact LeO.refl _) | (with_reducible refine LeO.ite ?_ ?_) | (with_reducible refine LeO.bind ?_ (fun _ => ?_))
theorem poslist_All.mono : ∀ a0 k, LeO (poslist_All.f k a0) (poslist_All.f (k + 1) a0) := by
 intro a0 k
 have ih0 := poslist_All.mono_l k
 unfold poslist_All.f
 repeat' first | (with_reducible exact ih0 _ _) | (with_reducible refine LeO.ite ?_ ?_)
set_option maxHeartbeats 8000000 in
set_option maxRecDepth 100000 in
theorem poslist_All.calls (k : Nat) (a0 : Int) (r1 : Int) (r2 : List (S64)) (r3 : List Int) (r4 : List Int) (r5 : Int) (w : World) (h : poslist_All.f k a0 = some (r1, r2, r3, r4, r5)) :
  Calls Tryz.prog 18 #[.int .i64 a0] w fun e w' => ∃ v1_ v2_ v3_ : Value, e = .returned (.tuple #[.agg #[.int .i64 r1, v1_, v2_, v3_], .int .i64 r5]) ∧ Kd.R k64 64 w' w.heap.size (fun _ => True) v1_ r2 ∧ Kd.R (Kd.int .i64) 3 w' w.heap.size (fun k_ => some k_ ≠ (v3_ : Value).ownBlock) v2_ r3 ∧ Kd.R (Kd.int .i64) 3 w' w.heap.size (fun k_ => some k_ ≠ (v2_ : Value).ownBlock) v3_ r4 ∧ Below w.heap.size w w' := by
 have hu27 := Tryz.underlying27
 have hu64 := Tryz.underlying64
 have HB := Aside0.mk (Below.refl w.heap.size w)
 have H := h
 clear h
 unfold poslist_All.f at H
 have HC2 := Aside0.mk H
 clear H
 go_enter Tryz.func18, Tryz.ntmps18
 go_upto_region 1 with (((with_reducible refine gate_dst (N := 2) rfl ?_); refine boxE HB 2 27 #[.int .i64 0, .slice none 0 0, .slice none 0 0, .slice none 0 0] ?_; clear HB; intro gb195 w3 BK195 GW195 hg hb HB; have GE195 := GW195; clear hb hg))
 go_cut [9] (fun v9 wc => ∃ (kq : Nat) (x9_1 : Bool), v9 = .bool x9_1 ∧ Aside0 (poslist_All.j0 kq a0 x9_1 = some (r1, r2, r3, r4, r5)) ∧ Aside0 (kq ≤ k) ∧ Aside0 (wc.heap[gb195]? = some (.cells #[.int .i64 0, (.slice none 0 0), (.slice none 0 0), (.slice none 0 0)] 27 (0, 0))) ∧ Aside0 (Below w.heap.size w wc))
 case first =>
  have H := HC2.out
  clear HC2
  replace H := ifd H
  rcases H with ⟨-, c4b0, H⟩ | ⟨-, c4b0, H⟩
  ·(skip)
   have H' := Aside0.mk H
   clear H
   go_wp2
   go_meet
   case rel => exact ⟨_, (true), (by rfl), H', ⟨by omega⟩, ⟨bx BK195.out⟩, ⟨bh HB.out⟩⟩
  ·(skip)
   have H' := Aside0.mk H
   clear H
   go_wp2
   go_meet
   case rel => exact ⟨_, (decide (a0 > 65536)), (by rfl), H', ⟨by omega⟩, ⟨bx BK195.out⟩, ⟨bh HB.out⟩⟩
 case rest =>
  clear HC2
  obtain ⟨kq, x9_1, rfl, HA, HJ1, BK195, HB⟩ := hcut
  cases kq with
  | zero => exact absurd HA.out (by simp [poslist_All.j0])
  | succ kj1 =>
   have H := HA.out
   clear HA
   simp only [poslist_All.j0] at H
   replace H := ifb H
   rcases H with ⟨rfl, H⟩ | ⟨rfl, H⟩
   ·simp only [Option.some.injEq, Prod.mk.injEq] at H
    obtain ⟨rfl, rfl, rfl, rfl, rfl⟩ := H
    obtain ⟨hcz6_0, hcz6_1, hcz6_2, hcz6_3, hfz6_0, hfz6_1, hfz6_2, hfz6_3⟩ := b4 BK195
    go_wp2_with (((with_reducible refine gate_store (t := 27) (p := 2) rfl ?_); refine stE 27 2 ((((wc.setCell ⟨gb195, 0, none⟩ (.int .i64 0)).setCell ⟨gb195, 1, none⟩ (.slice none 0 0)).setCell ⟨gb195, 2, none⟩ (.slice none 0 0)).setCell ⟨gb195, 3, none⟩ (.slice none 0 0)) ?_; intro w7 hw; replace BK195 := sps #[.int .i64 0, .slice none 0 0, .slice none 0 0, .slice none 0 0] BK195 hw (.p (.p (.p (.p .nil)))); replace HB := bhw HB hw; clear hw))
    refine bodyPost_ret (results_ct rfl _ _ gb195 27 #[.int .i64 0, .slice none 0 0, .slice none 0 0, .slice none 0 0] (0, 0) _ rfl (bx BK195.out) Tryz.underlying27 rfl (by kernel_rfl)) rfl ?_
    exact ⟨_, _, _, er, nl, nl, nl, bh HB.out⟩
   ·replace H := ife H
    rcases H with ⟨-, c8b0, c8b1, H⟩ | ⟨c8, c8b0, c8b1, H⟩
    ·simp only [Option.some.injEq, Prod.mk.injEq] at H
     obtain ⟨rfl, rfl, rfl, rfl, rfl⟩ := H
     obtain ⟨hcz9_0, hcz9_1, hcz9_2, hcz9_3, hfz9_0, hfz9_1, hfz9_2, hfz9_3⟩ := b4 BK195
     go_wp2_with (((with_reducible refine gate_store (t := 27) (p := 2) rfl ?_); refine stE 27 2 ((((wc.setCell ⟨gb195, 0, none⟩ (.int .i64 0)).setCell ⟨gb195, 1, none⟩ (.slice none 0 0)).setCell ⟨gb195, 2, none⟩ (.slice none 0 0)).setCell ⟨gb195, 3, none⟩ (.slice none 0 0)) ?_; intro w10 hw; replace BK195 := sps #[.int .i64 0, .slice none 0 0, .slice none 0 0, .slice none 0 0] BK195 hw (.p (.p (.p (.p .nil)))); replace HB := bhw HB hw; clear hw))
     refine bodyPost_ret (results_ct rfl _ _ gb195 27 #[.int .i64 0, .slice none 0 0, .slice none 0 0, .slice none 0 0] (0, 0) _ rfl (bx BK195.out) Tryz.underlying27 rfl (by kernel_rfl)) rfl ?_
     exact ⟨_, _, _, er, nl, nl, nl, bh HB.out⟩
    ·obtain ⟨y196, hy196⟩ : ∃ y_ : List (S64), y_ = (([(⟨0, a0⟩ : S64)] : List (S64))) := ⟨_, rfl⟩
     replace H : ((poslist_Best.f kj1 y196).bind fun bt199 => (some (bt199.1, bt199.2.1, bt199.2.2.1, bt199.2.2.2.1, bt199.2.2.2.2))) = some (r1, r2, r3, r4, r5) := by (rw [hy196]; with_reducible exact H)
     have Ny196 := Aside0.mk hy196
     clear hy196
     replace H := bd H
     obtain ⟨⟨t199, t200, t203, t206, t209⟩, A11, H⟩ := H
     dsimp only at H
     simp only [Option.some.injEq, Prod.mk.injEq] at H
     obtain ⟨rfl, rfl, rfl, rfl, rfl⟩ := H
     go_wp2_with (first | ((with_reducible refine gate_dst (N := 16) rfl ?_); refine Kd.R_lit k64 _ 64 ?hg (N := 16) ?hd (xs := ([(⟨0, a0⟩ : S64)] : List (S64))) (inner := [.int .i64 0, .int .i64 a0]) (ok := fun _ => True) (okp := fun _ => True) ?hr ?hp (fun _ hk => hk) trivial (Below.refl _ _) (Nat.le_refl _) (by simp) ?_; (case hd => rfl); (case hg => rfl); (case hr => (go_simp; done)); (case hp => exact (Reps.c2 (show Kd.M k64 _ _ _ (⟨0, a0⟩ : S64) [.int .i64 0, .int .i64 a0] from (k64_mkM _ _ _ (⟨0, a0⟩ : S64) )) (Reps.none _ _))); intro v197 w12 ho13 hb hg_ hnew_; clear hg_ hnew_; (rw [← Ny196.out] at ho13); have HO198 := Aside0.mk (Kd.R_lower ho13 (below_size (bh HB.out))); replace BK195 := bba BK195 hb; replace HB := bsa HB hb; clear hb ho13; obtain ⟨Ao14, co14, eo14⟩ := Kd.R_slice HO198.out; subst eo14) | ((with_reducible refine gate_callee (f := 12) rfl ?_); refine gL 17 Tryz.func12 #[.slice Ao14 y196.length co14] ?_; (with_reducible refine (poslist_Best.calls kj1 _ _ y196 t199 t200 t203 t206 t209 _ ?side1 ?side2 A11.out).mono ?_); (case side1 => exact cx (Kd.R_reads' HO198.out).2.2); (case side2 => exact (Kd.R_reads' HO198.out).2.1); rintro e w15 ⟨v201, v204, v207, rfl, ho0, ho1, ho2, hb⟩; refine ⟨_, rfl, ?_⟩; have HO202 := Aside0.mk (Kd.R_lower (Kd.R_new' ho0 (Kd.R_lt (rx HO198.out))) (below_size (bh HB.out))); replace HO198 := Aside0.mk (Kd.R_elder' (rx HO198.out) (Kd.R_base ho0) hb); have HO205 := Aside0.mk (Kd.R_lower ho1 (below_size (bh HB.out))); have HO208 := Aside0.mk (Kd.R_lower ho2 (below_size (bh HB.out))); replace BK195 := bba BK195 hb; replace HB := bsa HB hb; clear hb ho0 ho1 ho2; obtain ⟨hcz16_0, hcz16_1, hcz16_2, hcz16_3, hfz16_0, hfz16_1, hfz16_2, hfz16_3⟩ := b4 BK195; obtain ⟨Ao17, co17, eo17⟩ := Kd.R_slice HO202.out; subst eo17; obtain ⟨Ao18, co18, eo18⟩ := Kd.R_slice HO205.out; subst eo18; obtain ⟨Ao19, co19, eo19⟩ := Kd.R_slice HO208.out; subst eo19) | ((with_reducible refine gate_store (t := 27) (p := 2) rfl ?_); refine stE 27 2 ((((w15.setCell ⟨gb195, 0, none⟩ (.int .i64 t199)).setCell ⟨gb195, 1, none⟩ (.slice Ao17 t200.length co17)).setCell ⟨gb195, 2, none⟩ (.slice Ao18 t203.length co18)).setCell ⟨gb195, 3, none⟩ (.slice Ao19 t206.length co19)) ?_; intro w20 hw; replace HO198 := rsm (fun k_ => some k_ ≠ (.slice Ao17 t200.length co17 : Value).ownBlock) HO198 hw (fun _ hk => hk.2); replace HO202 := rsm (fun k_ => some k_ ≠ (.slice Ao14 y196.length co14 : Value).ownBlock) HO202 hw (fun _ hk => hk.2); replace HO205 := rst HO205 hw; replace HO208 := rst HO208 hw; replace BK195 := sps #[.int .i64 t199, .slice Ao17 t200.length co17, .slice Ao18 t203.length co18, .slice Ao19 t206.length co19] BK195 hw (.p (.p (.p (.p .nil)))); replace HB := bhw HB hw; clear hw))
     refine bodyPost_ret (results_ct rfl _ _ gb195 27 #[.int .i64 t199, .slice Ao17 t200.length co17, .slice Ao18 t203.length co18, .slice Ao19 t206.length co19] (0, 0) _ rfl (bx BK195.out) Tryz.underlying27 rfl (by kernel_rfl)) rfl ?_
     exact ⟨_, _, _, er, by exact Kd.R_mono HO202.out (fun _ hk => trivial), by exact HO205.out, by exact HO208.out, bh HB.out⟩
/-! ### words_May: function 80 -/
def words_May.f (l0 : List Int) : Option (Bool) := if (l0.length : Int) ≤ 1024 then (if (l0.length : Int) = 0 then (some true) else (if 0 ≤ (wrap64 ((l0.length : Int) - 1)) then (if (wrap64 ((l0.length : Int) - 1)) < (l0.length : Int) then (some ((rd l0 (wrap64 ((l0.length : Int) - 1))) != 0)) else (none)) else (none))) else (some false)
set_option maxHeartbeats 8000000 in
set_option maxRecDepth 100000 in
theorem words_May.calls (A0 : Option Addr) (c0 : Nat) (l0 : List Int) (r : Bool) (w : World) (hr0 : Kd.C (Kd.int .i64) w A0 l0.length l0) (hc0 : l0.length ≤ c0) (h : words_May.f l0 = some r) :
  Calls Tryz.prog 80 #[.slice A0 l0.length c0] w fun e w' => e = .returned (.bool r) ∧ Drawn0 w w' := by
 have HR0 := Aside0.mk hr0
 have HC0 := Aside0.mk hc0
 clear hr0 hc0
 have H := h
 clear h
 unfold words_May.f at H
 replace H := ifd H
 rcases H with ⟨c2, c2b0, H⟩ | ⟨c2, c2b0, H⟩
 ·have c2b1 : decide (l0.length ≤ 1024) = true := decide_eq_true (by omega)
  clear c2
  replace H := ife H
  rcases H with ⟨-, c3b0, c3b1, H⟩ | ⟨c3, c3b0, c3b1, H⟩
  ·obtain rfl := Option.some.inj H
   go_enter Tryz.func80, Tryz.ntmps80
   go_wp2
   go_ret
   exact ⟨by rfl, by repeat (exact Drawn0.refl _)⟩
  ·have c3b2 : ¬ (l0 = []) := fun h_ => c3 (by rw [h_]; rfl)
   obtain ⟨ji4, hji4⟩ : ∃ j_ : Int, (wrap64 ((l0.length : Int) - 1)) = j_ := ⟨_, rfl⟩
   replace H : (if 0 ≤ (ji4) then (if (ji4) < (l0.length : Int) then (some ((rd l0 (ji4)) != 0)) else (none)) else (none)) = some r := by (rw [hji4] at H; exact H)
   have hji4w : (IntKind.i64.wrap ((l0.length : Int) - 1)) = ji4 := (i64_w _).trans hji4
   replace H := ifn H
   obtain ⟨-, c5b0, H⟩ := H
   replace H := ifn H
   obtain ⟨-, c6b0, H⟩ := H
   obtain rfl := Option.some.inj H
   have p210 : 0 ≤ ((ji4) : Int) := ad
   have q210 : (ji4) < (l0.length : Int) := ad
   obtain ⟨ad210, e210, hx210_0⟩ := Kd.at_int HR0.out (ji4) p210 q210
   cases e210
   replace p210 := eq_true p210
   replace q210 := eq_true q210
   go_enter Tryz.func80, Tryz.ntmps80
   go_wp2
   go_ret
   exact ⟨by rfl, by repeat (exact Drawn0.refl _)⟩
 ·have c2b1 : decide (l0.length ≤ 1024) = false := decide_eq_false (by omega)
  clear c2
  obtain rfl := Option.some.inj H
  go_enter Tryz.func80, Tryz.ntmps80
  go_wp2
  go_ret
  exact ⟨by rfl, by repeat (exact Drawn0.refl _)⟩
/-! ### bits_Field: function 98 -/
def bits_Field.f (a0 : Int) (a1 : Int) (a2 : Int) : Option (Int) := (bits_placed.f a1 a2).bind fun t211 => (if t211 = true then (if 0 ≤ a1 then ((bits_Mask.f a2).bind fun t212 => (some (Go.bits .and .i64 (wrap64 (shr .u64 (IntKind.u64.wrap (a0)) a1)) t212))) else (none)) else (some 0))
set_option maxHeartbeats 8000000 in
set_option maxRecDepth 100000 in
theorem bits_Field.calls (a0 : Int) (a1 : Int) (a2 : Int) (r : Int) (w : World) (h : bits_Field.f a0 a1 a2 = some r) :
  Calls Tryz.prog 98 #[.int .i64 a0, .int .i64 a1, .int .i64 a2] w fun e w' => e = .returned (.int .i64 r) ∧ Drawn0 w w' := by
 have H := h
 clear h
 unfold bits_Field.f at H
 replace H := bd H
 obtain ⟨t211, A4, H⟩ := H
 replace H := ifb H
 rcases H with ⟨rfl, H⟩ | ⟨rfl, H⟩
 ·replace H := ifn H
  obtain ⟨c6, -, H⟩ := H
  have c6b0 := eq_true c6
  have c6b1 : decide (0 ≤ a1) = true := decide_eq_true c6
  clear c6
  obtain ⟨ji7, hji7⟩ : ∃ j_ : Int, (shr .u64 (IntKind.u64.wrap (a0)) a1) = j_ := ⟨_, rfl⟩
  replace H : ((bits_Mask.f a2).bind fun t212 => (some (Go.bits .and .i64 (wrap64 (ji7)) t212))) = some r := by (rw [hji7] at H; exact H)
  have hji7_ : ((IntKind.u64.wrap (a0)) / 2 ^ min a1.toNat 64) = ji7 := hji7
  have hji7z : a1 ≤ 64 → ((IntKind.u64.wrap (a0)) / 2 ^ a1.toNat) = ji7 := shr_small hji7
  replace H := bd H
  obtain ⟨t212, A8, H⟩ := H
  obtain rfl := Option.some.inj H
  go_enter Tryz.func98, Tryz.ntmps98
  go_wp2_with ((go_at_call 113; (with_reducible refine (bits_placed.calls a1 a2 true _ A4.out).mono ?_); rintro e w' ⟨rfl, ⟨nd, rfl⟩⟩))
  repeat (go_quiet ((go_at_call 114; (with_reducible refine (bits_Mask.calls a2 t212 _ A8.out).mono ?_); rintro e w' ⟨rfl, ⟨nd, rfl⟩⟩; (exact ⟨rfl, _, Eq.trans (World.drewN_drewN _ _ _) (congrArg (World.drewN _) (Nat.add_assoc _ _ _))⟩))); go_wp2_with (fail))
  go_ret
  exact ⟨by rfl, by repeat (first | exact Drawn0.refl _ | apply Drawn0.step)⟩
 ·obtain rfl := Option.some.inj H
  go_enter Tryz.func98, Tryz.ntmps98
  go_wp2_with ((go_at_call 113; (with_reducible refine (bits_placed.calls a1 a2 false _ A4.out).mono ?_); rintro e w' ⟨rfl, ⟨nd, rfl⟩⟩))
  repeat (go_quiet (fail))
  go_ret
  exact ⟨by rfl, by repeat (first | exact Drawn0.refl _ | apply Drawn0.step)⟩
end Go.Proofs.YtjgmdjieandemaaGreat.Print
end
