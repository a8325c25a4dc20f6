-- Functions and laws: texts of the session's own and of the kit's print program, joined; what nothing names is left out.
import Derived.Test.YtfohecpfenegkaaProg
import Derived.Below
import Derived.Deep.Draws
import Derived.Deep.AppendLies
import Derived.Maps.AppendAt
import Derived.OwnWalk
import Derived.Laws.BytesArg
import Derived.Laws.MakeOwn
import Derived.Laws.OwnMore
import Derived.Deep.OwnRows
import Derived.Tactics
import Derived.Lib.ConvBytes
import Derived.Laws.Slices
import Derived.WalkKit
import Derived.KernelRfl
import Derived.RowKit3
import Derived.Deep.LoopGhost
import Derived.Deep.QuietTactic
import Derived.BigQuiet
import Derived.WideLaws
import Derived.Deep.DeepCutAuto
import Derived.Deep.CutBlock
import Derived.Deep.RegionHeld3
import Derived.Laws.Rows
import Derived.Lib.AppendStr
import Derived.ArgAppend
import Derived.Laws.IdiomCopy
import Derived.OrdersHeld
import Derived.Laws.BitsLemmas
import Derived.RowKit
import Derived.Test.YtfohecpfenegkaaTW
import Derived.Ground.NamesProg
import Derived.Lib.SortBridge
import Derived.Shelf.Slices.In.SortNone
import Derived.Shelf.Sort.Plain
import Derived.Sort.EveryDepth
import Derived.Sort.OwnSorted
import Derived.Shelf.Strings.BuilderK
section
namespace Go.Proofs.Ytfohecpfenegkaa.Print
open Go.RowKit Go.Proofs.YtfohecpfenegkaaW.PrintWords Go.Proofs.YtfohecpfenegkaaW.PrintLast Go.Proofs.YtfohecpfenegkaaW.PrintMore
attribute [local go_sem] max2_int min2_int max_two min_two max_three min_three max_four min_four   -- for this text's walks alone
set_option linter.unusedVariables false
set_option linter.unusedSimpArgs false
def errW : Option Int → Value
  | none => .nilIface
  | some c => .iface 0 (.int .i64 c)
theorem errW_none : errW none = .nilIface := rfl
theorem errW_some (c : Int) : errW (some c) = .iface 0 (.int .i64 c) := rfl
theorem info3 : (Try.prog.info? 3).map (fun i => (i.zero, i.size, i.bytes)) = some (some (.int .i64 0), 1, 8) := by kernel_rfl
theorem info4 : (Try.prog.info? 4).map (fun i => (i.zero, i.size, i.bytes)) = some (some (.bool false), 1, 1) := by kernel_rfl
theorem info5 : (Try.prog.info? 5).map (fun i => (i.zero, i.size, i.bytes)) = some (some (.int .u8 0), 1, 1) := by kernel_rfl
theorem info9 : (Try.prog.info? 9).map (fun i => (i.zero, i.size, i.bytes)) = some (some (.string ⟨#[]⟩), 1, 16) := by kernel_rfl
end Go.Proofs.Ytfohecpfenegkaa.Print
end
section
namespace Go.Proofs.Ytfohecpfenegkaa.Print
open Go.RowKit Go.Proofs.YtfohecpfenegkaaW.PrintWords Go.Proofs.YtfohecpfenegkaaW.PrintLast Go.Proofs.YtfohecpfenegkaaW.PrintMore
attribute [local go_sem] max2_int min2_int max_two min_two max_three min_three max_four min_four   -- for this text's walks alone
set_option linter.unusedVariables false
set_option linter.unusedSimpArgs false
/-! ### peristyleref07_Few: function 6 -/
mutual
def peristyleref07_Few.l0 : Nat → List ByteArray → Int → Int → Option (Bool)
 | 0, _, _, _ => none
 | k + 1, x0, x1, x5 => if x5 < (x0.length : Int) then (peristyleref07_Few.j1 k x0 x1 x5 (decide (x5 < x1))) else (peristyleref07_Few.j1 k x0 x1 x5 false)
def peristyleref07_Few.j1 : Nat → List ByteArray → Int → Int → Bool → Option (Bool)
 | 0, _, _, _, _ => none
 | k + 1, x0, x1, x5, x14 => if x14 = true then (if 0 ≤ x5 then (if x5 < (x0.length : Int) then (if ((rdOf ByteArray.empty x0 x5).size : Int) > 100 then (some false) else (peristyleref07_Few.l0 k x0 x1 (wrap64 (x5 + 1)))) else (none)) else (none)) else (some (decide ((x0.length : Int) ≤ x1)))
end
def peristyleref07_Few.f (k : Nat) (l0 : List ByteArray) (a1 : Int) : Option (Bool) := peristyleref07_Few.l0 k l0 a1 0
theorem peristyleref07_Few.l0_succ (k : Nat) (x0 : List ByteArray) (x1 : Int) (x5 : Int) : peristyleref07_Few.l0 (k + 1) x0 x1 x5 = (if x5 < (x0.length : Int) then (peristyleref07_Few.j1 k x0 x1 x5 (decide (x5 < x1))) else (peristyleref07_Few.j1 k x0 x1 x5 false)) := by
 simp only [peristyleref07_Few.l0]
theorem peristyleref07_Few.j1_succ (k : Nat) (x0 : List ByteArray) (x1 : Int) (x5 : Int) (x14 : Bool) : peristyleref07_Few.j1 (k + 1) x0 x1 x5 x14 = (if x14 = true then (if 0 ≤ x5 then (if x5 < (x0.length : Int) then (if ((rdOf ByteArray.empty x0 x5).size : Int) > 100 then (some false) else (peristyleref07_Few.l0 k x0 x1 (wrap64 (x5 + 1)))) else (none)) else (none)) else (some (decide ((x0.length : Int) ≤ x1)))) := by
 simp only [peristyleref07_Few.j1]
set_option maxHeartbeats 8000000 in
set_option maxRecDepth 100000 in
theorem peristyleref07_Few.calls (k : Nat) (A0 : Option Addr) (c0 : Nat) (l0 : List ByteArray) (a1 : Int) (r : Bool) (w : World) (hr0 : Kd.C Kd.string w A0 l0.length l0) (hc0 : l0.length ≤ c0) (h : peristyleref07_Few.f k l0 a1 = some r) :
  Calls Try.prog 6 #[.slice A0 l0.length c0, .int .i64 a1] w fun e w' => e = .returned (.bool r) ∧ Drawn0 w w' := by
 have HR0 := Aside0.mk hr0
 have HC0 := Aside0.mk hc0
 clear hr0 hc0
 have H : (peristyleref07_Few.l0 k l0 a1 0) = some r := h
 clear h
 have H' := Aside0.mk H
 clear H
 go_enter Try.func6, Try.ntmps6
 go_wp2
 go_loopg [5] k (fun kq v5 w' => ∃ (x5_1 : Int), v5 = .int .i64 x5_1 ∧ Aside0 (peristyleref07_Few.l0 kq l0 a1 x5_1 = some r) ∧ Aside0 (kq ≤ k) ∧ Drawn0 w w')
 case atStart => exact ⟨(0), (by first | rfl | (simp; done) | (simp [*]; done)), H', ⟨Nat.le_refl _⟩, by repeat (first | exact Drawn0.refl _ | apply Drawn0.step)⟩
 case round =>
  clear H'
  obtain ⟨x5_1, rfl, HA, HK1, ⟨m1, rfl⟩⟩ := hrel
  cases gk with
  | zero => exact absurd HA.out (by simp [peristyleref07_Few.l0])
  | succ k1 =>
   have H := HA.out
   clear HA
   simp only [peristyleref07_Few.l0] at H
   have HC3 := Aside0.mk H
   clear H
   go_upto_region 2 with (fail)
   go_cut [14] (fun v14 wc => ∃ (kq : Nat) (x14_2 : Bool), v14 = .bool x14_2 ∧ Aside0 (peristyleref07_Few.j1 kq l0 a1 x5_1 x14_2 = some r) ∧ Aside0 (kq ≤ k1) ∧ Drawn0 w wc)
   case first =>
    have H := HC3.out
    clear HC3
    by_cases c4 : x5_1 < (l0.length : Int)
    ·rw [if_pos c4] at H
     have c4b0 : decide (x5_1 < (l0.length : Int)) = true := decide_eq_true c4
     clear c4
     (first | rw [c4b0] | (simp only [i64_w, i32_w]; rw [c4b0]) | rw [c4b1] | skip)
     have H' := Aside0.mk H
     clear H
     go_wp2
     go_meet
     case rel => exact ⟨_, (decide (x5_1 < a1)), (by first | rfl | (simp; done) | (simp [*]; done)), H', ⟨by have := HK1.out; first | omega | exact Nat.le_refl _⟩, by repeat (first | exact Drawn0.refl _ | apply Drawn0.step)⟩
    ·rw [if_neg c4] at H
     have c4b0 : decide (x5_1 < (l0.length : Int)) = false := decide_eq_false c4
     clear c4
     (first | rw [c4b0] | (simp only [i64_w, i32_w]; rw [c4b0]) | rw [c4b1] | skip)
     have H' := Aside0.mk H
     clear H
     go_wp2
     go_meet
     case rel => exact ⟨_, (false), (by first | rfl | (simp; done) | (simp [*]; done)), H', ⟨by have := HK1.out; first | omega | exact Nat.le_refl _⟩, by repeat (first | exact Drawn0.refl _ | apply Drawn0.step)⟩
   case rest =>
    clear HC3
    try clear c4
    try clear c4b0
    obtain ⟨kq, x14_2, rfl, HA, HJ2, ⟨mc2, rfl⟩⟩ := hcut
    cases kq with
    | zero => exact absurd HA.out (by simp [peristyleref07_Few.j1])
    | succ kj2 =>
     have H := HA.out
     clear HA
     simp only [peristyleref07_Few.j1] at H
     by_cases c5 : x14_2 = true
     ·subst c5
      have H1 : (if 0 ≤ x5_1 then (if x5_1 < (l0.length : Int) then (if ((rdOf ByteArray.empty l0 x5_1).size : Int) > 100 then (some false) else (peristyleref07_Few.l0 kj2 l0 a1 (wrap64 (x5_1 + 1)))) else (none)) else (none)) = some r := by rw [if_pos rfl] at H; exact H
      clear H
      have H := H1
      clear H1
      by_cases c6 : 0 ≤ x5_1
      ·rw [if_pos c6] at H
       have c6b0 : decide (0 ≤ x5_1) = true := decide_eq_true c6
       clear c6
       by_cases c7 : x5_1 < (l0.length : Int)
       ·rw [if_pos c7] at H
        have c7b0 : decide (x5_1 < (l0.length : Int)) = true := decide_eq_true c7
        clear c7
        by_cases c8 : ((rdOf ByteArray.empty l0 x5_1).size : Int) > 100
        ·rw [if_pos c8] at H
         have c8b0 : decide (100 < ((rdOf ByteArray.empty l0 x5_1).size : Int)) = true := decide_eq_true c8
         have c8b1 : decide (100 < (rdOf ByteArray.empty l0 x5_1).size) = true := decide_eq_true (by omega)
         clear c8
         obtain rfl := Option.some.inj H
         have p101 : 0 ≤ (x5_1 : Int) := of_decide_eq_true (by assumption)
         have q101 : x5_1 < (l0.length : Int) := of_decide_eq_true (by assumption)
         obtain ⟨ad101, e101, hx101_0⟩ := Kd.at_string HR0.out x5_1 p101 q101
         cases e101
         replace p101 := eq_true p101
         replace q101 := eq_true q101
         go_wp2
         go_ret
         exact ⟨by first | rfl | (unfold wrap64; rfl) | (simp; done) | (simp [*]; done), by repeat (first | exact Drawn0.refl _ | apply Drawn0.step)⟩
        ·rw [if_neg c8] at H
         have c8b0 : decide (100 < ((rdOf ByteArray.empty l0 x5_1).size : Int)) = false := decide_eq_false c8
         have c8b1 : decide (100 < (rdOf ByteArray.empty l0 x5_1).size) = false := decide_eq_false (by omega)
         clear c8
         have H' := Aside0.mk H
         clear H
         have p101 : 0 ≤ (x5_1 : Int) := of_decide_eq_true (by assumption)
         have q101 : x5_1 < (l0.length : Int) := of_decide_eq_true (by assumption)
         obtain ⟨ad101, e101, hx101_0⟩ := Kd.at_string HR0.out x5_1 p101 q101
         cases e101
         replace p101 := eq_true p101
         replace q101 := eq_true q101
         go_wp2
         go_roundg kj2
         case measure => have := HK1.out; have := HJ2.out; omega
         case rel => exact ⟨(wrap64 (x5_1 + 1)), (by first | rfl | (simp; done) | (simp [*]; done)), H', ⟨by have := HK1.out; have := HJ2.out; omega⟩, by repeat (first | exact Drawn0.refl _ | apply Drawn0.step)⟩
       ·rw [if_neg c7] at H
        exact absurd H (by simp)
      ·rw [if_neg c6] at H
       exact absurd H (by simp)
     ·replace c5 := Bool.eq_false_iff.mpr c5
      subst c5
      have H1 : (some (decide ((l0.length : Int) ≤ a1))) = some r := by rw [if_neg (show ¬ (false = true) by decide)] at H; exact H
      clear H
      have H := H1
      clear H1
      obtain rfl := Option.some.inj H
      go_wp2
      go_ret
      exact ⟨by first | rfl | (unfold wrap64; rfl) | (simp; done) | (simp [*]; done), by repeat (first | exact Drawn0.refl _ | apply Drawn0.step)⟩
/-! ### slices_Clone_string_string: function 21 (a contract of the session's own) -/
def slices_Clone_string_string.f (l0 : List ByteArray) : Option (List ByteArray) := if l0.length ≤ 2000000000000 then some l0 else none
set_option maxHeartbeats 4000000 in
set_option maxRecDepth 100000 in
theorem slices_Clone_string_string.calls (A0 : Option Addr) (c0 : Nat) (l0 : List ByteArray) (r : List ByteArray) (w : World) (hr0 : Kd.string.C w A0 l0.length l0) (hc0 : l0.length ≤ c0) (h : slices_Clone_string_string.f l0 = some r) :
    Calls Try.prog 21 #[.slice A0 l0.length c0] w fun e w' => ∃ v0_ : Value, e = .returned v0_ ∧ Kd.string.R 9 w' w.heap.size (fun _ => True) v0_ r ∧ Below w.heap.size w w' := by
  have hl : l0.length ≤ 2000000000000 := by
    unfold slices_Clone_string_string.f at h
    split at h
    · assumption
    · exact absurd h (by simp)
  obtain rfl : l0 = r := by
    unfold slices_Clone_string_string.f at h
    rw [if_pos hl] at h
    exact Option.some.inj h
  have HR := Aside0.mk hr0
  have HC := Aside0.mk hc0
  have HL := Aside0.mk hl
  clear hr0 hc0 hl h
  go_enter Try.func21, Try.ntmps21
  rcases A0 with _ | ad
  · have h0 : l0 = [] := by
      have := HR.out.2.2
      rcases l0 with _ | ⟨x, l⟩
      · rfl
      · obtain ⟨ad, he, _⟩ := this (by simp)
        exact absurd he (by simp)
    subst h0
    have hE := Go.Lib.run_eql_slice_nil_nil (P := Try.prog) w (t := 22) (e := 9) 0 c0 Try.underlying22
    go_wp2
    go_ret
    exact ⟨_, rfl, Kd.R_nil _ _ _ _ _, Below.refl _ _⟩
  · have hE := Go.Lib.run_eql_slice_some_nil (P := Try.prog) w (t := 22) (e := 9) ad l0.length c0 Try.underlying22
    go_wp2_with (first | ((with_reducible refine gate_dst (N := 5) rfl ?_); refine Kd.R_lit Kd.string (w0 := w) w.heap.size 9 rfl (N := 5) rfl (xs := []) (inner := []) (ok := fun _ => True) (okp := fun _ => True) (by first | rfl | (go_simp; done) | (go_simp; rfl)) (Reps.none _ _) (fun _ _ => trivial) trivial (Below.refl _ _) (Nat.le_refl _) (by simp) ?_; intro v5 w1 ho5 hb hg_ hnew_; have HO5 := Aside0.mk ho5; have HB := Aside0.mk hb; clear ho5 hb hg_ hnew_; obtain ⟨Ao5, co5, eo5⟩ := Kd.R_slice HO5.out; subst eo5) | ((with_reducible refine gate_builtin (b := .append) (xs := #[.tmp 5, .tmp 6]) rfl ?_); at_builtin; refine Kd.R_append_rows Kd.string (w0 := w) w.heap.size rfl (.tmp 5) (.tmp 6) 22 9 _ _ rfl Try.underlying22 info9 rfl (by decide) (by omega) _ [] l0 _ _ _ (fun _ => True) (fun _ => False) rfl rfl HO5.out (Kd.C_below HR.out HB.out) (fun _ _ h => h) (fun _ h => h.elim) (fun _ _ => trivial) HB.out (below_size HB.out) (by have := HL.out; simp; omega) ?_; intro v7 w2 ho7 hb7 hg_ hat_; have HO7 := Aside0.mk ho7; have HB7 := Aside0.mk hb7; clear ho7 hb7 hg_ hat_))
    go_ret
    exact ⟨_, rfl, by simpa using HO7.out, HB7.out⟩
/-! ### slices_Sort_string_string: function 22 (a contract of the session's own) -/
def Try.laysSortS_ren : Go.Shelf.Ren := ⟨fun | 190 => 22 | 125 => 44 | 258 => 43 | 128 => 72 | 129 => 73 | 302 => 64 | 303 => 65 | 304 => 66 | 305 => 67 | 306 => 68 | 307 => 69 | 308 => 45 | 309 => 70 | 310 => 71 | 333 => 95 | 329 => 96 | 330 => 97 | 334 => 98 | 335 => 99 | 336 => 74 | 344 => 104 | n => n, fun | 31 => 22 | 9 => 9 | 3 => 3 | 46 => 67 | 0 => 0 | 51 => 100 | 53 => 89 | 4 => 4 | 183 => 94 | 182 => 93 | 131 => 47 | 5 => 5 | 218 => 116 | 222 => 120 | 228 => 126 | 229 => 86 | n => n, fun | n => n⟩
theorem Try.laysSortS : Go.Proofs.Lays.n190 Try.prog Try.laysSortS_ren := {
  mixed := by kernel_rfl
  f125 := Try.func44.trans (congrArg some (by kernel_rfl))
  f128 := Try.func72.trans (congrArg some (by kernel_rfl))
  f129 := Try.func73.trans (congrArg some (by kernel_rfl))
  f190 := Try.func22.trans (congrArg some (by kernel_rfl))
  f258 := Try.func43.trans (congrArg some (by kernel_rfl))
  f302 := Try.func64.trans (congrArg some (by kernel_rfl))
  f303 := Try.func65.trans (congrArg some (by kernel_rfl))
  f304 := Try.func66.trans (congrArg some (by kernel_rfl))
  f305 := Try.func67.trans (congrArg some (by kernel_rfl))
  f306 := Try.func68.trans (congrArg some (by kernel_rfl))
  f307 := Try.func69.trans (congrArg some (by kernel_rfl))
  f308 := Try.func45.trans (congrArg some (by kernel_rfl))
  f309 := Try.func70.trans (congrArg some (by kernel_rfl))
  f310 := Try.func71.trans (congrArg some (by kernel_rfl))
  f329 := Try.func96.trans (congrArg some (by kernel_rfl))
  f330 := Try.func97.trans (congrArg some (by kernel_rfl))
  f333 := Try.func95.trans (congrArg some (by kernel_rfl))
  f334 := Try.func98.trans (congrArg some (by kernel_rfl))
  f335 := Try.func99.trans (congrArg some (by kernel_rfl))
  f336 := Try.func74.trans (congrArg some (by kernel_rfl))
  f344 := Try.func104.trans (congrArg some (by kernel_rfl))
  t0 := Try.underlying0
  a0 := Try.isAgg0
  z0 := Try.sizeOf0
  v0 := Try.zeroValue0
  t3 := Try.underlying3
  a3 := Try.isAgg3
  z3 := Try.sizeOf3
  v3 := Try.zeroValue3
  t4 := Try.underlying4
  a4 := Try.isAgg4
  z4 := Try.sizeOf4
  v4 := Try.zeroValue4
  t5 := Try.underlying5
  a5 := Try.isAgg5
  z5 := Try.sizeOf5
  v5 := Try.zeroValue5
  t9 := Try.underlying9
  a9 := Try.isAgg9
  z9 := Try.sizeOf9
  v9 := Try.zeroValue9
  t31 := Try.underlying22
  a31 := Try.isAgg22
  z31 := Try.sizeOf22
  v31 := Try.zeroValue22
  t46 := Try.underlying67
  a46 := Try.isAgg67
  z46 := Try.sizeOf67
  v46 := Try.zeroValue67
  t51 := Try.underlying100
  a51 := Try.isAgg100
  z51 := Try.sizeOf100
  v51 := Try.zeroValue100
  t53 := Try.underlying89
  a53 := Try.isAgg89
  z53 := Try.sizeOf89
  v53 := Try.zeroValue89
  t131 := Try.underlying47
  a131 := Try.isAgg47
  z131 := Try.sizeOf47
  v131 := Try.zeroValue47
  t182 := Try.underlying93
  a182 := Try.isAgg93
  z182 := Try.sizeOf93
  v182 := Try.zeroValue93
  t183 := Try.underlying94
  a183 := Try.isAgg94
  z183 := Try.sizeOf94
  v183 := Try.zeroValue94
  t218 := Try.underlying116
  a218 := Try.isAgg116
  z218 := Try.sizeOf116
  v218 := Try.zeroValue116
  t222 := Try.underlying120
  a222 := Try.isAgg120
  z222 := Try.sizeOf120
  v222 := Try.zeroValue120
  t228 := Try.underlying126
  a228 := Try.isAgg126
  z228 := Try.sizeOf126
  v228 := Try.zeroValue126
  t229 := Try.underlying86
  a229 := Try.isAgg86
  z229 := Try.sizeOf86
  v229 := Try.zeroValue86 }
def slices_Sort_string_string.bl (s : ByteArray) : List UInt8 := s.data.toList
def slices_Sort_string_string.bs (l : List UInt8) : ByteArray := ⟨l.toArray⟩
theorem slices_Sort_string_string.enc (l : List ByteArray) : l.map Value.string = (l.map slices_Sort_string_string.bl).map encStr := by
  rw [List.map_map]
  exact List.map_congr_left fun x _ => by simp [slices_Sort_string_string.bl, encStr]
theorem slices_Sort_string_string.dec (l : List (List UInt8)) : l.map encStr = (l.map slices_Sort_string_string.bs).map Value.string := by
  rw [List.map_map]
  exact List.map_congr_left fun x _ => rfl
def slices_Sort_string_string.f (l0 : List ByteArray) : Option (List ByteArray) := if l0.length ≤ 2000000000000 then some (((l0.map slices_Sort_string_string.bl).mergeSort fun x y => decide (x ≤ y)).map slices_Sort_string_string.bs) else none
theorem slices_Sort_string_string.calls (P0_ : Nat → Prop) (u9000_ : Value) (l0 : List ByteArray) (r : List ByteArray) (w0 w : World) (hB : Below w0.heap.size w0 w) (ho0 : Kd.R Kd.string 9 w w0.heap.size P0_ u9000_ l0) (h : slices_Sort_string_string.f l0 = some r) :
    Calls Try.prog 22 #[u9000_] w fun e w' => e = .returned (.tuple #[]) ∧ Kd.R Kd.string 9 w' w0.heap.size (fun k_ => (P0_ k_ ∨ w.heap.size ≤ k_)) u9000_ r ∧ Below w0.heap.size w0 w' ∧ Kept w w' (fun k_ => P0_ k_) := by
  have hl : l0.length ≤ 2000000000000 := by
    unfold slices_Sort_string_string.f at h
    split at h
    · assumption
    · exact absurd h (by simp)
  obtain rfl : ((l0.map slices_Sort_string_string.bl).mergeSort fun x y => decide (x ≤ y)).map slices_Sort_string_string.bs = r := by
    unfold slices_Sort_string_string.f at h
    rw [if_pos hl] at h
    exact Option.some.inj h
  have hown := Kd.own_of_R ho0
  have hok := ho0.1
  have hlen : ((l0.map slices_Sort_string_string.bl).mergeSort fun x y => decide (x ≤ y)).length = (l0.map slices_Sort_string_string.bl).length := List.length_mergeSort _
  have hlm : (l0.map slices_Sort_string_string.bl).length = l0.length := List.length_map _
  rcases hown.2 with ⟨rfl, hnil⟩ | ⟨g, cap, cur, rfl, hb, hh, hn, hcap, hsz, htk⟩
  · have h0 : l0 = [] := by
      cases l0 with
      | nil => rfl
      | cons x l => simp at hnil
    subst h0
    refine (calls_of_every_depth fun D => AnyS.slices_Sort_string_none_alone Try.laysSortS D none 0 w).mono ?_
    rintro e w' ⟨rfl, rfl⟩
    rw [show ((([] : List ByteArray).map slices_Sort_string_string.bl).mergeSort fun x y => decide (x ≤ y)).map slices_Sort_string_string.bs = [] by simp]
    exact ⟨rfl, Kd.R_mono ho0 (fun k hk => .inl hk), hB, Kept.refl _ _⟩
  · have htk2 : cur.toList.take (l0.map slices_Sort_string_string.bl).length = (l0.map slices_Sort_string_string.bl).map encStr := by
      rw [hlm, ← slices_Sort_string_string.enc]
      simpa [encs] using htk
    have hH := holds_of_block (ss := l0.map slices_Sort_string_string.bl) hh htk2
    have hg : g < w.heap.size := (Array.getElem?_eq_some_iff.1 hh).1
    have hq := Go.Proofs.Any.slices_Sort_string Try.laysSortS g 0 cap (l0.map slices_Sort_string_string.bl) w hH hg (by omega)
    rw [hlm] at hq
    refine hq.mono ?_
    rintro e w' ⟨rfl, n, os, rfl⟩
    have hgr := grownBy_sorted (w := w) (g := g) (n := n) (os := os) ((l0.map slices_Sort_string_string.bl).mergeSort fun x y => decide (x ≤ y)).toArray
    have ho := ownsRow_sorted (n := n) (os := os) (ss := l0.map slices_Sort_string_string.bl) hlen hb hh (by rw [hlm]; exact hn) hcap hsz
    refine ⟨rfl, ?_, pw_below_grown hB (some g) hB.size hgr (fun k hk => by cases hk; exact hb), Kept.of_grown hgr (Kept.refl _ _) (fun k hk => by cases hk; exact .inl (hok g rfl))⟩
    rw [slices_Sort_string_string.dec, hlm] at ho
    refine Kd.R_of_own ?_ (fun k hk => .inl (hok k hk))
    rw [List.length_map, hlen, hlm]
    exact ho
/-! ### slices_Compact_string_string: function 23 (a contract of the session's own) -/
abbrev slices_Compact_string_string.eq (a b : ByteArray) : Prop := a.toList = b.toList
def slices_Compact_string_string.kp (l : List ByteArray) : Nat → List ByteArray
  | 0 => []
  | 1 => l.take 1
  | j + 2 => if slices_Compact_string_string.eq (rdOf ByteArray.empty l ((j + 1 : Nat) : Int)) (rdOf ByteArray.empty l (j : Int)) then slices_Compact_string_string.kp l (j + 1) else slices_Compact_string_string.kp l (j + 1) ++ [rdOf ByteArray.empty l ((j + 1 : Nat) : Int)]
def slices_Compact_string_string.f (l0 : List ByteArray) : Option (List ByteArray) := if l0.length ≤ 2000000000000 then some (slices_Compact_string_string.kp l0 l0.length) else none
theorem slices_Compact_string_string.rd_get (l : List ByteArray) (i : Nat) (h : i < l.length) : rdOf ByteArray.empty l (i : Int) = l[i] := by simp [rdOf, List.getD_eq_getElem?_getD, h]
theorem slices_Compact_string_string.kp_more {l : List ByteArray} {k : Nat} (h1 : 1 ≤ k) (hk : k < l.length) (h : slices_Compact_string_string.kp l k = l.take k) (hne : ¬ slices_Compact_string_string.eq (rdOf ByteArray.empty l (k : Int)) (rdOf ByteArray.empty l ((k : Int) - 1))) : slices_Compact_string_string.kp l (k + 1) = l.take (k + 1) := by
  obtain ⟨j, rfl⟩ : ∃ j, k = j + 1 := ⟨k - 1, by omega⟩
  rw [show (((j + 1 : Nat) : Int) - 1) = (j : Int) by omega] at hne
  simp only [slices_Compact_string_string.kp]
  rw [if_neg hne, h, slices_Compact_string_string.rd_get l (j + 1) hk, List.take_succ_eq_append_getElem hk]
def slices_Compact_string_string.St (l L : List ByteArray) (i q : Nat) : Prop := L.length = l.length ∧ 1 ≤ i ∧ i < q ∧ q ≤ l.length ∧ L.take i = slices_Compact_string_string.kp l q ∧ L.drop (q - 1) = l.drop (q - 1)
theorem slices_Compact_string_string.St.start {l : List ByteArray} {k : Nat} (h1 : 1 ≤ k) (hk : k < l.length) (h : slices_Compact_string_string.kp l k = l.take k) (he : slices_Compact_string_string.eq (rdOf ByteArray.empty l (k : Int)) (rdOf ByteArray.empty l ((k : Int) - 1))) : slices_Compact_string_string.St l l k (k + 1) := by
  refine ⟨rfl, h1, by omega, by omega, ?_, rfl⟩
  obtain ⟨j, rfl⟩ : ∃ j, k = j + 1 := ⟨k - 1, by omega⟩
  rw [show (((j + 1 : Nat) : Int) - 1) = (j : Int) by omega] at he
  simp only [slices_Compact_string_string.kp]
  rw [if_pos he, h]
theorem slices_Compact_string_string.St.at_ {l L : List ByteArray} {i q : Nat} (h : slices_Compact_string_string.St l L i q) (hq : q < l.length) : rdOf ByteArray.empty L (q : Int) = rdOf ByteArray.empty l (q : Int) ∧ rdOf ByteArray.empty L ((q - 1 : Nat) : Int) = rdOf ByteArray.empty l ((q - 1 : Nat) : Int) := by
  obtain ⟨h1, h2, h3, h4, h5, h6⟩ := h
  have e : ∀ m, q - 1 ≤ m → m < l.length → rdOf ByteArray.empty L (m : Int) = rdOf ByteArray.empty l (m : Int) := fun m hm hl => by
    have : (L.drop (q - 1))[m - (q - 1)]? = (l.drop (q - 1))[m - (q - 1)]? := by rw [h6]
    rw [List.getElem?_drop, List.getElem?_drop, show q - 1 + (m - (q - 1)) = m by omega] at this
    simp [rdOf, List.getD_eq_getElem?_getD, this]
  exact ⟨e q (by omega) hq, e (q - 1) (by omega) (by omega)⟩
theorem slices_Compact_string_string.St.skip {l L : List ByteArray} {i q : Nat} (h : slices_Compact_string_string.St l L i q) (hq : q < l.length) (he : slices_Compact_string_string.eq (rdOf ByteArray.empty L (q : Int)) (rdOf ByteArray.empty L ((q - 1 : Nat) : Int))) : slices_Compact_string_string.St l L i (q + 1) := by
  rw [(h.at_ hq).1, (h.at_ hq).2] at he
  obtain ⟨h1, h2, h3, h4, h5, h6⟩ := h
  obtain ⟨j, rfl⟩ : ∃ j, q = j + 1 := ⟨q - 1, by omega⟩
  refine ⟨h1, h2, by omega, by omega, ?_, ?_⟩
  · simp only [slices_Compact_string_string.kp]
    rw [h5]
    exact (if_pos he).symm
  · have := congrArg (fun z => z.drop 1) h6
    simp only [List.drop_drop] at this
    simpa using this
theorem slices_Compact_string_string.St.put {l L : List ByteArray} {i q : Nat} (h : slices_Compact_string_string.St l L i q) (hq : q < l.length) (hne : ¬ slices_Compact_string_string.eq (rdOf ByteArray.empty L (q : Int)) (rdOf ByteArray.empty L ((q - 1 : Nat) : Int))) : slices_Compact_string_string.St l (L.set i (rdOf ByteArray.empty L (q : Int))) (i + 1) (q + 1) := by
  rw [(h.at_ hq).1, (h.at_ hq).2] at hne
  rw [(h.at_ hq).1]
  obtain ⟨h1, h2, h3, h4, h5, h6⟩ := h
  obtain ⟨j, rfl⟩ : ∃ j, q = j + 1 := ⟨q - 1, by omega⟩
  refine ⟨by rw [List.length_set, h1], by omega, by omega, by omega, ?_, ?_⟩
  · have hi : i < (L.set i (rdOf ByteArray.empty l ((j + 1 : Nat) : Int))).length := by rw [List.length_set]; omega
    simp only [slices_Compact_string_string.kp]
    rw [List.take_succ_eq_append_getElem hi, List.getElem_set_self, List.take_set_of_le (Nat.le_refl _), h5]
    exact (if_neg hne).symm
  · rw [List.drop_set_of_lt (by omega)]
    have := congrArg (fun z => z.drop 1) h6
    simp only [List.drop_drop] at this
    simpa using this
theorem slices_Compact_string_string.St.done {l L : List ByteArray} {i q : Nat} (h : slices_Compact_string_string.St l L i q) (hq : ¬ q < l.length) : L.take i = slices_Compact_string_string.kp l l.length := by
  obtain ⟨h1, h2, h3, h4, h5, h6⟩ := h
  rw [h5, show q = l.length by omega]
theorem slices_Compact_string_string.zero : (Try.prog.info? 9).map (fun i => (i.zero, i.size)) = some (some (.string ByteArray.empty), 1) := by kernel_rfl
set_option maxHeartbeats 4000000 in
set_option maxRecDepth 100000 in
theorem slices_Compact_string_string.calls (P0_ : Nat → Prop) (u : Value) (l0 : List ByteArray) (r : List ByteArray) (w0 w : World) (hB : Below w0.heap.size w0 w) (ho0 : Kd.R Kd.string 9 w w0.heap.size P0_ u l0) (h : slices_Compact_string_string.f l0 = some r) :
    Calls Try.prog 23 #[u] w fun e w' => ∃ v0_ : Value, e = .returned v0_ ∧ Kd.R Kd.string 9 w' w0.heap.size (fun k_ => (P0_ k_ ∨ w.heap.size ≤ k_)) v0_ r ∧ Below w0.heap.size w0 w' ∧ Kept w w' (fun k_ => P0_ k_) := by
  have hl : l0.length ≤ 2000000000000 := by
    unfold slices_Compact_string_string.f at h
    split at h
    · assumption
    · exact absurd h (by simp)
  obtain rfl : slices_Compact_string_string.kp l0 l0.length = r := by
    unfold slices_Compact_string_string.f at h
    rw [if_pos hl] at h
    exact Option.some.inj h
  clear h
  have HL := Aside0.mk hl
  have HW := Aside0.mk hB
  have HR := Aside0.mk ho0
  by_cases h2 : l0.length < 2
  · obtain ⟨A, c, rfl, hlc, hC⟩ := Kd.R_reads ho0
    have HK : Aside0 (slices_Compact_string_string.kp l0 l0.length = l0) := ⟨by
      rcases l0 with _ | ⟨x, _ | ⟨y, l⟩⟩
      · rfl
      · rfl
      · exact absurd h2 (by simp only [List.length_cons]; omega)⟩
    have q2 : (l0.length : Int) < 2 := by omega
    clear hlc hC ho0 hB hl
    go_enter Try.func23, Try.ntmps23
    go_wp2
    go_ret
    exact ⟨_, rfl, by rw [HK.out]; exact Kd.R_mono HR.out (fun _ hk => .inl hk), HW.out, Kept.refl _ _⟩
  · obtain ⟨g, cap, he, hbg, hlt, cells, hcells⟩ := Kd.R_form ho0 (by omega)
    subst he
    have A3 := Aside0.mk ((Kd.R_reads' ho0).2.1)
    have AG := Aside0.mk hbg
    have AI := Aside0.mk (show ¬ l0.length < 2 from h2)
    have q2 : ¬ (l0.length : Int) < 2 := by omega
    have q2b : decide ((l0.length : Int) < 2) = false := decide_eq_false q2
    have A4 := Aside0.mk (show slices_Compact_string_string.kp l0 1 = l0.take 1 from rfl)
    have HG := Aside0.mk (HR.out.1 g (by simp [Value.ownBlock]))
    have HO := Aside0.mk (Kd.R_mono (ok' := fun k_ => P0_ k_ ∨ w.heap.size ≤ k_) HR.out (fun _ hk => .inl hk))
    clear ho0 hB hl hlt hcells hbg h2
    go_enter Try.func23, Try.ntmps23
    go_wp2
    go_loopw [3] (fun v3 wr => ∃ (k : Nat) (kk : Int), Aside0 (1 ≤ k ∧ k ≤ l0.length ∧ slices_Compact_string_string.kp l0 k = l0.take k) ∧ Aside0 (kk = (k : Int)) ∧ v3 = .int .i64 kk ∧ Aside0 (Kd.R Kd.string 9 wr w0.heap.size (fun k_ => P0_ k_ ∨ w.heap.size ≤ k_) (.slice (some ⟨g, 0, none⟩) l0.length cap) l0) ∧ Aside0 (Below w0.heap.size w0 wr) ∧ Aside0 (Kept w wr (fun k_ => P0_ k_))) (fun v3 _ => l0.length - (intOf v3).toNat)
    case atStart => exact ⟨1, 1, ⟨by omega, by have := AI.out; omega, A4.out⟩, ⟨rfl⟩, by first | rfl | (simp; done), HO, HW, ⟨Kept.refl _ _⟩⟩
    case round =>
      obtain ⟨k, kk, HS, HKK, rfl, HO2, HB2, HK2⟩ := hrel
      by_cases hlt : kk < (l0.length : Int)
      · have hk0 : (0 : Int) ≤ kk := by have := HKK.out; omega
        have HKI := Aside0.mk (show 1 ≤ k ∧ k < l0.length by have := HKK.out; have := HS.out.1; omega)
        have hj0 : (0 : Int) ≤ kk - 1 := by have := HKK.out; have := HS.out.1; omega
        have hj1 : kk - 1 < (l0.length : Int) := by omega
        have hjw : wrap64 (kk - 1) = kk - 1 := by have := HL.out; unfold wrap64; omega
        have hjv : IntKind.i64.wrap (kk - 1) = kk - 1 := (i64_w _).trans hjw
        have hx := (Kd.R_cell ByteArray.empty HO2.out kk hk0 hlt).1
        have hy := (Kd.R_cell ByteArray.empty HO2.out (kk - 1) hj0 hj1).1
        obtain ⟨x, ex⟩ : ∃ x, x = rdOf ByteArray.empty l0 kk := ⟨_, rfl⟩
        obtain ⟨y, ey⟩ : ∃ y, y = rdOf ByteArray.empty l0 (kk - 1) := ⟨_, rfl⟩
        rw [← ex] at hx
        rw [← ey] at hy
        have hy' := hy
        rw [show (kk - 1).toNat = kk.toNat - 1 by omega] at hy'
        have hk1 : 1 ≤ kk := by omega
        have EX := Aside0.mk (show x = rdOf ByteArray.empty l0 (k : Int) by first | (rw [ex, HKK.out]; rfl) | rw [ex, HKK.out])
        have EY := Aside0.mk (show y = rdOf ByteArray.empty l0 ((k : Int) - 1) by first | (rw [ey, HKK.out]; rfl) | rw [ey, HKK.out])
        clear ex ey
        by_cases e : slices_Compact_string_string.eq x y
        · skip
          have e1 : (x.toList == y.toList) = true := beq_iff_eq.mpr e; have e2 : decide (x.toList = y.toList) = true := decide_eq_true e; have e4 : (x.toList != y.toList) = false := bne_eq_false_iff_eq.mpr e
          have A5 := Aside0.mk (slices_Compact_string_string.St.start HKI.out.1 HKI.out.2 HS.out.2.2 (by rw [← EX.out, ← EY.out]; exact e))
          have hcutS := cut_from (P := Try.prog) 22 9 .i64 Try.underlying22 (info_parts info9).choose_spec.1 1 (info_parts info9).choose_spec.2.2.1 (some ⟨g, 0, none⟩) l0.length cap kk hk0 (Int.le_of_lt hlt)
          rw [if_neg (show ¬ cap = kk.toNat by have := A3.out; omega)] at hcutS
          simp only [Option.map_some, add_plain, Nat.zero_add, Nat.mul_one] at hcutS
          have HD2 := Aside0.mk (Kd.R_drew HO2.out)
          have HB3 := Aside0.mk (show Below w0.heap.size w0 wr.drew by first | exact below_drew1 HB2.out | (apply below_drew1; exact HB2.out))
          have HK3 := Aside0.mk (show Kept w wr.drew (fun k_ => P0_ k_) by first | exact Kept.drew HK2.out | (apply Kept.drew; exact HK2.out))
          have HKL := Aside0.mk hlt
          clear e
          go_wp2
          go_region
          go_wp2
          clear hx hy hy' hcutS hjw hjv hk1 hj0 hj1 e1 e2 EX EY HO2 HB2 HK2 hlt
          go_loopw [3, 5] (fun v3 v5 wr => ∃ (L : List ByteArray) (i q : Nat) (ii jj : Int), Aside0 (slices_Compact_string_string.St l0 L i q) ∧ Aside0 (ii = (i : Int)) ∧ Aside0 (jj = (q : Int) - (k : Int) ∧ k < q) ∧ v3 = .int .i64 ii ∧ v5 = .int .i64 jj ∧ Aside0 (Kd.R Kd.string 9 wr w0.heap.size (fun k_ => P0_ k_ ∨ w.heap.size ≤ k_) (.slice (some ⟨g, 0, none⟩) l0.length cap) L) ∧ Aside0 (Below w0.heap.size w0 wr) ∧ Aside0 (Kept w wr (fun k_ => P0_ k_))) (fun _ v5 _ => l0.length - (intOf v5).toNat)
          case atStart => exact ⟨l0, k, k + 1, kk, 1, A5, HKK, ⟨by omega, by omega⟩, by first | rfl | (simp; done), by first | rfl | (simp; done), HD2, HB3, HK3⟩
          case round =>
            obtain ⟨L, i, q, ii, jj, HS2, HII, HJJ, rfl, rfl, HO4, HB4, HK4⟩ := hrel
            by_cases hlt2 : jj < ((l0.length - kk.toNat : Nat) : Int)
            · have hq := HJJ.out
              have hkk := HKK.out
              have hKI := HKI.out
              have hq0 : (0 : Int) ≤ jj := by omega
              have hq1 : 1 ≤ jj := by omega
              have HQ := Aside0.mk (show q < l0.length by omega)
              have HLn := Aside0.mk HS2.out.1
              have HO5 : Aside0 (Kd.R Kd.string 9 wr w0.heap.size (fun k_ => P0_ k_ ∨ w.heap.size ≤ k_) (.slice (some ⟨g, 0, none⟩) L.length cap) L) := ⟨by rw [HLn.out]; exact HO4.out⟩
              have hx := (Kd.R_cell ByteArray.empty HO5.out (q : Int) (by omega) (by rw [HLn.out]; have := HQ.out; omega)).1
              have hy := (Kd.R_cell ByteArray.empty HO5.out ((q - 1 : Nat) : Int) (by omega) (by rw [HLn.out]; have := HQ.out; omega)).1
              obtain ⟨x, ex⟩ : ∃ x, x = rdOf ByteArray.empty L (q : Int) := ⟨_, rfl⟩
              obtain ⟨y, ey⟩ : ∃ y, y = rdOf ByteArray.empty L ((q - 1 : Nat) : Int) := ⟨_, rfl⟩
              rw [← ex, show ((q : Int)).toNat = kk.toNat + jj.toNat by omega] at hx
              rw [← ey, show (((q - 1 : Nat) : Int)).toNat = kk.toNat + (jj.toNat - 1) by omega] at hy
              have hjb : jj - 1 < ((l0.length - kk.toNat : Nat) : Int) := by omega
              have hja : (0 : Int) ≤ jj - 1 := by omega
              have hjw : wrap64 (jj - 1) = jj - 1 := by have := HL.out; unfold wrap64; omega
              have hjv : IntKind.i64.wrap (jj - 1) = jj - 1 := (i64_w _).trans hjw
              have EX := Aside0.mk (show x = rdOf ByteArray.empty L (q : Int) by first | (rw [ex]; rfl) | rw [ex])
              have EY := Aside0.mk (show y = rdOf ByteArray.empty L ((q - 1 : Nat) : Int) by first | (rw [ey]; rfl) | rw [ey])
              clear ex ey hq hkk hKI
              by_cases e : slices_Compact_string_string.eq x y
              · skip
                have e1 : (x.toList == y.toList) = true := beq_iff_eq.mpr e; have e2 : decide (x.toList = y.toList) = true := decide_eq_true e; have e4 : (x.toList != y.toList) = false := bne_eq_false_iff_eq.mpr e
                have A6 := Aside0.mk (HS2.out.skip HQ.out (by rw [← EX.out, ← EY.out]; exact e))
                clear e
                go_wp2
                go_region
                go_wp2
                go_roundw
                case rel => exact ⟨L, i, q + 1, ii, wrap64 (jj + 1), A6, HII, ⟨by have := HJJ.out; have := HL.out; have := HQ.out; unfold wrap64; omega, by have := HJJ.out; omega⟩, by first | rfl | (simp; done), by first | rfl | (simp; done) | (unfold wrap64; go_num), ⟨by (with_reducible repeat (first | apply Kd.R_drewN | apply Kd.R_drew)); exact HO4.out⟩, ⟨by repeat (first | exact HB4.out | apply pw_below_drewN | apply below_drew1)⟩, ⟨by repeat (first | exact HK4.out | apply Kept.drewN | apply Kept.drew)⟩⟩
                case measure => have := HJJ.out; have := HL.out; have := HQ.out; first | (show l0.length - (wrap64 (jj + 1)).toNat < l0.length - jj.toNat; unfold wrap64; omega) | (simp [intOf]; unfold wrap64; omega)
              · skip
                have e1 : (x.toList == y.toList) = false := beq_eq_false_iff_ne.mpr e; have e2 : decide (x.toList = y.toList) = false := decide_eq_false e; have e4 : (x.toList != y.toList) = true := bne_iff_ne.mpr e
                have A6 := Aside0.mk (HS2.out.put HQ.out (by rw [← EX.out, ← EY.out]; exact e))
                clear e
                have hI0 : (0 : Int) ≤ ii := by have := HII.out; omega
                have hI1 : ii < (l0.length : Int) := by have := HII.out; have := HS2.out.2.2.1; have := HQ.out; omega
                have HII1 := Aside0.mk hI1
                have hc := Kd.R_cell ByteArray.empty HO5.out ii hI0 (by rw [HLn.out]; exact hI1)
                obtain ⟨hc1, hc2⟩ := hc
                generalize rdOf ByteArray.empty L ii = old at hc1
                have hput := Kd.R_put (Kd.R_drew HO5.out) ii x
                rw [HLn.out] at hput
                have HP1 := Aside0.mk hput.1
                have HP2 := Aside0.mk hput.2
                clear hput
                go_wp2
                go_region
                go_wp2
                go_roundw
                case rel => exact ⟨L.set ii.toNat x, i + 1, q + 1, wrap64 (ii + 1), wrap64 (jj + 1), ⟨by rw [HII.out, Int.toNat_natCast, EX.out]; exact A6.out⟩, ⟨by have := HII.out; have := HII1.out; have := HL.out; unfold wrap64; omega⟩, ⟨by have := HJJ.out; have := HL.out; have := HQ.out; unfold wrap64; omega, by have := HJJ.out; omega⟩, by first | rfl | (simp; done) | (unfold wrap64; go_num), by first | rfl | (simp; done) | (unfold wrap64; go_num), HP1, ⟨(below_drew1 HB4.out).grown HP2.out (below_drew1 HB4.out).size (fun k hk => by injection hk with hk; subst hk; exact AG.out)⟩, ⟨Kept.of_grown HP2.out (Kept.drew HK4.out) (fun k hk => by injection hk with hk; subst hk; exact .inl HG.out)⟩⟩
                case measure => have := HJJ.out; have := HL.out; have := HQ.out; first | (show l0.length - (wrap64 (jj + 1)).toNat < l0.length - jj.toNat; unfold wrap64; omega) | (simp [intOf]; unfold wrap64; omega)
            · have HD : Aside0 (L.take ii.toNat = slices_Compact_string_string.kp l0 l0.length) := ⟨by rw [HII.out, Int.toNat_natCast]; exact HS2.out.done (by have := HJJ.out; have := HKK.out; have := HKI.out; omega)⟩
              have hI0 : (0 : Int) ≤ ii := by have := HII.out; omega
              have hI1 : ii < (l0.length : Int) := by have := HII.out; have := HS2.out.2.2.1; have := HS2.out.2.2.2.1; omega
              have hI2 : ii ≤ (l0.length : Int) := Int.le_of_lt hI1
              obtain ⟨i1, hi1, _, hsz1, _⟩ := info_parts info9
              have hcutA := cut_from (P := Try.prog) 22 9 .i64 Try.underlying22 hi1 1 hsz1 (some ⟨g, 0, none⟩) l0.length cap ii hI0 hI2
              have hcutB := cut_to (P := Try.prog) 22 9 .i64 Try.underlying22 hi1 (some ⟨g, 0, none⟩) l0.length cap ii hI0 hI2 A3.out
              rw [if_neg (show ¬ cap = ii.toNat by have := A3.out; omega)] at hcutA
              simp only [Option.map_some, add_plain, Nat.zero_add, Nat.mul_one] at hcutA
              obtain ⟨cur, hh, hcs⟩ := Kd.R_block HO4.out
              have HH := Aside0.mk hh
              have HS5 := Aside0.mk (show ii.toNat + (l0.length - ii.toNat) * 1 ≤ cur.size by rw [hcs, show (Kd.string).sz = 1 from rfl]; have := A3.out; omega)
              have HS6 := Aside0.mk (show ii.toNat + (l0.length - ii.toNat) * 1 ≤ cap * (Kd.string).sz by rw [show (Kd.string).sz = 1 from rfl]; have := A3.out; omega)
              have HS7 := Aside0.mk (show 0 < l0.length - ii.toNat by omega)
              have HS8 := Aside0.mk (show ii.toNat ≤ L.length by rw [HS2.out.1]; omega)
              clear hi1 hsz1 hh hcs
              obtain ⟨vs, hvs, hclr⟩ := run_clear_row (P := Try.prog) (ty := 0) (c := cap - ii.toNat) (q := ii.toNat) (n := l0.length - ii.toNat) (t := 22) (e := 9) Try.underlying22 slices_Compact_string_string.zero rfl (by decide) (by simp [Value.oneCell', Value.cells]) HH.out HS7.out HS5.out
              have HVS := Aside0.mk hvs
              clear hvs
              go_wp2
              go_ret
              have hb := Kd.R_beyond (Kd.R_take HO4.out HS8.out) ii.toNat vs (by rw [show (Kd.string).sz = 1 from rfl]; omega) (by rw [HVS.out]; exact HS6.out)
              refine ⟨_, rfl, ?_, HB4.out.grown hb.2 HB4.out.size (fun k hk => by injection hk with hk; subst hk; exact AG.out), Kept.of_grown hb.2 HK4.out (fun k hk => by injection hk with hk; subst hk; exact .inl HG.out)⟩
              rw [← HD.out]
              exact hb.1
        · skip
          have e1 : (x.toList == y.toList) = false := beq_eq_false_iff_ne.mpr e; have e2 : decide (x.toList = y.toList) = false := decide_eq_false e; have e4 : (x.toList != y.toList) = true := bne_iff_ne.mpr e
          have A5 := Aside0.mk (slices_Compact_string_string.kp_more HKI.out.1 HKI.out.2 HS.out.2.2 (by rw [← EX.out, ← EY.out]; exact e))
          clear e
          go_wp2
          go_region
          go_wp2
          go_roundw
          case rel => exact ⟨k + 1, wrap64 (kk + 1), ⟨by omega, by have := HKI.out; omega, A5.out⟩, ⟨by have := HKK.out; have := HL.out; unfold wrap64; omega⟩, by first | rfl | (simp; done) | (unfold wrap64; go_num), ⟨by (with_reducible repeat (first | apply Kd.R_drewN | apply Kd.R_drew)); exact HO2.out⟩, ⟨by repeat (first | exact HB2.out | apply pw_below_drewN | apply below_drew1)⟩, ⟨by repeat (first | exact HK2.out | apply Kept.drewN | apply Kept.drew)⟩⟩
          case measure => have := HKK.out; have := HL.out; have := HKI.out; first | (show l0.length - (wrap64 (kk + 1)).toNat < l0.length - kk.toNat; unfold wrap64; omega) | (simp [intOf]; unfold wrap64; omega)
      · have HD : Aside0 (slices_Compact_string_string.kp l0 l0.length = l0) := ⟨by
          have h1 := HS.out
          have h3 := HKK.out
          have e : k = l0.length := by omega
          have h4 := h1.2.2
          rw [e, List.take_of_length_le (Nat.le_refl _)] at h4
          exact h4⟩
        go_wp2
        go_ret
        exact ⟨_, rfl, by rw [HD.out]; exact HO2.out, HB2.out, HK2.out⟩
/-! ### cmp_isNaN_string: function 74 -/
def cmp_isNaN_string.f (a0 : ByteArray) : Option (Bool) := some (a0.toList != a0.toList)
set_option maxHeartbeats 8000000 in
set_option maxRecDepth 100000 in
theorem cmp_isNaN_string.calls (a0 : ByteArray) (r : Bool) (w : World) (h : cmp_isNaN_string.f a0 = some r) :
  Calls Try.prog 74 #[.string a0] w fun e w' => e = .returned (.bool r) ∧ Drawn0 w w' := by
 have H : (some (a0.toList != a0.toList)) = some r := h
 clear h
 obtain rfl := Option.some.inj H
 go_enter Try.func74, Try.ntmps74
 go_wp2
 go_ret
 exact ⟨by first | rfl | (unfold wrap64; rfl) | (simp; done) | (simp [*]; done), by repeat (first | exact Drawn0.refl _ | apply Drawn0.step)⟩
/-! ### cmp_Less_string: function 45 -/
def cmp_Less_string.f (a0 : ByteArray) (a1 : ByteArray) : Option (Bool) := (cmp_isNaN_string.f a0).bind fun t102 => (if t102 = true then ((cmp_isNaN_string.f a1).bind fun t103 => (if t103 = true then (some (Op.bytesLess a0.toList a1.toList)) else (some true))) else (some (Op.bytesLess a0.toList a1.toList)))
set_option maxHeartbeats 8000000 in
set_option maxRecDepth 100000 in
theorem cmp_Less_string.calls (a0 : ByteArray) (a1 : ByteArray) (r : Bool) (w : World) (h : cmp_Less_string.f a0 a1 = some r) :
  Calls Try.prog 45 #[.string a0, .string a1] w fun e w' => e = .returned (.bool r) ∧ Drawn0 w w' := by
 have H : ((cmp_isNaN_string.f a0).bind fun t102 => (if t102 = true then ((cmp_isNaN_string.f a1).bind fun t103 => (if t103 = true then (some (Op.bytesLess a0.toList a1.toList)) else (some true))) else (some (Op.bytesLess a0.toList a1.toList)))) = some r := h
 clear h
 replace H := Option.bind_eq_some_iff.mp H
 obtain ⟨t102, A30, H⟩ := H
 replace H : (if t102 = true then ((cmp_isNaN_string.f a1).bind fun t103 => (if t103 = true then (some (Op.bytesLess a0.toList a1.toList)) else (some true))) else (some (Op.bytesLess a0.toList a1.toList))) = some r := H
 have A3 := Aside0.mk A30
 clear A30
 by_cases c4 : t102 = true
 ·subst c4
  have H1 : ((cmp_isNaN_string.f a1).bind fun t103 => (if t103 = true then (some (Op.bytesLess a0.toList a1.toList)) else (some true))) = some r := by rw [if_pos rfl] at H; exact H
  clear H
  have H := H1
  clear H1
  replace H := Option.bind_eq_some_iff.mp H
  obtain ⟨t103, A50, H⟩ := H
  replace H : (if t103 = true then (some (Op.bytesLess a0.toList a1.toList)) else (some true)) = some r := H
  have A5 := Aside0.mk A50
  clear A50
  by_cases c6 : t103 = true
  ·subst c6
   have H1 : (some (Op.bytesLess a0.toList a1.toList)) = some r := by rw [if_pos rfl] at H; exact H
   clear H
   have H := H1
   clear H1
   obtain rfl := Option.some.inj H
   go_enter Try.func45, Try.ntmps45
   go_wp2_with (first | ((with_reducible refine gate_callee (f := 74) rfl ?_); refine goesL_ (some 6) rfl rfl Try.func74 (by kernel_rfl) rfl #[.string a0] rfl (by (try simp only [List.map_toArray, List.map_cons, List.map_nil]); first | done | rfl) ?_; (with_reducible refine (cmp_isNaN_string.calls a0 true _ A3.out).mono ?_); rintro e w' ⟨rfl, ⟨nd, rfl⟩⟩; refine ⟨_, rfl, ?_⟩) | (go_at_call 74; (with_reducible refine (cmp_isNaN_string.calls a1 true _ A5.out).mono ?_); rintro e w' ⟨rfl, ⟨nd, rfl⟩⟩; (try clear A5)))
   go_ret
   exact ⟨by first | rfl | (unfold wrap64; rfl) | (simp; done) | (simp [*]; done), by repeat (first | exact Drawn0.refl _ | apply Drawn0.step)⟩
  ·replace c6 := Bool.eq_false_iff.mpr c6
   subst c6
   have H1 : (some true) = some r := by rw [if_neg (show ¬ (false = true) by decide)] at H; exact H
   clear H
   have H := H1
   clear H1
   obtain rfl := Option.some.inj H
   go_enter Try.func45, Try.ntmps45
   go_wp2_with (first | ((with_reducible refine gate_callee (f := 74) rfl ?_); refine goesL_ (some 6) rfl rfl Try.func74 (by kernel_rfl) rfl #[.string a0] rfl (by (try simp only [List.map_toArray, List.map_cons, List.map_nil]); first | done | rfl) ?_; (with_reducible refine (cmp_isNaN_string.calls a0 true _ A3.out).mono ?_); rintro e w' ⟨rfl, ⟨nd, rfl⟩⟩; refine ⟨_, rfl, ?_⟩) | (go_at_call 74; (with_reducible refine (cmp_isNaN_string.calls a1 false _ A5.out).mono ?_); rintro e w' ⟨rfl, ⟨nd, rfl⟩⟩; (try clear A5)))
   go_ret
   exact ⟨by first | rfl | (unfold wrap64; rfl) | (simp; done) | (simp [*]; done), by repeat (first | exact Drawn0.refl _ | apply Drawn0.step)⟩
 ·replace c4 := Bool.eq_false_iff.mpr c4
  subst c4
  have H1 : (some (Op.bytesLess a0.toList a1.toList)) = some r := by rw [if_neg (show ¬ (false = true) by decide)] at H; exact H
  clear H
  have H := H1
  clear H1
  obtain rfl := Option.some.inj H
  go_enter Try.func45, Try.ntmps45
  go_wp2_with (first | ((with_reducible refine gate_callee (f := 74) rfl ?_); refine goesL_ (some 6) rfl rfl Try.func74 (by kernel_rfl) rfl #[.string a0] rfl (by (try simp only [List.map_toArray, List.map_cons, List.map_nil]); first | done | rfl) ?_; (with_reducible refine (cmp_isNaN_string.calls a0 false _ A3.out).mono ?_); rintro e w' ⟨rfl, ⟨nd, rfl⟩⟩; refine ⟨_, rfl, ?_⟩))
  go_ret
  exact ⟨by first | rfl | (unfold wrap64; rfl) | (simp; done) | (simp [*]; done), by repeat (first | exact Drawn0.refl _ | apply Drawn0.step)⟩
/-! ### slices_isNaN_string: function 46 -/
def slices_isNaN_string.f (a0 : ByteArray) : Option (Bool) := some (a0.toList != a0.toList)
set_option maxHeartbeats 8000000 in
set_option maxRecDepth 100000 in
theorem slices_isNaN_string.calls (a0 : ByteArray) (r : Bool) (w : World) (h : slices_isNaN_string.f a0 = some r) :
  Calls Try.prog 46 #[.string a0] w fun e w' => e = .returned (.bool r) ∧ Drawn0 w w' := by
 have H : (some (a0.toList != a0.toList)) = some r := h
 clear h
 obtain rfl := Option.some.inj H
 go_enter Try.func46, Try.ntmps46
 go_wp2
 go_ret
 exact ⟨by first | rfl | (unfold wrap64; rfl) | (simp; done) | (simp [*]; done), by repeat (first | exact Drawn0.refl _ | apply Drawn0.step)⟩
end Go.Proofs.Ytfohecpfenegkaa.Print
end
section
namespace Go.Proofs.Ytfohecpfenegkaa.Print
open Go.RowKit Go.Proofs.YtfohecpfenegkaaW.PrintWords Go.Proofs.YtfohecpfenegkaaW.PrintLast Go.Proofs.YtfohecpfenegkaaW.PrintMore
attribute [local go_sem] max2_int min2_int max_two min_two max_three min_three max_four min_four   -- for this text's walks alone
set_option linter.unusedVariables false
set_option linter.unusedSimpArgs false
/-! ### slices_BinarySearch_string_string: function 24 -/
def slices_BinarySearch_string_string.l0 : Nat → List ByteArray → ByteArray → Int → Int → Int → Option (Int × Bool)
 | 0, _, _, _, _, _ => none
 | k + 1, x0, x1, x6, x7, x8 => if x7 < x8 then (if 0 ≤ (wrap64 ((IntKind.u64.wrap (wrap64 (x7 + x8))) / 2)) then (if (wrap64 ((IntKind.u64.wrap (wrap64 (x7 + x8))) / 2)) < (x0.length : Int) then ((cmp_Less_string.f (rdOf ByteArray.empty x0 (wrap64 ((IntKind.u64.wrap (wrap64 (x7 + x8))) / 2))) x1).bind fun t105 => (if t105 = true then (slices_BinarySearch_string_string.l0 k x0 x1 x6 (wrap64 ((wrap64 ((IntKind.u64.wrap (wrap64 (x7 + x8))) / 2)) + 1)) x8) else (slices_BinarySearch_string_string.l0 k x0 x1 x6 x7 (wrap64 ((IntKind.u64.wrap (wrap64 (x7 + x8))) / 2))))) else (none)) else (none)) else (if x7 < x6 then (if 0 ≤ x7 then (if x7 < (x0.length : Int) then (if (rdOf ByteArray.empty x0 x7).toList = x1.toList then (some (x7, true)) else ((slices_isNaN_string.f (rdOf ByteArray.empty x0 x7)).bind fun t108 => (if t108 = true then ((slices_isNaN_string.f x1).bind fun t109 => (some (x7, t109))) else (some (x7, false))))) else (none)) else (none)) else (some (x7, false)))
def slices_BinarySearch_string_string.f (k : Nat) (l0 : List ByteArray) (a1 : ByteArray) : Option (Int × Bool) := slices_BinarySearch_string_string.l0 k l0 a1 (l0.length : Int) 0 (l0.length : Int)
theorem slices_BinarySearch_string_string.l0_succ (k : Nat) (x0 : List ByteArray) (x1 : ByteArray) (x6 : Int) (x7 : Int) (x8 : Int) : slices_BinarySearch_string_string.l0 (k + 1) x0 x1 x6 x7 x8 = (if x7 < x8 then (if 0 ≤ (wrap64 ((IntKind.u64.wrap (wrap64 (x7 + x8))) / 2)) then (if (wrap64 ((IntKind.u64.wrap (wrap64 (x7 + x8))) / 2)) < (x0.length : Int) then ((cmp_Less_string.f (rdOf ByteArray.empty x0 (wrap64 ((IntKind.u64.wrap (wrap64 (x7 + x8))) / 2))) x1).bind fun t105 => (if t105 = true then (slices_BinarySearch_string_string.l0 k x0 x1 x6 (wrap64 ((wrap64 ((IntKind.u64.wrap (wrap64 (x7 + x8))) / 2)) + 1)) x8) else (slices_BinarySearch_string_string.l0 k x0 x1 x6 x7 (wrap64 ((IntKind.u64.wrap (wrap64 (x7 + x8))) / 2))))) else (none)) else (none)) else (if x7 < x6 then (if 0 ≤ x7 then (if x7 < (x0.length : Int) then (if (rdOf ByteArray.empty x0 x7).toList = x1.toList then (some (x7, true)) else ((slices_isNaN_string.f (rdOf ByteArray.empty x0 x7)).bind fun t108 => (if t108 = true then ((slices_isNaN_string.f x1).bind fun t109 => (some (x7, t109))) else (some (x7, false))))) else (none)) else (none)) else (some (x7, false)))) := by
 simp only [slices_BinarySearch_string_string.l0]
set_option maxHeartbeats 8000000 in
set_option maxRecDepth 100000 in
theorem slices_BinarySearch_string_string.calls (k : Nat) (A0 : Option Addr) (c0 : Nat) (l0 : List ByteArray) (a1 : ByteArray) (r1 : Int) (r2 : Bool) (w : World) (hr0 : Kd.C Kd.string w A0 l0.length l0) (hc0 : l0.length ≤ c0) (h : slices_BinarySearch_string_string.f k l0 a1 = some (r1, r2)) :
  Calls Try.prog 24 #[.slice A0 l0.length c0, .string a1] w fun e w' => e = .returned (.tuple #[.int .i64 r1, .bool r2]) ∧ Drawn0 w w' := by
 have HR0 := Aside0.mk hr0
 have HC0 := Aside0.mk hc0
 clear hr0 hc0
 have H : (slices_BinarySearch_string_string.l0 k l0 a1 (l0.length : Int) 0 (l0.length : Int)) = some (r1, r2) := h
 clear h
 have H' := Aside0.mk H
 clear H
 go_enter Try.func24, Try.ntmps24
 go_wp2
 go_loopg [7, 8] k (fun kq v7 v8 w' => ∃ (x7_1 : Int) (x8_1 : Int), v7 = .int .i64 x7_1 ∧ v8 = .int .i64 x8_1 ∧ Aside0 (slices_BinarySearch_string_string.l0 kq l0 a1 (l0.length : Int) x7_1 x8_1 = some (r1, r2)) ∧ Aside0 (kq ≤ k) ∧ Drawn0 w w')
 case atStart => exact ⟨(0), ((l0.length : Int)), (by first | rfl | (simp; done) | (simp [*]; done)), (by first | rfl | (simp; done) | (simp [*]; done)), H', ⟨Nat.le_refl _⟩, by repeat (first | exact Drawn0.refl _ | apply Drawn0.step)⟩
 case round =>
  clear H'
  obtain ⟨x7_1, x8_1, rfl, rfl, HA, HK1, ⟨m1, rfl⟩⟩ := hrel
  cases gk with
  | zero => exact absurd HA.out (by simp [slices_BinarySearch_string_string.l0])
  | succ k1 =>
   have H := HA.out
   clear HA
   simp only [slices_BinarySearch_string_string.l0] at H
   by_cases c3 : x7_1 < x8_1
   ·rw [if_pos c3] at H
    have c3b0 : decide (x7_1 < x8_1) = true := decide_eq_true c3
    clear c3
    obtain ⟨ji4, hji4⟩ : ∃ j_ : Int, (wrap64 ((IntKind.u64.wrap (wrap64 (x7_1 + x8_1))) / 2)) = j_ := ⟨_, rfl⟩
    replace H : (if 0 ≤ (ji4) then (if (ji4) < (l0.length : Int) then ((cmp_Less_string.f (rdOf ByteArray.empty l0 (ji4)) a1).bind fun t105 => (if t105 = true then (slices_BinarySearch_string_string.l0 k1 l0 a1 (l0.length : Int) (wrap64 ((ji4) + 1)) x8_1) else (slices_BinarySearch_string_string.l0 k1 l0 a1 (l0.length : Int) x7_1 ji4))) else (none)) else (none)) = some (r1, r2) := by first | (rw [hji4] at H; exact H) | (simp only [hji4] at H ⊢; exact H)
    have hji4w : (IntKind.i64.wrap ((IntKind.u64.wrap (wrap64 (x7_1 + x8_1))) / 2)) = ji4 := (i64_w _).trans hji4
    by_cases c5 : 0 ≤ (ji4)
    ·rw [if_pos c5] at H
     have c5b0 : decide (0 ≤ (ji4)) = true := decide_eq_true c5
     clear c5
     by_cases c6 : (ji4) < (l0.length : Int)
     ·rw [if_pos c6] at H
      have c6b0 : decide ((ji4) < (l0.length : Int)) = true := decide_eq_true c6
      clear c6
      replace H := Option.bind_eq_some_iff.mp H
      obtain ⟨t105, A70, H⟩ := H
      replace H : (if t105 = true then (slices_BinarySearch_string_string.l0 k1 l0 a1 (l0.length : Int) (wrap64 ((ji4) + 1)) x8_1) else (slices_BinarySearch_string_string.l0 k1 l0 a1 (l0.length : Int) x7_1 ji4)) = some (r1, r2) := H
      have A7 := Aside0.mk A70
      clear A70
      by_cases c8 : t105 = true
      ·subst c8
       have H1 : (slices_BinarySearch_string_string.l0 k1 l0 a1 (l0.length : Int) (wrap64 ((ji4) + 1)) x8_1) = some (r1, r2) := by rw [if_pos rfl] at H; exact H
       clear H
       have H := H1
       clear H1
       have H' := Aside0.mk H
       clear H
       have p104 : 0 ≤ ((ji4) : Int) := of_decide_eq_true (by assumption)
       have q104 : (ji4) < (l0.length : Int) := of_decide_eq_true (by assumption)
       obtain ⟨ad104, e104, hx104_0⟩ := Kd.at_string HR0.out (ji4) p104 q104
       cases e104
       replace p104 := eq_true p104
       replace q104 := eq_true q104
       go_wp2_with (first | ((with_reducible refine gate_callee (f := 45) rfl ?_); refine goesL_ (some 27) rfl rfl Try.func45 (by kernel_rfl) rfl #[.string (rdOf ByteArray.empty l0 (ji4)), .string a1] rfl (by (try simp only [List.map_toArray, List.map_cons, List.map_nil]); first | done | (simp only [hji4]; rfl) | rfl | (simp only [List.length_drop, List.length_take]; rfl)) ?_; (with_reducible refine (cmp_Less_string.calls (rdOf ByteArray.empty l0 (ji4)) a1 true _ A7.out).mono ?_); rintro e w' ⟨rfl, ⟨nd, rfl⟩⟩; refine ⟨_, rfl, ?_⟩))
       go_roundg k1
       case measure => have := HK1.out; omega
       case rel => exact ⟨(wrap64 ((ji4) + 1)), (x8_1), (by first | rfl | (simp; done) | (simp only [← hji4] <;> (first | rfl | simp)) | (simp [*]; done)), (by first | rfl | (simp; done) | (simp [*]; done)), (by first | exact H' | (simp only [hji4]; exact H')), ⟨by have := HK1.out; omega⟩, by repeat (first | exact Drawn0.refl _ | apply Drawn0.step)⟩
      ·replace c8 := Bool.eq_false_iff.mpr c8
       subst c8
       have H1 : (slices_BinarySearch_string_string.l0 k1 l0 a1 (l0.length : Int) x7_1 ji4) = some (r1, r2) := by rw [if_neg (show ¬ (false = true) by decide)] at H; exact H
       clear H
       have H := H1
       clear H1
       have H' := Aside0.mk H
       clear H
       have p104 : 0 ≤ ((ji4) : Int) := of_decide_eq_true (by assumption)
       have q104 : (ji4) < (l0.length : Int) := of_decide_eq_true (by assumption)
       obtain ⟨ad104, e104, hx104_0⟩ := Kd.at_string HR0.out (ji4) p104 q104
       cases e104
       replace p104 := eq_true p104
       replace q104 := eq_true q104
       go_wp2_with (first | ((with_reducible refine gate_callee (f := 45) rfl ?_); refine goesL_ (some 27) rfl rfl Try.func45 (by kernel_rfl) rfl #[.string (rdOf ByteArray.empty l0 (ji4)), .string a1] rfl (by (try simp only [List.map_toArray, List.map_cons, List.map_nil]); first | done | (simp only [hji4]; rfl) | rfl | (simp only [List.length_drop, List.length_take]; rfl)) ?_; (with_reducible refine (cmp_Less_string.calls (rdOf ByteArray.empty l0 (ji4)) a1 false _ A7.out).mono ?_); rintro e w' ⟨rfl, ⟨nd, rfl⟩⟩; refine ⟨_, rfl, ?_⟩))
       go_roundg k1
       case measure => have := HK1.out; omega
       case rel => exact ⟨(x7_1), (ji4), (by first | rfl | (simp; done) | (simp [*]; done)), (by first | rfl | (simp; done) | (simp only [← hji4] <;> (first | rfl | simp)) | (simp [*]; done)), (by first | exact H' | (simp only [hji4]; exact H')), ⟨by have := HK1.out; omega⟩, by repeat (first | exact Drawn0.refl _ | apply Drawn0.step)⟩
     ·rw [if_neg c6] at H
      exact absurd H (by simp)
    ·rw [if_neg c5] at H
     exact absurd H (by simp)
   ·rw [if_neg c3] at H
    have c3b0 : decide (x7_1 < x8_1) = false := decide_eq_false c3
    clear c3
    by_cases c9 : x7_1 < (l0.length : Int)
    ·rw [if_pos c9] at H
     have c9b0 : decide (x7_1 < (l0.length : Int)) = true := decide_eq_true c9
     clear c9
     by_cases c10 : 0 ≤ x7_1
     ·rw [if_pos c10] at H
      have c10b0 : decide (0 ≤ x7_1) = true := decide_eq_true c10
      clear c10
      by_cases c11 : x7_1 < (l0.length : Int)
      ·rw [if_pos c11] at H
       have c11b0 : decide (x7_1 < (l0.length : Int)) = true := decide_eq_true c11
       clear c11
       by_cases c12 : (rdOf ByteArray.empty l0 x7_1).toList = a1.toList
       ·rw [if_pos c12] at H
        have c12b0 : ((rdOf ByteArray.empty l0 x7_1).toList == a1.toList) = true := beq_iff_eq.mpr c12
        have c12b1 : ((rdOf ByteArray.empty l0 x7_1).toList != a1.toList) = false := bne_eq_false_iff_eq.mpr c12
        clear c12
        simp only [Option.some.injEq, Prod.mk.injEq] at H
        obtain ⟨rfl, rfl⟩ := H
        have p106 : 0 ≤ (x7_1 : Int) := of_decide_eq_true (by assumption)
        have q106 : x7_1 < (l0.length : Int) := of_decide_eq_true (by assumption)
        obtain ⟨ad106, e106, hx106_0⟩ := Kd.at_string HR0.out x7_1 p106 q106
        cases e106
        replace p106 := eq_true p106
        replace q106 := eq_true q106
        go_wp2
        go_ret2
        exact ⟨by first | rfl | (unfold wrap64; rfl) | (simp; done) | (simp [*]; done), by repeat (first | exact Drawn0.refl _ | apply Drawn0.step)⟩
       ·rw [if_neg c12] at H
        have c12b0 : ((rdOf ByteArray.empty l0 x7_1).toList == a1.toList) = false := beq_eq_false_iff_ne.mpr c12
        have c12b1 : ((rdOf ByteArray.empty l0 x7_1).toList != a1.toList) = true := bne_iff_ne.mpr c12
        replace H := Option.bind_eq_some_iff.mp H
        obtain ⟨t108, A130, H⟩ := H
        replace H : (if t108 = true then ((slices_isNaN_string.f a1).bind fun t109 => (some (x7_1, t109))) else (some (x7_1, false))) = some (r1, r2) := H
        have A13 := Aside0.mk A130
        clear A130
        by_cases c14 : t108 = true
        ·subst c14
         have H1 : ((slices_isNaN_string.f a1).bind fun t109 => (some (x7_1, t109))) = some (r1, r2) := by rw [if_pos rfl] at H; exact H
         clear H
         have H := H1
         clear H1
         replace H := Option.bind_eq_some_iff.mp H
         obtain ⟨t109, A150, H⟩ := H
         replace H : (some (x7_1, t109)) = some (r1, r2) := H
         have A15 := Aside0.mk A150
         clear A150
         simp only [Option.some.injEq, Prod.mk.injEq] at H
         obtain ⟨rfl, rfl⟩ := H
         have p106 : 0 ≤ (x7_1 : Int) := of_decide_eq_true (by assumption)
         have q106 : x7_1 < (l0.length : Int) := of_decide_eq_true (by assumption)
         obtain ⟨ad106, e106, hx106_0⟩ := Kd.at_string HR0.out x7_1 p106 q106
         cases e106
         replace p106 := eq_true p106
         replace q106 := eq_true q106
         have p107 : 0 ≤ (x7_1 : Int) := of_decide_eq_true (by assumption)
         have q107 : x7_1 < (l0.length : Int) := of_decide_eq_true (by assumption)
         obtain ⟨ad107, e107, hx107_0⟩ := Kd.at_string HR0.out x7_1 p107 q107
         obtain rfl : ad106 = ad107 := (by injection e107)
         replace p107 := eq_true p107
         replace q107 := eq_true q107
         go_wp2_with (first | (go_at_call 46; (with_reducible refine (slices_isNaN_string.calls (rdOf ByteArray.empty l0 x7_1) true _ A13.out).mono ?_); rintro e w' ⟨rfl, ⟨nd, rfl⟩⟩; (try clear A13)) | (go_at_call 46; (with_reducible refine (slices_isNaN_string.calls a1 t109 _ A15.out).mono ?_); rintro e w' ⟨rfl, ⟨nd, rfl⟩⟩; (try clear A15)))
         go_ret2
         exact ⟨by first | rfl | (unfold wrap64; rfl) | (simp; done) | (simp [*]; done), by repeat (first | exact Drawn0.refl _ | apply Drawn0.step)⟩
        ·replace c14 := Bool.eq_false_iff.mpr c14
         subst c14
         have H1 : (some (x7_1, false)) = some (r1, r2) := by rw [if_neg (show ¬ (false = true) by decide)] at H; exact H
         clear H
         have H := H1
         clear H1
         simp only [Option.some.injEq, Prod.mk.injEq] at H
         obtain ⟨rfl, rfl⟩ := H
         have p106 : 0 ≤ (x7_1 : Int) := of_decide_eq_true (by assumption)
         have q106 : x7_1 < (l0.length : Int) := of_decide_eq_true (by assumption)
         obtain ⟨ad106, e106, hx106_0⟩ := Kd.at_string HR0.out x7_1 p106 q106
         cases e106
         replace p106 := eq_true p106
         replace q106 := eq_true q106
         have p107 : 0 ≤ (x7_1 : Int) := of_decide_eq_true (by assumption)
         have q107 : x7_1 < (l0.length : Int) := of_decide_eq_true (by assumption)
         obtain ⟨ad107, e107, hx107_0⟩ := Kd.at_string HR0.out x7_1 p107 q107
         obtain rfl : ad106 = ad107 := (by injection e107)
         replace p107 := eq_true p107
         replace q107 := eq_true q107
         go_wp2_with (first | (go_at_call 46; (with_reducible refine (slices_isNaN_string.calls (rdOf ByteArray.empty l0 x7_1) false _ A13.out).mono ?_); rintro e w' ⟨rfl, ⟨nd, rfl⟩⟩; (try clear A13)))
         go_ret2
         exact ⟨by first | rfl | (unfold wrap64; rfl) | (simp; done) | (simp [*]; done), by repeat (first | exact Drawn0.refl _ | apply Drawn0.step)⟩
      ·rw [if_neg c11] at H
       exact absurd H (by simp)
     ·rw [if_neg c10] at H
      exact absurd H (by simp)
    ·rw [if_neg c9] at H
     have c9b0 : decide (x7_1 < (l0.length : Int)) = false := decide_eq_false c9
     clear c9
     simp only [Option.some.injEq, Prod.mk.injEq] at H
     obtain ⟨rfl, rfl⟩ := H
     go_wp2
     go_ret2
     exact ⟨by first | rfl | (unfold wrap64; rfl) | (simp; done) | (simp [*]; done), by repeat (first | exact Drawn0.refl _ | apply Drawn0.step)⟩
/-! ### dict_Of_string: function 8 -/
def dict_Of_string.l0 : Nat → List ByteArray → List Int → List ByteArray → Int → Int → Option (List ByteArray × List Int)
 | 0, _, _, _, _, _ => none
 | k + 1, x4, x5, x16, x17, x18 => if x18 < x17 then (if 0 ≤ x18 then (if x18 < (x16.length : Int) then ((slices_BinarySearch_string_string.f k x4 (rdOf ByteArray.empty x16 x18)).bind fun bt118 => (if x5.length < 17592186044416 then (dict_Of_string.l0 k x4 (x5 ++ [bt118.1]) x16 x17 (wrap64 (x18 + 1))) else (none))) else (none)) else (none)) else (some (x4, x5))
def dict_Of_string.f (k : Nat) (l0 : List ByteArray) : Option (List ByteArray × List Int) := (slices_Clone_string_string.f l0).bind fun t110 => ((slices_Sort_string_string.f t110).bind fun t113 => ((slices_Compact_string_string.f t113).bind fun t114 => (dict_Of_string.l0 k t114 ([] : List Int) l0 (l0.length : Int) 0)))
theorem dict_Of_string.l0_succ (k : Nat) (x4 : List ByteArray) (x5 : List Int) (x16 : List ByteArray) (x17 : Int) (x18 : Int) : dict_Of_string.l0 (k + 1) x4 x5 x16 x17 x18 = (if x18 < x17 then (if 0 ≤ x18 then (if x18 < (x16.length : Int) then ((slices_BinarySearch_string_string.f k x4 (rdOf ByteArray.empty x16 x18)).bind fun bt118 => (if x5.length < 17592186044416 then (dict_Of_string.l0 k x4 (x5 ++ [bt118.1]) x16 x17 (wrap64 (x18 + 1))) else (none))) else (none)) else (none)) else (some (x4, x5))) := by
 simp only [dict_Of_string.l0]
set_option maxHeartbeats 8000000 in
set_option maxRecDepth 100000 in
theorem dict_Of_string.calls (k : Nat) (A0 : Option Addr) (c0 : Nat) (l0 : List ByteArray) (r1 : List ByteArray) (r2 : List Int) (w : World) (hr0 : Kd.C Kd.string w A0 l0.length l0) (hc0 : l0.length ≤ c0) (h : dict_Of_string.f k l0 = some (r1, r2)) :
  Calls Try.prog 8 #[.slice A0 l0.length c0] w fun e w' => ∃ v0_ v1_ : Value, e = .returned (.tuple #[v0_, v1_]) ∧ Kd.R Kd.string 9 w' w.heap.size (fun _ => True) v0_ r1 ∧ Kd.R (Kd.int .i64) 3 w' w.heap.size (fun _ => True) v1_ r2 ∧ Below w.heap.size w w' := by
 have HR0 := Aside0.mk hr0
 have HC0 := Aside0.mk hc0
 clear hr0 hc0
 have HB := Aside0.mk (Below.refl w.heap.size w)
 have H : ((slices_Clone_string_string.f l0).bind fun t110 => ((slices_Sort_string_string.f t110).bind fun t113 => ((slices_Compact_string_string.f t113).bind fun t114 => (dict_Of_string.l0 k t114 ([] : List Int) l0 (l0.length : Int) 0)))) = some (r1, r2) := h
 clear h
 replace H := Option.bind_eq_some_iff.mp H
 obtain ⟨t110, A20, H⟩ := H
 replace H : ((slices_Sort_string_string.f t110).bind fun t113 => ((slices_Compact_string_string.f t113).bind fun t114 => (dict_Of_string.l0 k t114 ([] : List Int) l0 (l0.length : Int) 0))) = some (r1, r2) := H
 have A2 := Aside0.mk A20
 clear A20
 replace H := Option.bind_eq_some_iff.mp H
 obtain ⟨t113, A30, H⟩ := H
 replace H : ((slices_Compact_string_string.f t113).bind fun t114 => (dict_Of_string.l0 k t114 ([] : List Int) l0 (l0.length : Int) 0)) = some (r1, r2) := H
 have A3 := Aside0.mk A30
 clear A30
 replace H := Option.bind_eq_some_iff.mp H
 obtain ⟨t114, A40, H⟩ := H
 replace H : (dict_Of_string.l0 k t114 ([] : List Int) l0 (l0.length : Int) 0) = some (r1, r2) := H
 have A4 := Aside0.mk A40
 clear A40
 have H' := Aside0.mk H
 clear H
 go_enter Try.func8, Try.ntmps8
 go_wp2_with (first | ((with_reducible refine gate_callee (f := 21) rfl ?_); refine goesL_ (some 11) rfl rfl Try.func21 (by kernel_rfl) rfl #[.slice A0 l0.length c0] rfl (by (try simp only [List.map_toArray, List.map_cons, List.map_nil]); first | done | rfl) ?_; (with_reducible refine (slices_Clone_string_string.calls _ _ l0 t110 _ ?side1 ?side2 A2.out).mono ?_); (case side1 => exact cx HR0.out); (case side2 => exact HC0.out); rintro e w5 ⟨v111, rfl, ho0, hb⟩; refine ⟨_, rfl, ?_⟩; have HO112 := Aside0.mk (Kd.R_lower ho0 (below_size (bh HB.out))); replace HB := bsa HB hb; (try clear hb); (try clear ho0); obtain ⟨Ao6, co6, eo6⟩ := Kd.R_slice HO112.out; subst eo6) | ((with_reducible refine gate_callee (f := 22) rfl ?_); refine goesL_ (some 13) rfl rfl Try.func22 (by kernel_rfl) rfl #[.slice Ao6 t110.length co6] rfl (by (try simp only [List.map_toArray, List.map_cons, List.map_nil]); first | done | rfl) ?_; (with_reducible refine (slices_Sort_string_string.calls (fun k_ => some k_ = (.slice Ao6 t110.length co6 : Value).ownBlock) (.slice Ao6 t110.length co6) t110 t113 w _ ?side1 ?side2 A3.out).mono ?_); (case side1 => repeat (first | (with_reducible first | exact HB.out | apply below_alloc | apply pw_below_drewN | apply below_drew1) | exact HB.out)); (case side2 => exact Kd.R_tight rfl HO112.out); rintro e w7 ⟨rfl, hy0, hb, hkp⟩; refine ⟨_, rfl, ?_⟩; replace HO112 := Aside0.mk (Kd.R_reok rfl hy0 (fun k_ e_ => HO112.out.1 k_ e_)); replace HB := Aside0.mk (hb); (try clear hb); (try clear hkp); (try clear hy0)) | ((with_reducible refine gate_callee (f := 23) rfl ?_); refine goesL_ (some 15) rfl rfl Try.func23 (by kernel_rfl) rfl #[.slice Ao6 t110.length co6] rfl (by (try simp only [List.map_toArray, List.map_cons, List.map_nil]); first | done | rfl) ?_; (with_reducible refine (slices_Compact_string_string.calls (fun k_ => some k_ = (.slice Ao6 t110.length co6 : Value).ownBlock) (.slice Ao6 t110.length co6) t113 t114 w _ ?side1 ?side2 A4.out).mono ?_); (case side1 => repeat (first | (with_reducible first | exact HB.out | apply below_alloc | apply pw_below_drewN | apply below_drew1) | exact HB.out)); (case side2 => exact Kd.R_tight rfl HO112.out); rintro e w8 ⟨v115, rfl, ho0, hb, hkp⟩; refine ⟨_, rfl, ?_⟩; have n0_ := Aside0.mk (Kd.R_mono (ok' := fun k_ => True) ho0 (fun k_ hk_ => trivial)); have n1_ := Aside0.mk (hb); clear HB HO112; have HO116 := n0_; have HB := n1_; clear n0_ n1_; (try clear hb); (try clear hkp); (try clear ho0)))
 go_loopg [5, 18] k (fun kq v5 v18 w' => ∃ (x5_1 : List Int) (x18_1 : Int), v18 = .int .i64 x18_1 ∧ Aside0 (dict_Of_string.l0 kq t114 x5_1 l0 (l0.length : Int) x18_1 = some (r1, r2)) ∧ Aside0 (kq ≤ k) ∧ Aside0 (Kd.R Kd.string 9 w' w.heap.size (fun _ => True) v115 t114) ∧ Aside0 (Kd.R (Kd.int .i64) 3 w' w.heap.size (fun _ => True) v5 x5_1) ∧ Aside0 (Below w.heap.size w w'))
 case atStart => exact ⟨(([] : List Int)), (0), (by first | rfl | (simp; done) | (simp [*]; done)), H', ⟨Nat.le_refl _⟩, ⟨by (with_reducible repeat (first | apply Kd.R_alloc | apply Kd.R_drewN | apply Kd.R_drew)); exact HO116.out⟩, ⟨nl⟩, ⟨bh HB.out⟩⟩
 case round =>
  clear H'
  obtain ⟨x5_1, x18_1, rfl, HA, HK1, HO_4, HO_5, HB⟩ := hrel
  cases gk with
  | zero => exact absurd HA.out (by simp [dict_Of_string.l0])
  | succ k1 =>
   have H := HA.out
   clear HA
   simp only [dict_Of_string.l0] at H
   by_cases c9 : x18_1 < (l0.length : Int)
   ·rw [if_pos c9] at H
    have c9b0 : decide (x18_1 < (l0.length : Int)) = true := decide_eq_true c9
    clear c9
    by_cases c10 : 0 ≤ x18_1
    ·rw [if_pos c10] at H
     have c10b0 : decide (0 ≤ x18_1) = true := decide_eq_true c10
     clear c10
     by_cases c11 : x18_1 < (l0.length : Int)
     ·rw [if_pos c11] at H
      have c11b0 : decide (x18_1 < (l0.length : Int)) = true := decide_eq_true c11
      clear c11
      replace H := Option.bind_eq_some_iff.mp H
      obtain ⟨⟨t118, t119⟩, A120, H⟩ := H
      replace H : (if x5_1.length < 17592186044416 then (dict_Of_string.l0 k1 t114 (x5_1 ++ [t118]) l0 (l0.length : Int) (wrap64 (x18_1 + 1))) else (none)) = some (r1, r2) := H
      have A12 := Aside0.mk A120
      clear A120
      by_cases c13 : x5_1.length < 17592186044416
      ·rw [if_pos c13] at H
       have LMc13 := Aside0.mk c13
       clear c13
       obtain ⟨y120, hy120⟩ : ∃ y_ : List Int, y_ = (x5_1 ++ [t118]) := ⟨_, rfl⟩
       replace H : (dict_Of_string.l0 k1 t114 y120 l0 (l0.length : Int) (wrap64 (x18_1 + 1))) = some (r1, r2) := by first | (rw [hy120]; with_reducible exact H) | (have H2_ := (Option.bind_some _ _).symm.trans H; rw [hy120]; with_reducible exact H2_) | (have H2_ := (Option.bind_some _ _).symm.trans H; with_reducible exact H2_) | with_reducible exact H | (rw [hy120]; exact H) | exact H
       have Ny120 := Aside0.mk hy120
       clear hy120
       have H' := Aside0.mk H
       clear H
       have p117 : 0 ≤ (x18_1 : Int) := of_decide_eq_true (by assumption)
       have q117 : x18_1 < (l0.length : Int) := of_decide_eq_true (by assumption)
       obtain ⟨ad117, e117, hx117_0⟩ := Kd.at_string HR0.out x18_1 p117 q117
       cases e117
       replace hx117_0 := (HB.out.cell (World.block_lt_of_cell? w _ hx117_0)).trans hx117_0
       replace p117 := eq_true p117
       replace q117 := eq_true q117
       obtain ⟨Ao14, co14, eo14⟩ := Kd.R_slice HO_4.out
       subst eo14
       go_wp2_with (first | ((with_reducible refine gate_callee (f := 24) rfl ?_); refine goesL_ (some 25) rfl rfl Try.func24 (by kernel_rfl) rfl #[.slice Ao14 t114.length co14, .string (rdOf ByteArray.empty l0 x18_1)] rfl (by (try simp only [List.map_toArray, List.map_cons, List.map_nil]); first | done | rfl) ?_; (with_reducible refine (slices_BinarySearch_string_string.calls k1 _ _ t114 (rdOf ByteArray.empty l0 x18_1) t118 t119 _ ?side1 ?side2 A12.out).mono ?_); (case side1 => exact cx (Kd.R_reads' HO_4.out).2.2); (case side2 => exact (Kd.R_reads' HO_4.out).2.1); rintro e w' ⟨rfl, ⟨nd, rfl⟩⟩; refine ⟨_, rfl, ?_⟩) | ((with_reducible refine gate_builtin (b := .append) (xs := #[.tmp 28, .tmp 30]) rfl ?_); at_builtin; refine Kd.R_append (Kd.int .i64) (w0 := w) w.heap.size rfl (.tmp 28) (.tmp 30) 25 3 (.int .i64 0) 8 rfl Try.underlying25 info3 rfl (by decide) (by omega) u5 x5_1 t118 [.int .i64 t118] (fun _ => True) (fun _ => False) rfl rfl ?aP (fun _ hk => hk.elim) ?aF ?aO ?aB ?aS ?aL ?_; (case aP => exact rfl); (case aB => exact (bh HB.out)); (case aF => exact (fun _ _ => trivial)); (case aO => exact (rx HO_5.out)); (case aS => exact (below_size (bh HB.out))); (case aL => have := LMc13.out; omega); intro v121 w15 ho hb hg hat; rw [← Ny120.out] at ho; have n0_ := Aside0.mk (Kd.R_over' (rx HO_4.out) (Kd.R_typed (rx HO_5.out)) (by decide) hg); have n1_ := Aside0.mk (hb); have n2_ := Aside0.mk (ho); clear HO_4 HB HO_5; have HO_4 := n0_; have HB := n1_; have HO122 := n2_; clear n0_ n1_ n2_; clear ho hb hg hat))
       go_roundg k1
       case measure => have := HK1.out; omega
       case rel => exact ⟨(y120), (wrap64 (x18_1 + 1)), (by first | rfl | (simp; done) | (simp [*]; done)), H', ⟨by have := HK1.out; omega⟩, ⟨by (with_reducible repeat (first | apply Kd.R_alloc | apply Kd.R_drewN | apply Kd.R_drew)); exact HO_4.out⟩, ⟨by (with_reducible repeat (first | apply Kd.R_alloc | apply Kd.R_drewN | apply Kd.R_drew)); exact HO122.out⟩, ⟨bh HB.out⟩⟩
      ·rw [if_neg c13] at H
       exact absurd H (by simp)
     ·rw [if_neg c11] at H
      exact absurd H (by simp)
    ·rw [if_neg c10] at H
     exact absurd H (by simp)
   ·rw [if_neg c9] at H
    have c9b0 : decide (x18_1 < (l0.length : Int)) = false := decide_eq_false c9
    clear c9
    simp only [Option.some.injEq, Prod.mk.injEq] at H
    obtain ⟨rfl, rfl⟩ := H
    go_wp2
    go_ret2
    exact ⟨_, _, er, by (with_reducible repeat (first | apply Kd.R_alloc | apply Kd.R_drewN | apply Kd.R_drew)); exact HO_4.out, by (with_reducible repeat (first | apply Kd.R_alloc | apply Kd.R_drewN | apply Kd.R_drew)); exact HO_5.out, bh HB.out⟩
/-! ### strings_Builder_WriteString: function 53 (a contract of the session's own) -/
def Try.laysWS_ren : Go.Shelf.Ren := ⟨fun | 166 => 53 | 240 => 88 | 276 => 103 | n => n, fun | 70 => 75 | 9 => 9 | 3 => 3 | 75 => 80 | 0 => 0 | 72 => 78 | 37 => 76 | 4 => 4 | 164 => 124 | 80 => 83 | 5 => 5 | 20 => 20 | n => n, fun | n => n⟩
theorem Try.laysWS : Go.Proofs.Lays.n166 Try.prog Try.laysWS_ren := {
  mixed := by kernel_rfl
  f166 := Try.func53.trans (congrArg some (by kernel_rfl))
  f240 := Try.func88.trans (congrArg some (by kernel_rfl))
  f276 := Try.func103.trans (congrArg some (by kernel_rfl))
  t0 := Try.underlying0
  a0 := Try.isAgg0
  z0 := Try.sizeOf0
  v0 := Try.zeroValue0
  t3 := Try.underlying3
  a3 := Try.isAgg3
  z3 := Try.sizeOf3
  v3 := Try.zeroValue3
  t4 := Try.underlying4
  a4 := Try.isAgg4
  z4 := Try.sizeOf4
  v4 := Try.zeroValue4
  t9 := Try.underlying9
  a9 := Try.isAgg9
  z9 := Try.sizeOf9
  v9 := Try.zeroValue9
  t20 := Try.underlying20
  a20 := Try.isAgg20
  z20 := Try.sizeOf20
  v20 := Try.zeroValue20
  t37 := Try.underlying76
  a37 := Try.isAgg76
  z37 := Try.sizeOf76
  v37 := Try.zeroValue76
  t70 := Try.underlying75
  a70 := Try.isAgg75
  z70 := Try.sizeOf75
  v70 := Try.zeroValue75
  t72 := Try.underlying78
  a72 := Try.isAgg78
  z72 := Try.sizeOf78
  v72 := Try.zeroValue78
  t75 := Try.underlying80
  a75 := Try.isAgg80
  z75 := Try.sizeOf80
  v75 := Try.zeroValue80
  t164 := Try.underlying124
  a164 := Try.isAgg124
  z164 := Try.sizeOf124
  v164 := Try.zeroValue124 }
theorem Try.extraWS : Builder.Extra Try.prog Try.laysWS_ren := {
  sizeBuilder := by kernel_rfl
  liesBuilder := by kernel_rfl
  t5 := Try.underlying5
  a5 := Try.isAgg5
  z5 := Try.sizeOf5
  v5 := Try.zeroValue5
  infoByte := by kernel_rfl
  cellsByte := by kernel_rfl
  sizeByte := by kernel_rfl
  neB5 := by decide }
def Bld (B b : Nat) (s : ByteArray) (w : World) : Prop := Lib.IsBuilderF 78 5 B b (Lib.strCells s) w
theorem strCells_app (s x : ByteArray) : Lib.strCells (s ++ x) = Lib.strCells s ++ Lib.strCells x := by simp [Lib.strCells]
theorem Bld.lt {B b : Nat} {s : ByteArray} {X : World} (h : Bld B b s X) : b < X.heap.size := h.elim (fun h => h.lt) (fun h => h.lt)
theorem Bld.fresh {B b : Nat} {w : World} (hB : B ≤ b) (h : w.heap[b]? = some (.cells #[.pointer none, .slice none 0 0] 78 (0, 0))) : Bld B b ByteArray.empty w := .inl ⟨hB, _, h, World.ownsRowF_nil _ _ _ _, by simp [Value.ownBlock]⟩
theorem strings_Builder_WriteString.calls (B b : Nat) (s x : ByteArray) (w : World) (h : Bld B b s w) (hl : s.size + x.size ≤ 140737488355328) (hB : B ≤ w.heap.size) :
    Calls Try.prog 53 #[.pointer (some ⟨b, 0, none⟩), .string x] w fun e w' => e = .returned (.tuple #[.int .i64 x.size, .nilIface]) ∧ Bld B b (s ++ x) w' ∧ Below B w w' ∧ Lib.OthersKept 5 (some b) w w' :=
  (Any.Builder_WriteString_k Try.laysWS Try.extraWS B b (Lib.strCells s) x w h (by rw [Lib.strCells_length]; exact hl) hB).mono fun e w' ⟨h1, h2, h3, h4⟩ => ⟨h1, .inr (by rw [strCells_app]; exact h2), h3, h4⟩
/-! ### strings_Builder_WriteByte: function 63 (a contract of the session's own) -/
def Try.laysWB_ren : Go.Shelf.Ren := ⟨fun | 167 => 63 | 240 => 88 | 276 => 103 | n => n, fun | 70 => 75 | 5 => 5 | 75 => 80 | 0 => 0 | 72 => 78 | 37 => 76 | 4 => 4 | 164 => 124 | 80 => 83 | 9 => 9 | 20 => 20 | n => n, fun | n => n⟩
theorem Try.laysWB : Go.Proofs.Lays.n167 Try.prog Try.laysWB_ren := {
  mixed := by kernel_rfl
  f167 := Try.func63.trans (congrArg some (by kernel_rfl))
  f240 := Try.func88.trans (congrArg some (by kernel_rfl))
  f276 := Try.func103.trans (congrArg some (by kernel_rfl))
  t0 := Try.underlying0
  a0 := Try.isAgg0
  z0 := Try.sizeOf0
  v0 := Try.zeroValue0
  t4 := Try.underlying4
  a4 := Try.isAgg4
  z4 := Try.sizeOf4
  v4 := Try.zeroValue4
  t5 := Try.underlying5
  a5 := Try.isAgg5
  z5 := Try.sizeOf5
  v5 := Try.zeroValue5
  t9 := Try.underlying9
  a9 := Try.isAgg9
  z9 := Try.sizeOf9
  v9 := Try.zeroValue9
  t20 := Try.underlying20
  a20 := Try.isAgg20
  z20 := Try.sizeOf20
  v20 := Try.zeroValue20
  t37 := Try.underlying76
  a37 := Try.isAgg76
  z37 := Try.sizeOf76
  v37 := Try.zeroValue76
  t70 := Try.underlying75
  a70 := Try.isAgg75
  z70 := Try.sizeOf75
  v70 := Try.zeroValue75
  t72 := Try.underlying78
  a72 := Try.isAgg78
  z72 := Try.sizeOf78
  v72 := Try.zeroValue78
  t75 := Try.underlying80
  a75 := Try.isAgg80
  z75 := Try.sizeOf80
  v75 := Try.zeroValue80
  t164 := Try.underlying124
  a164 := Try.isAgg124
  z164 := Try.sizeOf124
  v164 := Try.zeroValue124 }
theorem Try.extraWB : Builder.Extra Try.prog Try.laysWB_ren := {
  sizeBuilder := by kernel_rfl
  liesBuilder := by kernel_rfl
  t5 := Try.underlying5
  a5 := Try.isAgg5
  z5 := Try.sizeOf5
  v5 := Try.zeroValue5
  infoByte := by kernel_rfl
  cellsByte := by kernel_rfl
  sizeByte := by kernel_rfl
  neB5 := by decide }
def byteS (c : Int) : ByteArray := ⟨#[UInt8.ofNat c.toNat]⟩
theorem strCells_byteS {c : Int} (h0 : 0 ≤ c) (h1 : c < 256) : Lib.strCells (byteS c) = [.int .u8 c] := by
  have : ((UInt8.ofNat c.toNat).toNat : Int) = c := by
    rw [UInt8.toNat_ofNat']
    omega
  simp [Lib.strCells, byteS, this]
  try omega
theorem strings_Builder_WriteByte.calls (B b : Nat) (s : ByteArray) (c : Int) (w : World) (h0 : 0 ≤ c) (h1 : c < 256) (h : Bld B b s w) (hl : s.size + 1 ≤ 140737488355328) (hB : B ≤ w.heap.size) :
    Calls Try.prog 63 #[.pointer (some ⟨b, 0, none⟩), .int .u8 c] w fun e w' => e = .returned .nilIface ∧ Bld B b (s ++ byteS c) w' ∧ Below B w w' ∧ Lib.OthersKept 5 (some b) w w' :=
  (Any.Builder_WriteByte_k Try.laysWB Try.extraWB B b (Lib.strCells s) c w h (by rw [Lib.strCells_length]; exact hl) hB).mono fun e w' ⟨h1', h2, h3, h4⟩ => ⟨h1', .inr (by rw [strCells_app, strCells_byteS h0 h1]; exact h2), h3, h4⟩
/-! ### strings_Builder_String: function 54 (a contract of the session's own) -/
def Try.laysST_ren : Go.Shelf.Ren := ⟨fun | 169 => 54 | n => n, fun | 70 => 75 | 9 => 9 | 0 => 0 | 72 => 78 | 37 => 76 | 127 => 109 | 3 => 3 | 5 => 5 | 20 => 20 | n => n, fun | n => n⟩
theorem Try.laysST : Go.Proofs.Lays.n169 Try.prog Try.laysST_ren := {
  mixed := by kernel_rfl
  f169 := Try.func54.trans (congrArg some (by kernel_rfl))
  t0 := Try.underlying0
  a0 := Try.isAgg0
  z0 := Try.sizeOf0
  v0 := Try.zeroValue0
  t3 := Try.underlying3
  a3 := Try.isAgg3
  z3 := Try.sizeOf3
  v3 := Try.zeroValue3
  t9 := Try.underlying9
  a9 := Try.isAgg9
  z9 := Try.sizeOf9
  v9 := Try.zeroValue9
  t37 := Try.underlying76
  a37 := Try.isAgg76
  z37 := Try.sizeOf76
  v37 := Try.zeroValue76
  t70 := Try.underlying75
  a70 := Try.isAgg75
  z70 := Try.sizeOf75
  v70 := Try.zeroValue75
  t72 := Try.underlying78
  a72 := Try.isAgg78
  z72 := Try.sizeOf78
  v72 := Try.zeroValue78
  t127 := Try.underlying109
  a127 := Try.isAgg109
  z127 := Try.sizeOf109
  v127 := Try.zeroValue109 }
theorem Try.extraST : Builder.Extra Try.prog Try.laysST_ren := {
  sizeBuilder := by kernel_rfl
  liesBuilder := by kernel_rfl
  t5 := Try.underlying5
  a5 := Try.isAgg5
  z5 := Try.sizeOf5
  v5 := Try.zeroValue5
  infoByte := by kernel_rfl
  cellsByte := by kernel_rfl
  sizeByte := by kernel_rfl
  neB5 := by decide }
theorem strings_Builder_String.calls (B b : Nat) (s : ByteArray) (w : World) (h : Bld B b s w) (hB : B ≤ w.heap.size) :
    Calls Try.prog 54 #[.pointer (some ⟨b, 0, none⟩)] w fun e w' => e = .returned (.string s) ∧ Below B w w' :=
  (Any.Builder_String_any_k Try.laysST Try.extraST B b s.data.toList w h hB).mono fun e w' ⟨h1, _, h3, _⟩ => ⟨h1, h3⟩
/-! ### plain_PutTexts: function 38 (a contract of the session's own) -/
def plain_PutTexts.l0 : Nat → List ByteArray → ByteArray → Int → Option (ByteArray × Int)
  | 0, _, _, _ => none
  | k + 1, l0, s, i => if i < (l0.length : Int) then (if 0 ≤ i then (if ((rdOf ByteArray.empty l0 i).size : Int) > 32 then some (ByteArray.empty, 1) else (if s.size + (1 + (rdOf ByteArray.empty l0 i).size) ≤ 100000000000000 then plain_PutTexts.l0 k l0 (s ++ byteS ((rdOf ByteArray.empty l0 i).size : Int) ++ (rdOf ByteArray.empty l0 i)) (wrap64 (i + 1)) else none)) else none) else some (s, 0)
def plain_PutTexts.f (k : Nat) (l0 : List ByteArray) : Option (ByteArray × Int) := plain_PutTexts.l0 k l0 ByteArray.empty 0
theorem plain_PutTexts.l0_succ (k : Nat) (l0 : List ByteArray) (s : ByteArray) (i : Int) : plain_PutTexts.l0 (k + 1) l0 s i = (if i < (l0.length : Int) then (if 0 ≤ i then (if ((rdOf ByteArray.empty l0 i).size : Int) > 32 then some (ByteArray.empty, 1) else (if s.size + (1 + (rdOf ByteArray.empty l0 i).size) ≤ 100000000000000 then plain_PutTexts.l0 k l0 (s ++ byteS ((rdOf ByteArray.empty l0 i).size : Int) ++ (rdOf ByteArray.empty l0 i)) (wrap64 (i + 1)) else none)) else none) else some (s, 0)) := by
  simp only [plain_PutTexts.l0]
theorem plain_PutTexts.mono_l : ∀ k, (∀ y0 y1 y2, LeO (plain_PutTexts.l0 k y0 y1 y2) (plain_PutTexts.l0 (k + 1) y0 y1 y2))
  | 0 => fun _ _ _ r h => by simp [plain_PutTexts.l0] at h
  | k + 1 => by
    have ih0 := plain_PutTexts.mono_l k
    intro y0 y1 y2
    unfold plain_PutTexts.l0
    repeat' first
      | (with_reducible exact ih0 _ _ _)
      | (with_reducible exact LeO.refl _)
      | (with_reducible exact LeO.none _)
      | (with_reducible refine LeO.ite ?_ ?_)
      | (with_reducible refine LeO.bind ?_ (fun _ => ?_))
      | exact ih0 _ _ _
theorem plain_PutTexts.mono : ∀ a0 k, LeO (plain_PutTexts.f k a0) (plain_PutTexts.f (k + 1) a0) := by
  intro a0 k
  unfold plain_PutTexts.f
  exact plain_PutTexts.mono_l _ _ _ _
set_option maxHeartbeats 8000000 in
set_option maxRecDepth 100000 in
theorem plain_PutTexts.calls (k : Nat) (A0 : Option Addr) (c0 : Nat) (l0 : List ByteArray) (r1 : ByteArray) (r2 : Int) (w : World) (hr0 : Kd.C Kd.string w A0 l0.length l0) (hc0 : l0.length ≤ c0) (h : plain_PutTexts.f k l0 = some (r1, r2)) :
    Calls Try.prog 38 #[.slice A0 l0.length c0] w fun e w' => e = .returned (.tuple #[.string r1, .int .i64 r2]) ∧ Below w.heap.size w w' := by
  have HR0 := Aside0.mk hr0
  have HC0 := Aside0.mk hc0
  clear hr0 hc0
  have HB := Aside0.mk (Below.refl w.heap.size w)
  have H' := Aside0.mk (show plain_PutTexts.l0 k l0 ByteArray.empty 0 = some (r1, r2) from h)
  clear h
  go_enter Try.func38, Try.ntmps38
  go_wp2_with (first | ((with_reducible refine gate_dst (N := 4) rfl ?_); refine box_event ?hg (N := 4) ?hd (cs := #[.pointer none, .slice none 0 0]) (t := 78) ?hr ?_; (case hd => rfl); (case hg => rfl); (case hr => first | (go_simp; done) | (go_simp; rfl)); intro gb hg w2 hbox hb; have HD := Aside0.mk (Bld.fresh (bz HB.out hg) hbox); replace HB := bsa HB hb; clear hb hbox hg))
  go_loopg [9] k (fun kq v9 w' => ∃ (i : Int) (s : ByteArray), v9 = .int .i64 i ∧ Aside0 (plain_PutTexts.l0 kq l0 s i = some (r1, r2)) ∧ Aside0 (kq ≤ k) ∧ Aside0 (Bld w.heap.size gb s w') ∧ Aside0 (Below w.heap.size w w'))
  case atStart => exact ⟨0, _, (by first | rfl | (simp; done) | (simp [*]; done)), H', ⟨Nat.le_refl _⟩, HD, HB⟩
  case round =>
    clear H' HD HB
    obtain ⟨i, s, rfl, HA, HK1, HD, HB⟩ := hrel
    cases gk with
    | zero => exact absurd HA.out (by simp [plain_PutTexts.l0])
    | succ k1 =>
      have H := HA.out
      clear HA
      rw [plain_PutTexts.l0_succ] at H
      by_cases c3 : i < (l0.length : Int)
      · rw [if_pos c3] at H
        have c3b0 : decide (i < (l0.length : Int)) = true := decide_eq_true c3
        clear c3
        by_cases c4 : 0 ≤ i
        · rw [if_pos c4] at H
          have c4b0 : decide (0 ≤ i) = true := decide_eq_true c4
          clear c4
          have p2 : 0 ≤ (i : Int) := of_decide_eq_true (by assumption)
          have q2 : i < (l0.length : Int) := of_decide_eq_true (by assumption)
          obtain ⟨ad, e2, hx0⟩ := Kd.at_string HR0.out i p2 q2
          cases e2
          replace hx0 := (HB.out.cell (World.block_lt_of_cell? w _ hx0)).trans hx0
          replace p2 := eq_true p2
          replace q2 := eq_true q2
          generalize (rdOf ByteArray.empty l0 i) = z at hx0 H
          by_cases c5 : (z.size : Int) > 32
          · rw [if_pos c5] at H
            have c5b0 : decide (32 < (z.size : Int)) = true := decide_eq_true c5
            have c5b1 : decide ((z.size : Int) > 32) = true := decide_eq_true c5
            have c5b2 : (32 < z.size) = True := eq_true (by omega)
            simp only [Option.some.injEq, Prod.mk.injEq] at H
            obtain ⟨rfl, rfl⟩ := H
            go_wp2
            go_ret2
            exact ⟨rfl, HB.out⟩
          · rw [if_neg c5] at H
            have c5b0 : decide (32 < (z.size : Int)) = false := decide_eq_false c5
            have c5b1 : decide ((z.size : Int) > 32) = false := decide_eq_false c5
            have c5b2 : (32 < z.size) = False := eq_false (by omega)
            have HZ := Aside0.mk (show z.size ≤ 32 by omega)
            by_cases q1 : s.size + (1 + z.size) ≤ 100000000000000
            · rw [if_pos q1] at H
              have LM := Aside0.mk q1
              clear q1
              have H' := Aside0.mk H
              clear H
              go_wp2_with (first | (go_at_call 63; (with_reducible refine (strings_Builder_WriteByte.calls w.heap.size gb _ (z.size : Int) _ (by omega) (by have := HZ.out; omega) HD.out (by have := LM.out; omega) (below_size HB.out)).mono ?_); rintro e w7 ⟨rfl, hd, hb, hk⟩; replace HD := Aside0.mk hd; replace HB := Aside0.mk (HB.out.trans hb); clear hd hb hk) | (go_at_call 53; (with_reducible refine (strings_Builder_WriteString.calls w.heap.size gb _ z _ HD.out (by have := LM.out; have hq_ : (byteS (z.size : Int)).size = 1 := rfl; rw [ByteArray.size_append, hq_]; omega) (below_size HB.out)).mono ?_); rintro e w8 ⟨rfl, hd, hb, hk⟩; replace HD := Aside0.mk hd; replace HB := Aside0.mk (HB.out.trans hb); clear hd hb hk))
              go_roundg k1
              case measure => have := HK1.out; omega
              case rel => exact ⟨wrap64 (i + 1), _, (by first | rfl | (simp; done) | (simp [*]; done)), H', ⟨by have := HK1.out; omega⟩, HD, HB⟩
            · rw [if_neg q1] at H
              exact absurd H (by simp)
        · rw [if_neg c4] at H
          exact absurd H (by simp)
      · rw [if_neg c3] at H
        have c3b0 : decide (i < (l0.length : Int)) = false := decide_eq_false c3
        clear c3
        simp only [Option.some.injEq, Prod.mk.injEq] at H
        obtain ⟨rfl, rfl⟩ := H
        go_wp2_with (first | (go_at_call 54; (with_reducible refine (strings_Builder_String.calls w.heap.size gb _ _ HD.out (below_size HB.out)).mono ?_); rintro e wS ⟨rfl, hb⟩; replace HB := Aside0.mk (HB.out.trans hb); clear hb))
        go_ret2
        exact ⟨rfl, HB.out⟩
/-! ### bits_Width: function 86 -/
def bits_Width.l0 : Nat → Int → Int → Int → Option (Int)
 | 0, _, _, _ => none
 | k + 1, x3, x4, x5 => if x5 > 0 then (if 0 ≤ x5 then (if (shr .u64 x3 x5) > 0 then (bits_Width.l0 k (shr .u64 x3 x5) (wrap64 (x4 + x5)) (wrap64 (Int.tdiv x5 2))) else (bits_Width.l0 k x3 x4 (wrap64 (Int.tdiv x5 2)))) else (none)) else (some (wrap64 (x4 + (wrap64 (x3)))))
def bits_Width.f (k : Nat) (a0 : Int) : Option (Int) := bits_Width.l0 k (IntKind.u64.wrap (a0)) 0 32
theorem bits_Width.mono_l : ∀ k, (∀ y0 y1 y2, LeO (bits_Width.l0 k y0 y1 y2) (bits_Width.l0 (k + 1) y0 y1 y2))
 | 0 => fun _ _ _ r h => by simp [bits_Width.l0] at h
 | k + 1 => by
  have ih0 := bits_Width.mono_l k
  ·intro y0 y1 y2
   unfold bits_Width.l0
   repeat' first
   | (with_reducible exact ih0 _ _ _)
   | (with_reducible exact LeO.refl _)
   | (with_reducible exact LeO.none _)
   | (with_reducible refine LeO.ite ?_ ?_)
   | (with_reducible refine LeO.bind ?_ (fun _ => ?_))
   | exact ih0 _ _ _
   | exact LeO.none _
   | refine LeO.ite ?_ ?_
   | refine LeO.bind ?_ (fun _ => ?_)
theorem bits_Width.mono : ∀ a0 k, LeO (bits_Width.f k a0) (bits_Width.f (k + 1) a0) := by
 intro a0 k
 have ih0 := bits_Width.mono_l k
 unfold bits_Width.f
 repeat' first
   | (with_reducible exact ih0 _ _ _)
   | (with_reducible exact LeO.refl _)
   | (with_reducible exact LeO.none _)
   | (with_reducible refine LeO.ite ?_ ?_)
   | (with_reducible refine LeO.bind ?_ (fun _ => ?_))
   | exact ih0 _ _ _
   | exact LeO.none _
   | refine LeO.ite ?_ ?_
   | refine LeO.bind ?_ (fun _ => ?_)
set_option maxHeartbeats 8000000 in
set_option maxRecDepth 100000 in
theorem bits_Width.calls (k : Nat) (a0 : Int) (r : Int) (w : World) (h : bits_Width.f k a0 = some r) :
  Calls Try.prog 86 #[.int .i64 a0] w fun e w' => e = .returned (.int .i64 r) ∧ Drawn0 w w' := by
 have H : (bits_Width.l0 k (IntKind.u64.wrap (a0)) 0 32) = some r := h
 clear h
 have H' := Aside0.mk H
 clear H
 go_enter Try.func86, Try.ntmps86
 go_wp2
 go_loopg [3, 4, 5] k (fun kq v3 v4 v5 w' => ∃ (x3_1 : Int) (x4_1 : Int) (x5_1 : Int), v3 = .int .u64 x3_1 ∧ v4 = .int .i64 x4_1 ∧ v5 = .int .i64 x5_1 ∧ Aside0 (bits_Width.l0 kq x3_1 x4_1 x5_1 = some r) ∧ Aside0 (kq ≤ k) ∧ Drawn0 w w')
 case atStart => exact ⟨(IntKind.u64.wrap (a0)), (0), (32), (by first | rfl | (simp; done) | (simp [*]; done)), (by first | rfl | (simp; done) | (simp [*]; done)), (by first | rfl | (simp; done) | (simp [*]; done)), H', ⟨Nat.le_refl _⟩, by repeat (first | exact Drawn0.refl _ | apply Drawn0.step)⟩
 case round =>
  clear H'
  obtain ⟨x3_1, x4_1, x5_1, rfl, rfl, rfl, HA, HK1, ⟨m1, rfl⟩⟩ := hrel
  cases gk with
  | zero => exact absurd HA.out (by simp [bits_Width.l0])
  | succ k1 =>
   have H := HA.out
   clear HA
   simp only [bits_Width.l0] at H
   by_cases c2 : x5_1 > 0
   ·rw [if_pos c2] at H
    have c2b0 : decide (0 < x5_1) = true := decide_eq_true c2
    clear c2
    by_cases c3 : 0 ≤ x5_1
    ·rw [if_pos c3] at H
     have c3b0 := eq_true c3
     have c3b1 : decide (0 ≤ x5_1) = true := decide_eq_true c3
     clear c3
     obtain ⟨ji4, hji4⟩ : ∃ j_ : Int, (shr .u64 x3_1 x5_1) = j_ := ⟨_, rfl⟩
     replace H : (if (ji4) > 0 then (bits_Width.l0 k1 ji4 (wrap64 (x4_1 + x5_1)) (wrap64 (Int.tdiv x5_1 2))) else (bits_Width.l0 k1 x3_1 x4_1 (wrap64 (Int.tdiv x5_1 2)))) = some r := by first | (rw [hji4] at H; exact H) | (simp only [hji4] at H ⊢; exact H)
     have hji4_ : (x3_1 / 2 ^ min x5_1.toNat 64) = ji4 := hji4
     have hji4z : x5_1 ≤ 64 → (x3_1 / 2 ^ x5_1.toNat) = ji4 := shr_small hji4
     by_cases c5 : (ji4) > 0
     ·rw [if_pos c5] at H
      have c5b0 : decide (0 < (ji4)) = true := decide_eq_true c5
      clear c5
      have c6b0 := eq_true (of_decide_eq_true (by assumption) : 0 ≤ x5_1)
      have H' := Aside0.mk H
      clear H
      go_wp2
      go_roundg k1
      case measure => have := HK1.out; omega
      case rel => exact ⟨(ji4), (wrap64 (x4_1 + x5_1)), (wrap64 (Int.tdiv x5_1 2)), (by first | rfl | (simp; done) | (simp only [← hji4] <;> (first | rfl | simp)) | (simp [*]; done)), (by first | rfl | (simp; done) | (simp [*]; done)), (by first | rfl | (simp; done) | (simp [*]; done)), (by first | exact H' | (simp only [hji4]; exact H')), ⟨by have := HK1.out; omega⟩, by repeat (first | exact Drawn0.refl _ | apply Drawn0.step)⟩
     ·rw [if_neg c5] at H
      have c5b0 : decide (0 < (ji4)) = false := decide_eq_false c5
      clear c5
      have H' := Aside0.mk H
      clear H
      go_wp2
      go_roundg k1
      case measure => have := HK1.out; omega
      case rel => exact ⟨(x3_1), (x4_1), (wrap64 (Int.tdiv x5_1 2)), (by first | rfl | (simp; done) | (simp [*]; done)), (by first | rfl | (simp; done) | (simp [*]; done)), (by first | rfl | (simp; done) | (simp [*]; done)), (by first | exact H' | (simp only [hji4]; exact H')), ⟨by have := HK1.out; omega⟩, by repeat (first | exact Drawn0.refl _ | apply Drawn0.step)⟩
    ·rw [if_neg c3] at H
     exact absurd H (by simp)
   ·rw [if_neg c2] at H
    have c2b0 : decide (0 < x5_1) = false := decide_eq_false c2
    clear c2
    obtain rfl := Option.some.inj H
    go_wp2
    go_ret
    exact ⟨by first | rfl | (unfold wrap64; rfl) | (simp; done) | (simp [*]; done), by repeat (first | exact Drawn0.refl _ | apply Drawn0.step)⟩
/-! ### pack_Width: function 51 -/
def pack_Width.l0 : Nat → Int → List Int → Int → Int → Option (Int)
 | 0, _, _, _, _ => none
 | k + 1, x3, x6, x7, x8 => if x8 < x7 then (if 0 ≤ x8 then (if x8 < (x6.length : Int) then (pack_Width.l0 k (Go.bits .or .i64 x3 (rd x6 x8)) x6 x7 (wrap64 (x8 + 1))) else (none)) else (none)) else ((bits_Width.f k x3).bind fun t124 => (some t124))
def pack_Width.f (k : Nat) (l0 : List Int) : Option (Int) := pack_Width.l0 k 0 l0 (l0.length : Int) 0
theorem pack_Width.l0_succ (k : Nat) (x3 : Int) (x6 : List Int) (x7 : Int) (x8 : Int) : pack_Width.l0 (k + 1) x3 x6 x7 x8 = (if x8 < x7 then (if 0 ≤ x8 then (if x8 < (x6.length : Int) then (pack_Width.l0 k (Go.bits .or .i64 x3 (rd x6 x8)) x6 x7 (wrap64 (x8 + 1))) else (none)) else (none)) else ((bits_Width.f k x3).bind fun t124 => (some t124))) := by
 simp only [pack_Width.l0]
theorem pack_Width.mono_l : ∀ k, (∀ y0 y1 y2 y3, LeO (pack_Width.l0 k y0 y1 y2 y3) (pack_Width.l0 (k + 1) y0 y1 y2 y3))
 | 0 => fun _ _ _ _ r h => by simp [pack_Width.l0] at h
 | k + 1 => by
  have ih0 := pack_Width.mono_l k
  ·intro y0 y1 y2 y3
   unfold pack_Width.l0
   repeat' first
   | (with_reducible exact ih0 _ _ _ _)
   | (with_reducible exact bits_Width.mono _ _)
   | (with_reducible exact LeO.refl _)
   | (with_reducible exact LeO.none _)
   | (with_reducible refine LeO.ite ?_ ?_)
   | (with_reducible refine LeO.bind ?_ (fun _ => ?_))
   | exact ih0 _ _ _ _
   | exact bits_Width.mono _ _
   | exact LeO.none _
   | refine LeO.ite ?_ ?_
   | refine LeO.bind ?_ (fun _ => ?_)
theorem pack_Width.mono : ∀ a0 k, LeO (pack_Width.f k a0) (pack_Width.f (k + 1) a0) := by
 intro a0 k
 have ih0 := pack_Width.mono_l k
 unfold pack_Width.f
 repeat' first
   | (with_reducible exact ih0 _ _ _ _)
   | (with_reducible exact bits_Width.mono _ _)
   | (with_reducible exact LeO.refl _)
   | (with_reducible exact LeO.none _)
   | (with_reducible refine LeO.ite ?_ ?_)
   | (with_reducible refine LeO.bind ?_ (fun _ => ?_))
   | exact ih0 _ _ _ _
   | exact bits_Width.mono _ _
   | exact LeO.none _
   | refine LeO.ite ?_ ?_
   | refine LeO.bind ?_ (fun _ => ?_)
set_option maxHeartbeats 8000000 in
set_option maxRecDepth 100000 in
theorem pack_Width.calls (k : Nat) (A0 : Option Addr) (c0 : Nat) (l0 : List Int) (r : Int) (w : World) (hr0 : Kd.C (Kd.int .i64) w A0 l0.length l0) (hc0 : l0.length ≤ c0) (h : pack_Width.f k l0 = some r) :
  Calls Try.prog 51 #[.slice A0 l0.length c0] w fun e w' => e = .returned (.int .i64 r) ∧ Drawn0 w w' := by
 have HR0 := Aside0.mk hr0
 have HC0 := Aside0.mk hc0
 clear hr0 hc0
 have H : (pack_Width.l0 k 0 l0 (l0.length : Int) 0) = some r := h
 clear h
 have H' := Aside0.mk H
 clear H
 go_enter Try.func51, Try.ntmps51
 go_wp2
 go_loopg [3, 8] k (fun kq v3 v8 w' => ∃ (x3_1 : Int) (x8_1 : Int), v3 = .int .i64 x3_1 ∧ v8 = .int .i64 x8_1 ∧ Aside0 (pack_Width.l0 kq x3_1 l0 (l0.length : Int) x8_1 = some r) ∧ Aside0 (kq ≤ k) ∧ Drawn0 w w')
 case atStart => exact ⟨(0), (0), (by first | rfl | (simp; done) | (simp [*]; done)), (by first | rfl | (simp; done) | (simp [*]; done)), H', ⟨Nat.le_refl _⟩, by repeat (first | exact Drawn0.refl _ | apply Drawn0.step)⟩
 case round =>
  clear H'
  obtain ⟨x3_1, x8_1, rfl, rfl, HA, HK1, ⟨m1, rfl⟩⟩ := hrel
  cases gk with
  | zero => exact absurd HA.out (by simp [pack_Width.l0])
  | succ k1 =>
   have H := HA.out
   clear HA
   simp only [pack_Width.l0] at H
   by_cases c2 : x8_1 < (l0.length : Int)
   ·rw [if_pos c2] at H
    have c2b0 : decide (x8_1 < (l0.length : Int)) = true := decide_eq_true c2
    clear c2
    by_cases c3 : 0 ≤ x8_1
    ·rw [if_pos c3] at H
     have c3b0 : decide (0 ≤ x8_1) = true := decide_eq_true c3
     clear c3
     by_cases c4 : x8_1 < (l0.length : Int)
     ·rw [if_pos c4] at H
      have c4b0 : decide (x8_1 < (l0.length : Int)) = true := decide_eq_true c4
      clear c4
      have H' := Aside0.mk H
      clear H
      have p123 : 0 ≤ (x8_1 : Int) := of_decide_eq_true (by assumption)
      have q123 : x8_1 < (l0.length : Int) := of_decide_eq_true (by assumption)
      obtain ⟨ad123, e123, hx123_0⟩ := Kd.at_int HR0.out x8_1 p123 q123
      cases e123
      replace p123 := eq_true p123
      replace q123 := eq_true q123
      go_wp2
      go_roundg k1
      case measure => have := HK1.out; omega
      case rel => exact ⟨(Go.bits .or .i64 x3_1 (rd l0 x8_1)), (wrap64 (x8_1 + 1)), (by first | rfl | (simp; done) | (simp [*]; done)), (by first | rfl | (simp; done) | (simp [*]; done)), H', ⟨by have := HK1.out; omega⟩, by repeat (first | exact Drawn0.refl _ | apply Drawn0.step)⟩
     ·rw [if_neg c4] at H
      exact absurd H (by simp)
    ·rw [if_neg c3] at H
     exact absurd H (by simp)
   ·rw [if_neg c2] at H
    have c2b0 : decide (x8_1 < (l0.length : Int)) = false := decide_eq_false c2
    clear c2
    replace H := Option.bind_eq_some_iff.mp H
    obtain ⟨t124, A50, H⟩ := H
    replace H : (some t124) = some r := H
    have A5 := Aside0.mk A50
    clear A50
    obtain rfl := Option.some.inj H
    go_wp2_with (first | ((with_reducible refine gate_callee (f := 86) rfl ?_); refine goesL_ (some 17) rfl rfl Try.func86 (by kernel_rfl) rfl #[.int .i64 x3_1] rfl (by (try simp only [List.map_toArray, List.map_cons, List.map_nil]); first | done | rfl) ?_; (with_reducible refine (bits_Width.calls k1 x3_1 t124 _ A5.out).mono ?_); rintro e w' ⟨rfl, ⟨nd, rfl⟩⟩; refine ⟨_, rfl, ?_⟩))
    go_ret
    exact ⟨by first | rfl | (unfold wrap64; rfl) | (simp; done) | (simp [*]; done), by repeat (first | exact Drawn0.refl _ | apply Drawn0.step)⟩
end Go.Proofs.Ytfohecpfenegkaa.Print
end
section
namespace Go.Proofs.Ytfohecpfenegkaa.Print
open Go.RowKit Go.Proofs.YtfohecpfenegkaaW.PrintWords Go.Proofs.YtfohecpfenegkaaW.PrintLast Go.Proofs.YtfohecpfenegkaaW.PrintMore
attribute [local go_sem] max2_int min2_int max_two min_two max_three min_three max_four min_four   -- for this text's walks alone
set_option linter.unusedVariables false
set_option linter.unusedSimpArgs false
/-! ### pack_Bytes: function 84 -/
def pack_Bytes.f (a0 : Int) (a1 : Int) : Option (Int) := if a0 < 1 then (some 0) else (if a0 > 65536 then (some 0) else (if a1 < 1 then (some 0) else (if a1 > 64 then (some 0) else (some ((wrap64 ((wrap64 (a0 * a1)) + 7)) / 8)))))
set_option maxHeartbeats 8000000 in
set_option maxRecDepth 100000 in
theorem pack_Bytes.calls (a0 : Int) (a1 : Int) (r : Int) (w : World) (h : pack_Bytes.f a0 a1 = some r) :
  Calls Try.prog 84 #[.int .i64 a0, .int .i64 a1] w fun e w' => e = .returned (.int .i64 r) ∧ Drawn0 w w' := by
 have H : (if a0 < 1 then (some 0) else (if a0 > 65536 then (some 0) else (if a1 < 1 then (some 0) else (if a1 > 64 then (some 0) else (some ((wrap64 ((wrap64 (a0 * a1)) + 7)) / 8)))))) = some r := h
 clear h
 by_cases c3 : a0 < 1
 ·rw [if_pos c3] at H
  have c3b0 : decide (a0 < 1) = true := decide_eq_true c3
  clear c3
  obtain rfl := Option.some.inj H
  go_enter Try.func84, Try.ntmps84
  go_wp2
  go_ret
  exact ⟨by first | rfl | (unfold wrap64; rfl) | (simp; done) | (simp [*]; done), by repeat (first | exact Drawn0.refl _ | apply Drawn0.step)⟩
 ·rw [if_neg c3] at H
  have c3b0 : decide (a0 < 1) = false := decide_eq_false c3
  clear c3
  by_cases c4 : a0 > 65536
  ·rw [if_pos c4] at H
   have c4b0 : decide (65536 < a0) = true := decide_eq_true c4
   clear c4
   obtain rfl := Option.some.inj H
   go_enter Try.func84, Try.ntmps84
   go_wp2
   go_ret
   exact ⟨by first | rfl | (unfold wrap64; rfl) | (simp; done) | (simp [*]; done), by repeat (first | exact Drawn0.refl _ | apply Drawn0.step)⟩
  ·rw [if_neg c4] at H
   have c4b0 : decide (65536 < a0) = false := decide_eq_false c4
   clear c4
   by_cases c5 : a1 < 1
   ·rw [if_pos c5] at H
    have c5b0 : decide (a1 < 1) = true := decide_eq_true c5
    clear c5
    obtain rfl := Option.some.inj H
    go_enter Try.func84, Try.ntmps84
    go_wp2
    go_ret
    exact ⟨by first | rfl | (unfold wrap64; rfl) | (simp; done) | (simp [*]; done), by repeat (first | exact Drawn0.refl _ | apply Drawn0.step)⟩
   ·rw [if_neg c5] at H
    have c5b0 : decide (a1 < 1) = false := decide_eq_false c5
    clear c5
    by_cases c6 : a1 > 64
    ·rw [if_pos c6] at H
     have c6b0 : decide (64 < a1) = true := decide_eq_true c6
     clear c6
     obtain rfl := Option.some.inj H
     go_enter Try.func84, Try.ntmps84
     go_wp2
     go_ret
     exact ⟨by first | rfl | (unfold wrap64; rfl) | (simp; done) | (simp [*]; done), by repeat (first | exact Drawn0.refl _ | apply Drawn0.step)⟩
    ·rw [if_neg c6] at H
     have c6b0 : decide (64 < a1) = false := decide_eq_false c6
     clear c6
     obtain rfl := Option.some.inj H
     go_enter Try.func84, Try.ntmps84
     go_wp2
     go_ret
     exact ⟨by first | rfl | (unfold wrap64; rfl) | (simp; done) | (simp [*]; done), by repeat (first | exact Drawn0.refl _ | apply Drawn0.step)⟩
/-! ### bits_Mask: function 85 -/
def bits_Mask.f (a0 : Int) : Option (Int) := if a0 ≤ 0 then (some 0) else (if a0 ≥ 64 then (some (-1)) else (if 0 ≤ a0 then (some (wrap64 (IntKind.u64.wrap ((shl .u64 1 a0) - 1)))) else (none)))
set_option maxHeartbeats 8000000 in
set_option maxRecDepth 100000 in
theorem bits_Mask.calls (a0 : Int) (r : Int) (w : World) (h : bits_Mask.f a0 = some r) :
  Calls Try.prog 85 #[.int .i64 a0] w fun e w' => e = .returned (.int .i64 r) ∧ Drawn0 w w' := by
 have H : (if a0 ≤ 0 then (some 0) else (if a0 ≥ 64 then (some (-1)) else (if 0 ≤ a0 then (some (wrap64 (IntKind.u64.wrap ((shl .u64 1 a0) - 1)))) else (none)))) = some r := h
 clear h
 by_cases c2 : a0 ≤ 0
 ·rw [if_pos c2] at H
  have c2b0 : decide (a0 ≤ 0) = true := decide_eq_true c2
  clear c2
  obtain rfl := Option.some.inj H
  go_enter Try.func85, Try.ntmps85
  go_wp2
  go_ret
  exact ⟨by first | rfl | (unfold wrap64; rfl) | (simp; done) | (simp [*]; done), by repeat (first | exact Drawn0.refl _ | apply Drawn0.step)⟩
 ·rw [if_neg c2] at H
  have c2b0 : decide (a0 ≤ 0) = false := decide_eq_false c2
  clear c2
  by_cases c3 : a0 ≥ 64
  ·rw [if_pos c3] at H
   have c3b0 : decide (64 ≤ a0) = true := decide_eq_true c3
   clear c3
   obtain rfl := Option.some.inj H
   go_enter Try.func85, Try.ntmps85
   go_wp2
   go_ret
   exact ⟨by first | rfl | (unfold wrap64; rfl) | (simp; done) | (simp [*]; done), by repeat (first | exact Drawn0.refl _ | apply Drawn0.step)⟩
  ·rw [if_neg c3] at H
   have c3b0 : decide (64 ≤ a0) = false := decide_eq_false c3
   clear c3
   by_cases c4 : 0 ≤ a0
   ·rw [if_pos c4] at H
    have c4b0 := eq_true c4
    have c4b1 : decide (0 ≤ a0) = true := decide_eq_true c4
    clear c4
    obtain ⟨ji5, hji5⟩ : ∃ j_ : Int, (shl .u64 1 a0) = j_ := ⟨_, rfl⟩
    replace H : (some (wrap64 (IntKind.u64.wrap ((ji5) - 1)))) = some r := by first | (rw [hji5] at H; exact H) | (simp only [hji5] at H ⊢; exact H)
    have hji5_ : (IntKind.u64.wrap (1 * 2 ^ min a0.toNat 64)) = ji5 := hji5
    have hji5z : a0 ≤ 64 → (IntKind.u64.wrap (1 * 2 ^ a0.toNat)) = ji5 := shl_small hji5
    have hji5u : (IntKind.u64.wrap (2 ^ min a0.toNat 64)) = ji5 := by have h_ := hji5_; rw [Int.one_mul] at h_; exact h_
    have hji5v : a0 ≤ 64 → (IntKind.u64.wrap (2 ^ a0.toNat)) = ji5 := fun hle_ => by have h_ := hji5z hle_; rw [Int.one_mul] at h_; exact h_
    obtain rfl := Option.some.inj H
    go_enter Try.func85, Try.ntmps85
    go_wp2
    go_ret
    exact ⟨by first | rfl | (unfold wrap64; rfl) | (simp; done) | (simp only [← hji5] <;> (first | rfl | simp)) | (simp [*]; done), by repeat (first | exact Drawn0.refl _ | apply Drawn0.step)⟩
   ·rw [if_neg c4] at H
    exact absurd H (by simp)
/-! ### pack_Put: function 50 -/
mutual
def pack_Put.j0 : Nat → List Int → Int → Bool → Option (ByteArray × Int)
 | 0, _, _, _ => none
 | k + 1, x0, x1, x30 => if x30 = true then (some ((⟨#[]⟩ : ByteArray), 1)) else ((pack_Bytes.f (x0.length : Int) x1).bind fun t126 => (if 0 ≤ (wrap64 (t126 + 1)) then (if (wrap64 (t126 + 1) : Int).toNat ≤ 281474976710656 then (pack_Put.l0 k x1 (([] : List Int)) 0 0 x0 (x0.length : Int) 0) else (none)) else (none)))
def pack_Put.l0 : Nat → Int → List Int → Int → Int → List Int → Int → Int → Option (ByteArray × Int)
 | 0, _, _, _, _, _, _, _ => none
 | k + 1, x1, x6, x7, x8, x37, x38, x39 => if x39 < x38 then (if 0 ≤ x39 then (if x39 < (x37.length : Int) then (pack_Put.l1 k x1 x6 x7 x8 (IntKind.u64.wrap (rd x37 x39)) x1 x37 x38 x39) else (none)) else (none)) else (if x8 > 0 then (if x6.length < 140737488355328 then (some (strOfNums (x6 ++ [(x7) % 256]), 0)) else (none)) else (some (strOfNums x6, 0)))
def pack_Put.l1 : Nat → Int → List Int → Int → Int → Int → Int → List Int → Int → Int → Option (ByteArray × Int)
 | 0, _, _, _, _, _, _, _, _, _ => none
 | k + 1, x1, x6, x7, x8, x11, x12, x37, x38, x39 => if x12 > 0 then ((bits_Mask.f (mn (wrap64 (8 - x8)) x12)).bind fun t134 => (if 0 ≤ x8 then (if 0 ≤ (mn (wrap64 (8 - x8)) x12) then (if (wrap64 (x8 + (mn (wrap64 (8 - x8)) x12))) = 8 then (if x6.length < 140737488355328 then (pack_Put.l1 k x1 (x6 ++ [(Go.bits .or .u64 x7 (shl .u64 (Go.bits .and .u64 x11 (IntKind.u64.wrap (t134))) x8)) % 256]) 0 0 (shr .u64 x11 (mn (wrap64 (8 - x8)) x12)) (wrap64 (x12 - (mn (wrap64 (8 - x8)) x12))) x37 x38 x39) else (none)) else (pack_Put.l1 k x1 x6 (Go.bits .or .u64 x7 (shl .u64 (Go.bits .and .u64 x11 (IntKind.u64.wrap (t134))) x8)) (wrap64 (x8 + (mn (wrap64 (8 - x8)) x12))) (shr .u64 x11 (mn (wrap64 (8 - x8)) x12)) (wrap64 (x12 - (mn (wrap64 (8 - x8)) x12))) x37 x38 x39)) else (none)) else (none))) else (pack_Put.l0 k x1 x6 x7 x8 x37 x38 (wrap64 (x39 + 1)))
end
def pack_Put.f (k : Nat) (l0 : List Int) (a1 : Int) : Option (ByteArray × Int) := if a1 < 0 then (pack_Put.j0 k l0 a1 true) else (if a1 > 64 then (pack_Put.j0 k l0 a1 true) else (if (l0.length : Int) > 65536 then (pack_Put.j0 k l0 a1 true) else ((pack_Width.f k l0).bind fun t125 => (pack_Put.j0 k l0 a1 (decide (t125 > a1))))))
theorem pack_Put.j0_succ (k : Nat) (x0 : List Int) (x1 : Int) (x30 : Bool) : pack_Put.j0 (k + 1) x0 x1 x30 = (if x30 = true then (some ((⟨#[]⟩ : ByteArray), 1)) else ((pack_Bytes.f (x0.length : Int) x1).bind fun t126 => (if 0 ≤ (wrap64 (t126 + 1)) then (if (wrap64 (t126 + 1) : Int).toNat ≤ 281474976710656 then (pack_Put.l0 k x1 (([] : List Int)) 0 0 x0 (x0.length : Int) 0) else (none)) else (none)))) := by
 simp only [pack_Put.j0]
theorem pack_Put.l0_succ (k : Nat) (x1 : Int) (x6 : List Int) (x7 : Int) (x8 : Int) (x37 : List Int) (x38 : Int) (x39 : Int) : pack_Put.l0 (k + 1) x1 x6 x7 x8 x37 x38 x39 = (if x39 < x38 then (if 0 ≤ x39 then (if x39 < (x37.length : Int) then (pack_Put.l1 k x1 x6 x7 x8 (IntKind.u64.wrap (rd x37 x39)) x1 x37 x38 x39) else (none)) else (none)) else (if x8 > 0 then (if x6.length < 140737488355328 then (some (strOfNums (x6 ++ [(x7) % 256]), 0)) else (none)) else (some (strOfNums x6, 0)))) := by
 simp only [pack_Put.l0]
theorem pack_Put.l1_succ (k : Nat) (x1 : Int) (x6 : List Int) (x7 : Int) (x8 : Int) (x11 : Int) (x12 : Int) (x37 : List Int) (x38 : Int) (x39 : Int) : pack_Put.l1 (k + 1) x1 x6 x7 x8 x11 x12 x37 x38 x39 = (if x12 > 0 then ((bits_Mask.f (mn (wrap64 (8 - x8)) x12)).bind fun t134 => (if 0 ≤ x8 then (if 0 ≤ (mn (wrap64 (8 - x8)) x12) then (if (wrap64 (x8 + (mn (wrap64 (8 - x8)) x12))) = 8 then (if x6.length < 140737488355328 then (pack_Put.l1 k x1 (x6 ++ [(Go.bits .or .u64 x7 (shl .u64 (Go.bits .and .u64 x11 (IntKind.u64.wrap (t134))) x8)) % 256]) 0 0 (shr .u64 x11 (mn (wrap64 (8 - x8)) x12)) (wrap64 (x12 - (mn (wrap64 (8 - x8)) x12))) x37 x38 x39) else (none)) else (pack_Put.l1 k x1 x6 (Go.bits .or .u64 x7 (shl .u64 (Go.bits .and .u64 x11 (IntKind.u64.wrap (t134))) x8)) (wrap64 (x8 + (mn (wrap64 (8 - x8)) x12))) (shr .u64 x11 (mn (wrap64 (8 - x8)) x12)) (wrap64 (x12 - (mn (wrap64 (8 - x8)) x12))) x37 x38 x39)) else (none)) else (none))) else (pack_Put.l0 k x1 x6 x7 x8 x37 x38 (wrap64 (x39 + 1)))) := by
 simp only [pack_Put.l1]
theorem pack_Put.mono_l : ∀ k, (∀ y0 y1 y2, LeO (pack_Put.j0 k y0 y1 y2) (pack_Put.j0 (k + 1) y0 y1 y2)) ∧ (∀ y0 y1 y2 y3 y4 y5 y6, LeO (pack_Put.l0 k y0 y1 y2 y3 y4 y5 y6) (pack_Put.l0 (k + 1) y0 y1 y2 y3 y4 y5 y6)) ∧ (∀ y0 y1 y2 y3 y4 y5 y6 y7 y8, LeO (pack_Put.l1 k y0 y1 y2 y3 y4 y5 y6 y7 y8) (pack_Put.l1 (k + 1) y0 y1 y2 y3 y4 y5 y6 y7 y8))
 | 0 => ⟨fun _ _ _ r h => by simp [pack_Put.j0] at h, fun _ _ _ _ _ _ _ r h => by simp [pack_Put.l0] at h, fun _ _ _ _ _ _ _ _ _ r h => by simp [pack_Put.l1] at h⟩
 | k + 1 => by
  obtain ⟨ih0, ih1, ih2⟩ := pack_Put.mono_l k
  refine ⟨?_, ?_, ?_⟩
  ·intro y0 y1 y2
   unfold pack_Put.j0
   repeat' first
   | (with_reducible exact ih0 _ _ _)
   | (with_reducible exact ih1 _ _ _ _ _ _ _)
   | (with_reducible exact ih2 _ _ _ _ _ _ _ _ _)
   | (with_reducible exact pack_Width.mono _ _)
   | (with_reducible exact LeO.refl _)
   | (with_reducible exact LeO.none _)
   | (with_reducible refine LeO.ite ?_ ?_)
   | (with_reducible refine LeO.bind ?_ (fun _ => ?_))
   | exact ih0 _ _ _
   | exact ih1 _ _ _ _ _ _ _
   | exact ih2 _ _ _ _ _ _ _ _ _
   | exact pack_Width.mono _ _
   | exact LeO.none _
   | refine LeO.ite ?_ ?_
   | refine LeO.bind ?_ (fun _ => ?_)
  ·intro y0 y1 y2 y3 y4 y5 y6
   unfold pack_Put.l0
   repeat' first
   | (with_reducible exact ih0 _ _ _)
   | (with_reducible exact ih1 _ _ _ _ _ _ _)
   | (with_reducible exact ih2 _ _ _ _ _ _ _ _ _)
   | (with_reducible exact pack_Width.mono _ _)
   | (with_reducible exact LeO.refl _)
   | (with_reducible exact LeO.none _)
   | (with_reducible refine LeO.ite ?_ ?_)
   | (with_reducible refine LeO.bind ?_ (fun _ => ?_))
   | exact ih0 _ _ _
   | exact ih1 _ _ _ _ _ _ _
   | exact ih2 _ _ _ _ _ _ _ _ _
   | exact pack_Width.mono _ _
   | exact LeO.none _
   | refine LeO.ite ?_ ?_
   | refine LeO.bind ?_ (fun _ => ?_)
  ·intro y0 y1 y2 y3 y4 y5 y6 y7 y8
   unfold pack_Put.l1
   repeat' first
   | (with_reducible exact ih0 _ _ _)
   | (with_reducible exact ih1 _ _ _ _ _ _ _)
   | (with_reducible exact ih2 _ _ _ _ _ _ _ _ _)
   | (with_reducible exact pack_Width.mono _ _)
   | (with_reducible exact LeO.refl _)
   | (with_reducible exact LeO.none _)
   | (with_reducible refine LeO.ite ?_ ?_)
   | (with_reducible refine LeO.bind ?_ (fun _ => ?_))
   | exact ih0 _ _ _
   | exact ih1 _ _ _ _ _ _ _
   | exact ih2 _ _ _ _ _ _ _ _ _
   | exact pack_Width.mono _ _
   | exact LeO.none _
   | refine LeO.ite ?_ ?_
   | refine LeO.bind ?_ (fun _ => ?_)
theorem pack_Put.mono : ∀ a0 a1 k, LeO (pack_Put.f k a0 a1) (pack_Put.f (k + 1) a0 a1) := by
 intro a0 a1 k
 obtain ⟨ih0, ih1, ih2⟩ := pack_Put.mono_l k
 unfold pack_Put.f
 repeat' first
   | (with_reducible exact ih0 _ _ _)
   | (with_reducible exact ih1 _ _ _ _ _ _ _)
   | (with_reducible exact ih2 _ _ _ _ _ _ _ _ _)
   | (with_reducible exact pack_Width.mono _ _)
   | (with_reducible exact LeO.refl _)
   | (with_reducible exact LeO.none _)
   | (with_reducible refine LeO.ite ?_ ?_)
   | (with_reducible refine LeO.bind ?_ (fun _ => ?_))
   | exact ih0 _ _ _
   | exact ih1 _ _ _ _ _ _ _
   | exact ih2 _ _ _ _ _ _ _ _ _
   | exact pack_Width.mono _ _
   | exact LeO.none _
   | refine LeO.ite ?_ ?_
   | refine LeO.bind ?_ (fun _ => ?_)
set_option maxHeartbeats 8000000 in
set_option maxRecDepth 100000 in
theorem pack_Put.calls (k : Nat) (A0 : Option Addr) (c0 : Nat) (l0 : List Int) (a1 : Int) (r1 : ByteArray) (r2 : Int) (w : World) (hr0 : Kd.C (Kd.int .i64) w A0 l0.length l0) (hc0 : l0.length ≤ c0) (h : pack_Put.f k l0 a1 = some (r1, r2)) :
  Calls Try.prog 50 #[.slice A0 l0.length c0, .int .i64 a1] w fun e w' => e = .returned (.tuple #[.string r1, .int .i64 r2]) ∧ Below w.heap.size w w' := by
 have HR0 := Aside0.mk hr0
 have HC0 := Aside0.mk hc0
 clear hr0 hc0
 have HB := Aside0.mk (Below.refl w.heap.size w)
 have H : (if a1 < 0 then (pack_Put.j0 k l0 a1 true) else (if a1 > 64 then (pack_Put.j0 k l0 a1 true) else (if (l0.length : Int) > 65536 then (pack_Put.j0 k l0 a1 true) else ((pack_Width.f k l0).bind fun t125 => (pack_Put.j0 k l0 a1 (decide (t125 > a1))))))) = some (r1, r2) := h
 clear h
 have HC3 := Aside0.mk H
 clear H
 go_enter Try.func50, Try.ntmps50
 go_upto_region 1 with (fail)
 go_cut [30] (fun v30 wc => ∃ (kq : Nat) (x30_2 : Bool), v30 = .bool x30_2 ∧ Aside0 (pack_Put.j0 kq l0 a1 x30_2 = some (r1, r2)) ∧ Aside0 (kq ≤ k) ∧ Aside0 (Below w.heap.size w wc))
 case first =>
  have H := HC3.out
  clear HC3
  by_cases c4 : a1 < 0
  ·rw [if_pos c4] at H
   have c4b0 : decide (a1 < 0) = true := decide_eq_true c4
   clear c4
   (first | rw [c4b0] | (simp only [i64_w, i32_w]; rw [c4b0]) | rw [c4b1] | skip)
   have H' := Aside0.mk H
   clear H
   go_wp2
   go_meet
   case rel => exact ⟨_, (true), (by first | rfl | (simp; done) | (simp [*]; done)), H', ⟨by first | omega | exact Nat.le_refl _⟩, ⟨bh HB.out⟩⟩
  ·rw [if_neg c4] at H
   have c4b0 : decide (a1 < 0) = false := decide_eq_false c4
   clear c4
   (first | rw [c4b0] | (simp only [i64_w, i32_w]; rw [c4b0]) | rw [c4b1] | skip)
   by_cases c5 : a1 > 64
   ·rw [if_pos c5] at H
    have c5b0 : decide (64 < a1) = true := decide_eq_true c5
    clear c5
    have H' := Aside0.mk H
    clear H
    go_wp2
    go_meet
    case rel => exact ⟨_, (true), (by first | rfl | (simp; done) | (simp [*]; done)), H', ⟨by first | omega | exact Nat.le_refl _⟩, ⟨bh HB.out⟩⟩
   ·rw [if_neg c5] at H
    have c5b0 : decide (64 < a1) = false := decide_eq_false c5
    clear c5
    by_cases c6 : (l0.length : Int) > 65536
    ·rw [if_pos c6] at H
     have c6b0 : decide (65536 < (l0.length : Int)) = true := decide_eq_true c6
     have c6b1 : decide (65536 < l0.length) = true := decide_eq_true (by omega)
     clear c6
     have H' := Aside0.mk H
     clear H
     go_wp2
     go_meet
     case rel => exact ⟨_, (true), (by first | rfl | (simp; done) | (simp [*]; done)), H', ⟨by first | omega | exact Nat.le_refl _⟩, ⟨bh HB.out⟩⟩
    ·rw [if_neg c6] at H
     have c6b0 : decide (65536 < (l0.length : Int)) = false := decide_eq_false c6
     have c6b1 : decide (65536 < l0.length) = false := decide_eq_false (by omega)
     clear c6
     replace H := Option.bind_eq_some_iff.mp H
     obtain ⟨t125, A70, H⟩ := H
     replace H : (pack_Put.j0 k l0 a1 (decide (t125 > a1))) = some (r1, r2) := H
     have A7 := Aside0.mk A70
     clear A70
     have H' := Aside0.mk H
     clear H
     go_wp2_with (first | (go_at_call 51; (with_reducible refine (pack_Width.calls k _ _ l0 t125 _ ?side1 ?side2 A7.out).mono ?_); (case side1 => exact cx (Kd.C_below HR0.out HB.out)); (case side2 => exact HC0.out); rintro e w' ⟨rfl, ⟨nd, rfl⟩⟩; (try clear A7)))
     go_meet
     case rel => exact ⟨_, (decide (t125 > a1)), (by first | rfl | (simp; done) | (simp [*]; done)), H', ⟨by first | omega | exact Nat.le_refl _⟩, ⟨bh HB.out⟩⟩
 case rest =>
  clear HC3
  try clear c4
  try clear c4b0
  try clear c5
  try clear c5b0
  try clear c6
  try clear c6b0
  try clear c6b1
  obtain ⟨kq, x30_2, rfl, HA, HJ2, HB⟩ := hcut
  cases kq with
  | zero => exact absurd HA.out (by simp [pack_Put.j0])
  | succ kj2 =>
   have H := HA.out
   clear HA
   simp only [pack_Put.j0] at H
   by_cases c8 : x30_2 = true
   ·subst c8
    have H1 : (some ((⟨#[]⟩ : ByteArray), 1)) = some (r1, r2) := by rw [if_pos rfl] at H; exact H
    clear H
    have H := H1
    clear H1
    simp only [Option.some.injEq, Prod.mk.injEq] at H
    obtain ⟨rfl, rfl⟩ := H
    go_wp2
    go_ret2
    exact ⟨er, bh HB.out⟩
   ·replace c8 := Bool.eq_false_iff.mpr c8
    subst c8
    have H1 : ((pack_Bytes.f (l0.length : Int) a1).bind fun t126 => (if 0 ≤ (wrap64 (t126 + 1)) then (if (wrap64 (t126 + 1) : Int).toNat ≤ 281474976710656 then (pack_Put.l0 kj2 a1 (([] : List Int)) 0 0 l0 (l0.length : Int) 0) else (none)) else (none))) = some (r1, r2) := by rw [if_neg (show ¬ (false = true) by decide)] at H; exact H
    clear H
    have H := H1
    clear H1
    replace H := Option.bind_eq_some_iff.mp H
    obtain ⟨t126, A90, H⟩ := H
    replace H : (if 0 ≤ (wrap64 (t126 + 1)) then (if (wrap64 (t126 + 1) : Int).toNat ≤ 281474976710656 then (pack_Put.l0 kj2 a1 (([] : List Int)) 0 0 l0 (l0.length : Int) 0) else (none)) else (none)) = some (r1, r2) := H
    have A9 := Aside0.mk A90
    clear A90
    obtain ⟨ji10, hji10⟩ : ∃ j_ : Int, (wrap64 (t126 + 1)) = j_ := ⟨_, rfl⟩
    replace H : (if 0 ≤ (ji10) then (if (ji10 : Int).toNat ≤ 281474976710656 then (pack_Put.l0 kj2 a1 (([] : List Int)) 0 0 l0 (l0.length : Int) 0) else (none)) else (none)) = some (r1, r2) := by first | (rw [hji10] at H; exact H) | (simp only [hji10] at H ⊢; exact H)
    (try rw [hji10] at A9)
    have hji10w : (IntKind.i64.wrap (t126 + 1)) = ji10 := (i64_w _).trans hji10
    by_cases c11 : 0 ≤ (ji10)
    ·rw [if_pos c11] at H
     have c11b0 := eq_true c11
     have c11b1 : decide (0 ≤ (ji10)) = true := decide_eq_true c11
     clear c11
     by_cases c12 : (ji10 : Int).toNat ≤ 281474976710656
     ·rw [if_pos c12] at H
      have c12b0 := eq_true c12
      have c12b1 : decide ((ji10 : Int).toNat ≤ 281474976710656) = true := decide_eq_true c12
      clear c12
      obtain ⟨y127, hy127⟩ : ∃ y_ : List Int, y_ = (([] : List Int)) := ⟨_, rfl⟩
      replace H : (pack_Put.l0 kj2 a1 y127 0 0 l0 (l0.length : Int) 0) = some (r1, r2) := by first | (rw [hy127]; with_reducible exact H) | (have H2_ := (Option.bind_some _ _).symm.trans H; rw [hy127]; with_reducible exact H2_) | (have H2_ := (Option.bind_some _ _).symm.trans H; with_reducible exact H2_) | with_reducible exact H | (rw [hy127]; exact H) | exact H
      have Ny127 := Aside0.mk hy127
      clear hy127
      have H' := Aside0.mk H
      clear H
      go_wp2_with (first | ((with_reducible refine gate_callee (f := 84) rfl ?_); refine goesL_ (some 34) rfl rfl Try.func84 (by kernel_rfl) rfl #[.int .i64 (l0.length : Int), .int .i64 a1] rfl (by (try simp only [List.map_toArray, List.map_cons, List.map_nil]); first | done | rfl) ?_; (with_reducible refine (pack_Bytes.calls (l0.length : Int) a1 t126 _ A9.out).mono ?_); rintro e w' ⟨rfl, ⟨nd, rfl⟩⟩; refine ⟨_, rfl, ?_⟩) | ((with_reducible refine gate_dst (N := 36) rfl ?_); (try (refine gate_guard (by rfl) ?_; dsimp only)); refine Kd.R_make0 (Kd.int .u8) _ 5 rfl (N := 36) rfl 76 _ _ rfl ji10 (by first | rfl | exact congrArg (Value.int .i64) hji10_ | (refine congrArg (Value.int .i64) ?_; have hq_ := hji10_; split at hq_ <;> split <;> omega)) (by first | rfl | exact congrArg (Value.int .i64) hji10_ | (refine congrArg (Value.int .i64) ?_; have hq_ := hji10_; split at hq_ <;> split <;> omega)) Try.underlying76 (.int .u8 0) 1 info5 rfl (by decide) (by omega) 0 (ok := fun _ => True) (okp := fun _ => True) rfl (fun _ hk => hk) trivial (of_decide_eq_true (by assumption)) (Nat.le_trans (Nat.mul_le_mul_right _ (of_decide_eq_true (by assumption) : ji10.toNat ≤ 281474976710656)) (by omega)) (Below.refl _ _) (Nat.le_refl _) ?_; intro v128 w13 ho14 hb hg_ hnew_; clear hg_ hnew_; (first | rw [← Ny127.out] at ho14 | (simp only [Int.reduceToNat] at ho14; rw [← Ny127.out] at ho14)); have HO129 := Aside0.mk (Kd.R_lower ho14 (below_size (bh HB.out))); replace HB := bsa HB hb; clear hb ho14))
      go_loopg [6, 7, 8, 39] kj2 (fun kq v6 v7 v8 v39 w' => ∃ (x6_2 : List Int) (x7_2 : Int) (x8_2 : Int) (x39_2 : Int), v7 = .int .u64 x7_2 ∧ v8 = .int .i64 x8_2 ∧ v39 = .int .i64 x39_2 ∧ Aside0 (pack_Put.l0 kq a1 x6_2 x7_2 x8_2 l0 (l0.length : Int) x39_2 = some (r1, r2)) ∧ Aside0 (kq ≤ kj2) ∧ Aside0 (Kd.R (Kd.int .u8) 5 w' w.heap.size (fun _ => True) v6 x6_2) ∧ Aside0 (Below w.heap.size w w'))
      case atStart => exact ⟨(y127), (0), (0), (0), (by first | rfl | (simp; done) | (simp [*]; done)), (by first | rfl | (simp; done) | (simp [*]; done)), (by first | rfl | (simp; done) | (simp [*]; done)), H', ⟨Nat.le_refl _⟩, ⟨by (with_reducible repeat (first | apply Kd.R_alloc | apply Kd.R_drewN | apply Kd.R_drew)); exact HO129.out⟩, ⟨bh HB.out⟩⟩
      case round =>
       clear H'
       try clear c4
       try clear c4b0
       try clear c5
       try clear c5b0
       try clear c6
       try clear c6b0
       try clear c6b1
       try clear c8
       try clear c11
       try clear c11b0
       try clear c11b1
       try clear c12
       try clear c12b0
       try clear c12b1
       obtain ⟨x6_2, x7_2, x8_2, x39_2, rfl, rfl, rfl, HA, HK2, HO_6, HB⟩ := hrel
       cases gk with
       | zero => exact absurd HA.out (by simp [pack_Put.l0])
       | succ k2 =>
        have H := HA.out
        clear HA
        simp only [pack_Put.l0] at H
        by_cases c15 : x39_2 < (l0.length : Int)
        ·rw [if_pos c15] at H
         have c15b0 : decide (x39_2 < (l0.length : Int)) = true := decide_eq_true c15
         clear c15
         by_cases c16 : 0 ≤ x39_2
         ·rw [if_pos c16] at H
          have c16b0 : decide (0 ≤ x39_2) = true := decide_eq_true c16
          clear c16
          by_cases c17 : x39_2 < (l0.length : Int)
          ·rw [if_pos c17] at H
           have c17b0 : decide (x39_2 < (l0.length : Int)) = true := decide_eq_true c17
           clear c17
           have H' := Aside0.mk H
           clear H
           have p133 : 0 ≤ (x39_2 : Int) := of_decide_eq_true (by assumption)
           have q133 : x39_2 < (l0.length : Int) := of_decide_eq_true (by assumption)
           obtain ⟨ad133, e133, hx133_0⟩ := Kd.at_int HR0.out x39_2 p133 q133
           cases e133
           replace hx133_0 := (HB.out.cell (World.block_lt_of_cell? w _ hx133_0)).trans hx133_0
           replace p133 := eq_true p133
           replace q133 := eq_true q133
           go_wp2
           go_loopg [6, 7, 8, 11, 12] k2 (fun kq v6 v7 v8 v11 v12 w' => ∃ (x6_3 : List Int) (x7_3 : Int) (x8_3 : Int) (x11_3 : Int) (x12_3 : Int), v7 = .int .u64 x7_3 ∧ v8 = .int .i64 x8_3 ∧ v11 = .int .u64 x11_3 ∧ v12 = .int .i64 x12_3 ∧ Aside0 (pack_Put.l1 kq a1 x6_3 x7_3 x8_3 x11_3 x12_3 l0 (l0.length : Int) x39_2 = some (r1, r2)) ∧ Aside0 (kq ≤ k2) ∧ Aside0 (Kd.R (Kd.int .u8) 5 w' w.heap.size (fun _ => True) v6 x6_3) ∧ Aside0 (Below w.heap.size w w'))
           case atStart => exact ⟨(x6_2), (x7_2), (x8_2), (IntKind.u64.wrap (rd l0 x39_2)), (a1), (by first | rfl | (simp; done) | (simp [*]; done)), (by first | rfl | (simp; done) | (simp [*]; done)), (by first | rfl | (simp; done) | (simp [*]; done)), (by first | rfl | (simp; done) | (simp [*]; done)), H', ⟨Nat.le_refl _⟩, ⟨by (with_reducible repeat (first | apply Kd.R_alloc | apply Kd.R_drewN | apply Kd.R_drew)); exact HO_6.out⟩, ⟨bh HB.out⟩⟩
           case round =>
            clear H'
            try clear c4
            try clear c4b0
            try clear c5
            try clear c5b0
            try clear c6
            try clear c6b0
            try clear c6b1
            try clear c8
            try clear c11
            try clear c11b0
            try clear c11b1
            try clear c12
            try clear c12b0
            try clear c12b1
            try clear c15
            try clear c15b0
            try clear c16
            try clear c16b0
            try clear c17
            try clear c17b0
            try clear hx133_0
            try clear p133
            try clear q133
            obtain ⟨x6_3, x7_3, x8_3, x11_3, x12_3, rfl, rfl, rfl, rfl, HA, HK3, HO_6, HB⟩ := hrel
            cases gk with
            | zero => exact absurd HA.out (by simp [pack_Put.l1])
            | succ k3 =>
             have H := HA.out
             clear HA
             simp only [pack_Put.l1] at H
             by_cases c18 : x12_3 > 0
             ·rw [if_pos c18] at H
              have c18b0 : decide (0 < x12_3) = true := decide_eq_true c18
              clear c18
              obtain ⟨ji19, hji19⟩ : ∃ j_ : Int, (mn (wrap64 (8 - x8_3)) x12_3) = j_ := ⟨_, rfl⟩
              replace H : ((bits_Mask.f (ji19)).bind fun t134 => (if 0 ≤ x8_3 then (if 0 ≤ (ji19) then (if (wrap64 (x8_3 + (ji19))) = 8 then (if x6_3.length < 140737488355328 then (pack_Put.l1 k3 a1 (x6_3 ++ [(Go.bits .or .u64 x7_3 (shl .u64 (Go.bits .and .u64 x11_3 (IntKind.u64.wrap (t134))) x8_3)) % 256]) 0 0 (shr .u64 x11_3 (ji19)) (wrap64 (x12_3 - (ji19))) l0 (l0.length : Int) x39_2) else (none)) else (pack_Put.l1 k3 a1 x6_3 (Go.bits .or .u64 x7_3 (shl .u64 (Go.bits .and .u64 x11_3 (IntKind.u64.wrap (t134))) x8_3)) (wrap64 (x8_3 + (ji19))) (shr .u64 x11_3 (ji19)) (wrap64 (x12_3 - (ji19))) l0 (l0.length : Int) x39_2)) else (none)) else (none))) = some (r1, r2) := by first | (rw [hji19] at H; exact H) | (simp only [hji19] at H ⊢; exact H)
              have hji19_ : (if x12_3 < (wrap64 (8 - x8_3)) then x12_3 else (wrap64 (8 - x8_3))) = ji19 := hji19
              replace H := Option.bind_eq_some_iff.mp H
              obtain ⟨t134, A200, H⟩ := H
              replace H : (if 0 ≤ x8_3 then (if 0 ≤ (ji19) then (if (wrap64 (x8_3 + (ji19))) = 8 then (if x6_3.length < 140737488355328 then (pack_Put.l1 k3 a1 (x6_3 ++ [(Go.bits .or .u64 x7_3 (shl .u64 (Go.bits .and .u64 x11_3 (IntKind.u64.wrap (t134))) x8_3)) % 256]) 0 0 (shr .u64 x11_3 (ji19)) (wrap64 (x12_3 - (ji19))) l0 (l0.length : Int) x39_2) else (none)) else (pack_Put.l1 k3 a1 x6_3 (Go.bits .or .u64 x7_3 (shl .u64 (Go.bits .and .u64 x11_3 (IntKind.u64.wrap (t134))) x8_3)) (wrap64 (x8_3 + (ji19))) (shr .u64 x11_3 (ji19)) (wrap64 (x12_3 - (ji19))) l0 (l0.length : Int) x39_2)) else (none)) else (none)) = some (r1, r2) := H
              have A20 := Aside0.mk A200
              clear A200
              by_cases c21 : 0 ≤ x8_3
              ·rw [if_pos c21] at H
               have c21b0 := eq_true c21
               have c21b1 : decide (0 ≤ x8_3) = true := decide_eq_true c21
               clear c21
               obtain ⟨ji22, hji22⟩ : ∃ j_ : Int, (shl .u64 (Go.bits .and .u64 x11_3 (IntKind.u64.wrap (t134))) x8_3) = j_ := ⟨_, rfl⟩
               replace H : (if 0 ≤ (ji19) then (if (wrap64 (x8_3 + (ji19))) = 8 then (if x6_3.length < 140737488355328 then (pack_Put.l1 k3 a1 (x6_3 ++ [(Go.bits .or .u64 x7_3 (ji22)) % 256]) 0 0 (shr .u64 x11_3 (ji19)) (wrap64 (x12_3 - (ji19))) l0 (l0.length : Int) x39_2) else (none)) else (pack_Put.l1 k3 a1 x6_3 (Go.bits .or .u64 x7_3 (ji22)) (wrap64 (x8_3 + (ji19))) (shr .u64 x11_3 (ji19)) (wrap64 (x12_3 - (ji19))) l0 (l0.length : Int) x39_2)) else (none)) = some (r1, r2) := by first | (rw [hji22] at H; exact H) | (simp only [hji22] at H ⊢; exact H)
               (try rw [hji22] at A20)
               have hji22_ : (IntKind.u64.wrap ((Go.bits .and .u64 x11_3 (IntKind.u64.wrap (t134))) * 2 ^ min x8_3.toNat 64)) = ji22 := hji22
               have hji22z : x8_3 ≤ 64 → (IntKind.u64.wrap ((Go.bits .and .u64 x11_3 (IntKind.u64.wrap (t134))) * 2 ^ x8_3.toNat)) = ji22 := shl_small hji22
               by_cases c23 : 0 ≤ (ji19)
               ·rw [if_pos c23] at H
                have c23b0 := eq_true c23
                have c23b1 : decide (0 ≤ (ji19)) = true := decide_eq_true c23
                clear c23
                obtain ⟨ji24, hji24⟩ : ∃ j_ : Int, (shr .u64 x11_3 (ji19)) = j_ := ⟨_, rfl⟩
                replace H : (if (wrap64 (x8_3 + (ji19))) = 8 then (if x6_3.length < 140737488355328 then (pack_Put.l1 k3 a1 (x6_3 ++ [(Go.bits .or .u64 x7_3 (ji22)) % 256]) 0 0 ji24 (wrap64 (x12_3 - (ji19))) l0 (l0.length : Int) x39_2) else (none)) else (pack_Put.l1 k3 a1 x6_3 (Go.bits .or .u64 x7_3 (ji22)) (wrap64 (x8_3 + (ji19))) ji24 (wrap64 (x12_3 - (ji19))) l0 (l0.length : Int) x39_2)) = some (r1, r2) := by first | (rw [hji24] at H; exact H) | (simp only [hji24] at H ⊢; exact H)
                (try rw [hji24] at A20)
                have hji24_ : (x11_3 / 2 ^ min (ji19).toNat 64) = ji24 := hji24
                have hji24z : (ji19) ≤ 64 → (x11_3 / 2 ^ (ji19).toNat) = ji24 := shr_small hji24
                by_cases c25 : (wrap64 (x8_3 + (ji19))) = 8
                ·rw [if_pos c25] at H
                 have c25b0 : ((wrap64 (x8_3 + (ji19))) == 8) = true := beq_iff_eq.mpr c25
                 have c25b1 : ((wrap64 (x8_3 + (ji19))) != 8) = false := bne_eq_false_iff_eq.mpr c25
                 clear c25
                 by_cases c26 : x6_3.length < 140737488355328
                 ·rw [if_pos c26] at H
                  have LMc26 := Aside0.mk c26
                  clear c26
                  obtain ⟨y135, hy135⟩ : ∃ y_ : List Int, y_ = (x6_3 ++ [(Go.bits .or .u64 x7_3 (ji22)) % 256]) := ⟨_, rfl⟩
                  replace H : (pack_Put.l1 k3 a1 y135 0 0 ji24 (wrap64 (x12_3 - (ji19))) l0 (l0.length : Int) x39_2) = some (r1, r2) := by first | (rw [hy135]; with_reducible exact H) | (have H2_ := (Option.bind_some _ _).symm.trans H; rw [hy135]; with_reducible exact H2_) | (have H2_ := (Option.bind_some _ _).symm.trans H; with_reducible exact H2_) | with_reducible exact H | (rw [hy135]; exact H) | exact H
                  have Ny135 := Aside0.mk hy135
                  clear hy135
                  have H' := Aside0.mk H
                  clear H
                  go_wp2_with (first | ((with_reducible refine gate_callee (f := 85) rfl ?_); refine goesL_ (some 55) rfl rfl Try.func85 (by kernel_rfl) rfl #[.int .i64 ji19] rfl (by (try simp only [List.map_toArray, List.map_cons, List.map_nil]); first | done | (simp only [hji19]; rfl) | rfl | (simp only [List.length_drop, List.length_take]; rfl)) ?_; (with_reducible refine (bits_Mask.calls ji19 t134 _ A20.out).mono ?_); rintro e w' ⟨rfl, ⟨nd, rfl⟩⟩; refine ⟨_, rfl, ?_⟩) | ((with_reducible refine gate_builtin (b := .append) (xs := #[.tmp 72, .tmp 75]) rfl ?_); (try (refine gate_guard (by rfl) ?_; dsimp only)); at_builtin; refine Kd.R_append (Kd.int .u8) (w0 := w) w.heap.size rfl (.tmp 72) (.tmp 75) 76 5 (.int .u8 0) 1 rfl Try.underlying76 info5 rfl (by decide) (by omega) u6 x6_3 ((Go.bits .or .u64 x7_3 (ji22)) % 256) [.int .u8 ((Go.bits .or .u64 x7_3 (ji22)) % 256)] (fun _ => True) (fun _ => False) rfl rfl ?aP (fun _ hk => hk.elim) ?aF ?aO ?aB ?aS ?aL ?_; (case aP => exact rfl); (case aB => exact (bh HB.out)); (case aF => exact (fun _ _ => trivial)); (case aO => exact (rx HO_6.out)); (case aS => exact (below_size (bh HB.out))); (case aL => have := LMc26.out; omega); intro v136 w27 ho hb hg hat; rw [← Ny135.out] at ho; have n0_ := Aside0.mk (hb); have n1_ := Aside0.mk (ho); clear HB HO_6; have HB := n0_; have HO137 := n1_; clear n0_ n1_; clear ho hb hg hat))
                  go_roundg k3
                  case measure => have := HJ2.out; have := HK2.out; have := HK3.out; omega
                  case rel => exact ⟨(y135), (0), (0), (ji24), (wrap64 (x12_3 - (ji19))), (by first | rfl | (simp; done) | (simp [*]; done)), (by first | rfl | (simp; done) | (simp [*]; done)), (by first | rfl | (simp; done) | (simp only [← hji24] <;> (first | rfl | simp)) | (simp [*]; done)), (by first | rfl | (simp; done) | (simp only [← hji19] <;> (first | rfl | simp)) | (simp [*]; done)), (by first | exact H' | (simp only [hji10, hji19, hji22, hji24]; exact H')), ⟨by have := HJ2.out; have := HK2.out; have := HK3.out; omega⟩, ⟨by (with_reducible repeat (first | apply Kd.R_alloc | apply Kd.R_drewN | apply Kd.R_drew)); exact HO137.out⟩, ⟨bh HB.out⟩⟩
                 ·rw [if_neg c26] at H
                  exact absurd H (by simp)
                ·rw [if_neg c25] at H
                 have c25b0 : ((wrap64 (x8_3 + (ji19))) == 8) = false := beq_eq_false_iff_ne.mpr c25
                 have c25b1 : ((wrap64 (x8_3 + (ji19))) != 8) = true := bne_iff_ne.mpr c25
                 have H' := Aside0.mk H
                 clear H
                 go_wp2_with (first | ((with_reducible refine gate_callee (f := 85) rfl ?_); refine goesL_ (some 55) rfl rfl Try.func85 (by kernel_rfl) rfl #[.int .i64 ji19] rfl (by (try simp only [List.map_toArray, List.map_cons, List.map_nil]); first | done | (simp only [hji19]; rfl) | rfl | (simp only [List.length_drop, List.length_take]; rfl)) ?_; (with_reducible refine (bits_Mask.calls ji19 t134 _ A20.out).mono ?_); rintro e w' ⟨rfl, ⟨nd, rfl⟩⟩; refine ⟨_, rfl, ?_⟩))
                 go_roundg k3
                 case measure => have := HJ2.out; have := HK2.out; have := HK3.out; omega
                 case rel => exact ⟨(x6_3), (Go.bits .or .u64 x7_3 (ji22)), (wrap64 (x8_3 + (ji19))), (ji24), (wrap64 (x12_3 - (ji19))), (by first | rfl | (simp; done) | (simp only [← hji22] <;> (first | rfl | simp)) | (simp [*]; done)), (by first | rfl | (simp; done) | (simp only [← hji19] <;> (first | rfl | simp)) | (simp [*]; done)), (by first | rfl | (simp; done) | (simp only [← hji24] <;> (first | rfl | simp)) | (simp [*]; done)), (by first | rfl | (simp; done) | (simp only [← hji19] <;> (first | rfl | simp)) | (simp [*]; done)), (by first | exact H' | (simp only [hji10, hji19, hji22, hji24]; exact H')), ⟨by have := HJ2.out; have := HK2.out; have := HK3.out; omega⟩, ⟨by (with_reducible repeat (first | apply Kd.R_alloc | apply Kd.R_drewN | apply Kd.R_drew)); exact HO_6.out⟩, ⟨bh HB.out⟩⟩
               ·rw [if_neg c23] at H
                exact absurd H (by simp)
              ·rw [if_neg c21] at H
               exact absurd H (by simp)
             ·rw [if_neg c18] at H
              have c18b0 : decide (0 < x12_3) = false := decide_eq_false c18
              clear c18
              have H' := Aside0.mk H
              clear H
              go_wp2
              go_roundg k3
              case measure => have := HJ2.out; have := HK2.out; have := HK3.out; omega
              case rel => exact ⟨(x6_3), (x7_3), (x8_3), (wrap64 (x39_2 + 1)), (by first | rfl | (simp; done) | (simp [*]; done)), (by first | rfl | (simp; done) | (simp [*]; done)), (by first | rfl | (simp; done) | (simp [*]; done)), (by first | exact H' | (simp only [hji10]; exact H')), ⟨by have := HJ2.out; have := HK2.out; have := HK3.out; omega⟩, ⟨by (with_reducible repeat (first | apply Kd.R_alloc | apply Kd.R_drewN | apply Kd.R_drew)); exact HO_6.out⟩, ⟨bh HB.out⟩⟩
          ·rw [if_neg c17] at H
           exact absurd H (by simp)
         ·rw [if_neg c16] at H
          exact absurd H (by simp)
        ·rw [if_neg c15] at H
         have c15b0 : decide (x39_2 < (l0.length : Int)) = false := decide_eq_false c15
         clear c15
         by_cases c28 : x8_2 > 0
         ·rw [if_pos c28] at H
          have c28b0 : decide (0 < x8_2) = true := decide_eq_true c28
          clear c28
          by_cases c29 : x6_2.length < 140737488355328
          ·rw [if_pos c29] at H
           have LMc29 := Aside0.mk c29
           clear c29
           obtain ⟨y130, hy130⟩ : ∃ y_ : List Int, y_ = (x6_2 ++ [(x7_2) % 256]) := ⟨_, rfl⟩
           replace H : (some (strOfNums y130, 0)) = some (r1, r2) := by first | (rw [hy130]; with_reducible exact H) | (have H2_ := (Option.bind_some _ _).symm.trans H; rw [hy130]; with_reducible exact H2_) | (have H2_ := (Option.bind_some _ _).symm.trans H; with_reducible exact H2_) | with_reducible exact H | (rw [hy130]; exact H) | exact H
           have Ny130 := Aside0.mk hy130
           clear hy130
           simp only [Option.some.injEq, Prod.mk.injEq] at H
           obtain ⟨rfl, rfl⟩ := H
           go_wp2_with (first | ((with_reducible refine gate_builtin (b := .append) (xs := #[.tmp 80, .tmp 83]) rfl ?_); (try (refine gate_guard (by rfl) ?_; dsimp only)); at_builtin; refine Kd.R_append (Kd.int .u8) (w0 := w) w.heap.size rfl (.tmp 80) (.tmp 83) 76 5 (.int .u8 0) 1 rfl Try.underlying76 info5 rfl (by decide) (by omega) u6 x6_2 ((x7_2) % 256) [.int .u8 ((x7_2) % 256)] (fun _ => True) (fun _ => False) rfl rfl ?aP (fun _ hk => hk.elim) ?aF ?aO ?aB ?aS ?aL ?_; (case aP => exact rfl); (case aB => exact (bh HB.out)); (case aF => exact (fun _ _ => trivial)); (case aO => exact (rx HO_6.out)); (case aS => exact (below_size (bh HB.out))); (case aL => have := LMc29.out; omega); intro v131 w30 ho hb hg hat; rw [← Ny130.out] at ho; have n0_ := Aside0.mk (hb); have n1_ := Aside0.mk (ho); clear HB HO_6; have HB := n0_; have HO132 := n1_; clear n0_ n1_; clear ho hb hg hat; have hcv31 := own_string (P := Try.prog) Try.underlying76 Try.underlying5 Try.underlying9 (Kd.own_of_R HO132.out)))
           go_ret2
           exact ⟨by first | rfl | (simp [errW_none, errW_some] <;> rfl) | (simp only [← hji10]; first | rfl | (simp [errW_none, errW_some] <;> rfl)) | (simp [*, errW_none, errW_some] <;> rfl), bh HB.out⟩
          ·rw [if_neg c29] at H
           exact absurd H (by simp)
         ·rw [if_neg c28] at H
          have c28b0 : decide (0 < x8_2) = false := decide_eq_false c28
          clear c28
          simp only [Option.some.injEq, Prod.mk.injEq] at H
          obtain ⟨rfl, rfl⟩ := H
          have hcv32 := own_string (P := Try.prog) Try.underlying76 Try.underlying5 Try.underlying9 (Kd.own_of_R HO_6.out)
          go_wp2
          go_ret2
          exact ⟨by first | rfl | (simp [errW_none, errW_some] <;> rfl) | (simp only [← hji10]; first | rfl | (simp [errW_none, errW_some] <;> rfl)) | (simp [*, errW_none, errW_some] <;> rfl), bh HB.out⟩
     ·rw [if_neg c12] at H
      exact absurd H (by simp)
    ·rw [if_neg c11] at H
     exact absurd H (by simp)
/-! ### bits_Zig: function 87 -/
def bits_Zig.f (a0 : Int) : Option (Int) := some (wrap64 (Go.bits .xor .u64 (IntKind.u64.wrap ((IntKind.u64.wrap (a0)) * 2)) (IntKind.u64.wrap (a0 / 9223372036854775808))))
set_option maxHeartbeats 8000000 in
set_option maxRecDepth 100000 in
theorem bits_Zig.calls (a0 : Int) (r : Int) (w : World) (h : bits_Zig.f a0 = some r) :
  Calls Try.prog 87 #[.int .i64 a0] w fun e w' => e = .returned (.int .i64 r) ∧ Drawn0 w w' := by
 have H : (some (wrap64 (Go.bits .xor .u64 (IntKind.u64.wrap ((IntKind.u64.wrap (a0)) * 2)) (IntKind.u64.wrap (a0 / 9223372036854775808))))) = some r := h
 clear h
 obtain rfl := Option.some.inj H
 go_enter Try.func87, Try.ntmps87
 go_wp2
 go_ret
 exact ⟨by first | rfl | (unfold wrap64; rfl) | (simp; done) | (simp [*]; done), by repeat (first | exact Drawn0.refl _ | apply Drawn0.step)⟩
/-! ### vint_Put: function 52 (a contract of the session's own) -/
def vint_Put.loop : Nat → Int → List Int
  | 0, x => [x % 256]
  | d + 1, x => if 128 ≤ x then Go.bits .or .u8 (x % 256) 128 :: vint_Put.loop d (x / 128) else [x % 256]
def vint_Put.f (a0 : Int) : Option (ByteArray) := (bits_Zig.f a0).bind fun z => some (strOfNums (vint_Put.loop 9 (IntKind.u64.wrap z)))
theorem vint_Put.zero : (Try.prog.info? 108).map (fun i => (i.zero, i.size)) = some (some (.agg (arrI .u8 (List.replicate 10 0))), 10) := by kernel_rfl
set_option maxHeartbeats 1600000 in
theorem vint_Put.calls (a0 : Int) (r : ByteArray) (w : World) (h : vint_Put.f a0 = some r) :
    Calls Try.prog 52 #[.int .i64 a0] w fun e w' => e = .returned (.string r) ∧ Below w.heap.size w w' := by
  obtain ⟨z, hz, hr⟩ := Option.bind_eq_some_iff.1 h
  obtain rfl := Option.some.inj hr
  have A1 := Aside0.mk hz
  clear h hz hr
  go_enter Try.func52, Try.ntmps52
  go_wp2_with (first | ((with_reducible refine gate_dst (N := 3) rfl ?_); refine arr_alloc (w0 := w) w.heap.size rfl 108 rfl _ 10 vint_Put.zero (Below.refl _ _) (Nat.le_refl _) ?_; intro g w1 hg hb hs HB1 hbs1 hgr1) | ((with_reducible refine gate_callee (f := 87) rfl ?_); refine goesL_ (some 7) rfl rfl Try.func87 (by kernel_rfl) rfl #[.int .i64 a0] rfl (by (try simp only [List.map_toArray, List.map_cons, List.map_nil]); first | done | rfl) ?_; (with_reducible refine (bits_Zig.calls a0 z _ A1.out).mono ?_); rintro e w2 ⟨rfl, hd⟩; refine ⟨_, rfl, ?_⟩; have HB2 := Aside0.mk (below_then HB1 hbs1 hd.below); have HG2 := Aside0.mk (show w2.heap[g]? = _ from (hd.below.block g (blk_lt hg)).trans hg); clear hd))
  have HX := Aside0.mk hb
  clear hg hb hs HB1 hbs1 hgr1
  go_loopw [4, 5] (fun v4 v5 wr => ∃ (k d : Nat) (x kk : Int) (l : List Int), Aside0 (k + d = 9) ∧ Aside0 (l.length = 10) ∧ Aside0 (0 ≤ x ∧ x < 2 * 128 ^ d) ∧ Aside0 (kk = (k : Int)) ∧ Aside0 (l.take k ++ vint_Put.loop d x = vint_Put.loop 9 (IntKind.u64.wrap z)) ∧ v4 = .int .u64 x ∧ v5 = .int .i64 kk ∧ Aside0 (wr.heap[g]? = some (.cells (arrI .u8 l) 108 (0, 0))) ∧ Aside0 (Below w.heap.size w wr)) (fun _ v5 _ => 10 - (intOf v5).toNat)
  case atStart => exact ⟨0, 9, IntKind.u64.wrap z, 0, List.replicate 10 0, ⟨rfl⟩, ⟨rfl⟩, ⟨by have e : (2 : Int) * 128 ^ 9 = 18446744073709551616 := by decide
                                                                                             rw [e]; simp [IntKind.wrap, IntKind.bits, IntKind.signed]; omega⟩, ⟨rfl⟩, ⟨rfl⟩, by first | rfl | (simp [IntKind.wrap, IntKind.bits, IntKind.signed]; done), rfl, HG2, HB2⟩
  case round =>
    obtain ⟨k, d, x, kk, l, HKD, HLN, HXB, HKK, HT, rfl, rfl, HG, HB⟩ := hrel
    have hk0 : (0 : Int) ≤ kk := by have := HKK.out; omega
    have hk1 : kk < 10 := by have := HKK.out; have := HKD.out; omega
    have hc := arrI_cell HG.out kk.toNat (by rw [HLN.out]; omega)
    have hf : wr.frozen? ⟨g, kk.toNat, none⟩ = false := blk_frozen HG.out kk.toNat
    generalize l.getD kk.toNat 0 = old at hc
    by_cases hge : x ≥ 128
    · go_wp2
      go_roundw
      case rel =>
        have hkk := HKK.out
        have hkd := HKD.out
        have hxb := HXB.out
        have hln := HLN.out
        obtain ⟨d', rfl⟩ : ∃ d', d = d' + 1 := by
          rcases d with _ | d'
          · simp only [Int.pow_zero] at hxb; omega
          · exact ⟨d', rfl⟩
        have hput := arrI_put HG.out kk.toNat (Go.bits .or .u8 (x % 256) 128)
        refine ⟨k + 1, d', x / 128, wrap64 (kk + 1), l.set kk.toNat (Go.bits .or .u8 (x % 256) 128), ⟨by omega⟩, ⟨by rw [List.length_set]; exact hln⟩, ⟨by omega, ?_⟩, ⟨by unfold wrap64; omega⟩, ⟨?_⟩, by first | rfl | (simp; done) | go_num, by first | rfl | (simp; done) | (unfold wrap64; go_num), ⟨by first | exact hput | simpa using hput⟩, ⟨HB.out.setCell HX.out _⟩⟩
        · rw [Int.pow_succ] at hxb
          have := hxb.2
          omega
        · rw [← HT.out]
          have e : kk.toNat = k := by omega
          have h1 : k < (l.set k (Go.bits .or .u8 (x % 256) 128)).length := by rw [List.length_set]; omega
          rw [e, List.take_succ_eq_append_getElem h1, List.getElem_set_self, List.take_set_of_le (Nat.le_refl _)]
          simp only [vint_Put.loop, if_pos (show (128 : Int) ≤ x from hge), List.append_assoc, List.cons_append, List.nil_append]
      case measure => have := HKK.out; first | (simp [intOf]; omega) | (show 10 - (wrap64 (kk + 1)).toNat < 10 - kk.toNat; unfold wrap64; omega)
    · have hput := arrI_put HG.out kk.toNat (x % 256)
      have hll : (l.set kk.toNat (x % 256)).length = 10 := by rw [List.length_set]; exact HLN.out
      have hrd := arrI_reads hput (kk + 1).toNat (by rw [hll]; omega) (by omega)
      have hstr := Kd.C_string (P := Try.prog) (src := 76) (dst := 9) (e := 5) (c := 10) Try.underlying76 Try.underlying5 Try.underlying9 hrd
      have hsl := run_slice_arr (P := Try.prog) (W := wr.setCell ⟨g, kk.toNat, none⟩ (.int .u8 (x % 256))) Try.underlying108 (e := 5) (by kernel_rfl) g .i64 (kk + 1) (by omega) (by omega) (by omega)
      have HE : Aside0 ((l.set kk.toNat (x % 256)).take (kk + 1).toNat = vint_Put.loop 9 (IntKind.u64.wrap z)) := ⟨by
        have hkk := HKK.out
        have e : kk.toNat = k := by omega
        have e1 : (kk + 1).toNat = k + 1 := by omega
        have h1 : k < (l.set k (x % 256)).length := by rw [List.length_set, HLN.out]; have := HKD.out; omega
        have hlast : vint_Put.loop d x = [x % 256] := by
          cases d with
          | zero => rfl
          | succ d => simp only [vint_Put.loop, if_neg (show ¬ (128 : Int) ≤ x from hge)]
        rw [← HT.out, e, e1, List.take_succ_eq_append_getElem h1, List.getElem_set_self, List.take_set_of_le (Nat.le_refl _), hlast]⟩
      have HLL := Aside0.mk hput
      clear hput hll hrd
      go_wp2
      go_ret
      exact ⟨by rw [HE.out]; rfl, HB.out.setCell HX.out _⟩
/-! ### dict_put_string_fn38: function 37 -/
def dict_put_string_fn38.f (k : Nat) (l0 : List ByteArray)  : Option (ByteArray × Int) := if (l0.length : Int) > 65536 then (some ((⟨#[]⟩ : ByteArray), 1)) else (if (l0.length : Int) = 0 then (some ((⟨#[]⟩ : ByteArray), 0)) else ((dict_Of_string.f k l0).bind fun bt138 => ((plain_PutTexts.f k bt138.1).bind fun bt144 => (if bt144.2 = 0 then ((pack_Width.f k bt138.2).bind fun t146 => ((pack_Put.f k bt138.2 t146).bind fun bt147 => ((vint_Put.f (bt138.1.length : Int)).bind fun t149 => (if t149.size + bt144.1.size ≤ 9223372036854775807 then (if (t149 ++ bt144.1).size + bt147.1.size ≤ 9223372036854775807 then (some ((t149 ++ bt144.1) ++ bt147.1, bt147.2)) else (none)) else (none))))) else (some ((⟨#[]⟩ : ByteArray), bt144.2))))))
set_option maxHeartbeats 8000000 in
set_option maxRecDepth 100000 in
theorem dict_put_string_fn38.calls (k : Nat) (A0 : Option Addr) (c0 : Nat) (l0 : List ByteArray)  (r1 : ByteArray) (r2 : Int) (w : World) (hr0 : Kd.C Kd.string w A0 l0.length l0) (hc0 : l0.length ≤ c0) (h : dict_put_string_fn38.f k l0 = some (r1, r2)) :
  Calls Try.prog 37 #[.slice A0 l0.length c0, .func (.func 38) #[] #[]] w fun e w' => e = .returned (.tuple #[.string r1, .int .i64 r2]) ∧ Below w.heap.size w w' := by
 have HR0 := Aside0.mk hr0
 have HC0 := Aside0.mk hc0
 clear hr0 hc0
 have HB := Aside0.mk (Below.refl w.heap.size w)
 have H : (if (l0.length : Int) > 65536 then (some ((⟨#[]⟩ : ByteArray), 1)) else (if (l0.length : Int) = 0 then (some ((⟨#[]⟩ : ByteArray), 0)) else ((dict_Of_string.f k l0).bind fun bt138 => ((plain_PutTexts.f k bt138.1).bind fun bt144 => (if bt144.2 = 0 then ((pack_Width.f k bt138.2).bind fun t146 => ((pack_Put.f k bt138.2 t146).bind fun bt147 => ((vint_Put.f (bt138.1.length : Int)).bind fun t149 => (if t149.size + bt144.1.size ≤ 9223372036854775807 then (if (t149 ++ bt144.1).size + bt147.1.size ≤ 9223372036854775807 then (some ((t149 ++ bt144.1) ++ bt147.1, bt147.2)) else (none)) else (none))))) else (some ((⟨#[]⟩ : ByteArray), bt144.2))))))) = some (r1, r2) := h
 clear h
 by_cases c3 : (l0.length : Int) > 65536
 ·rw [if_pos c3] at H
  have c3b0 : decide (65536 < (l0.length : Int)) = true := decide_eq_true c3
  have c3b1 : decide (65536 < l0.length) = true := decide_eq_true (by omega)
  clear c3
  simp only [Option.some.injEq, Prod.mk.injEq] at H
  obtain ⟨rfl, rfl⟩ := H
  go_enter Try.func37, Try.ntmps37
  go_wp2
  go_ret2
  exact ⟨er, bh HB.out⟩
 ·rw [if_neg c3] at H
  have c3b0 : decide (65536 < (l0.length : Int)) = false := decide_eq_false c3
  have c3b1 : decide (65536 < l0.length) = false := decide_eq_false (by omega)
  clear c3
  by_cases c4 : (l0.length : Int) = 0
  ·rw [if_pos c4] at H
   have c4b0 : ((l0.length : Int) == 0) = true := beq_iff_eq.mpr c4
   have c4b1 : ((l0.length : Int) != 0) = false := bne_eq_false_iff_eq.mpr c4
   clear c4
   simp only [Option.some.injEq, Prod.mk.injEq] at H
   obtain ⟨rfl, rfl⟩ := H
   go_enter Try.func37, Try.ntmps37
   go_wp2
   go_ret2
   exact ⟨er, bh HB.out⟩
  ·rw [if_neg c4] at H
   have c4b0 : ((l0.length : Int) == 0) = false := beq_eq_false_iff_ne.mpr c4
   have c4b1 : ((l0.length : Int) != 0) = true := bne_iff_ne.mpr c4
   have c4b2 : ¬ (l0 = []) := fun h_ => c4 (by rw [h_]; rfl)
   replace H := Option.bind_eq_some_iff.mp H
   obtain ⟨⟨t138, t139⟩, A50, H⟩ := H
   replace H : ((plain_PutTexts.f k t138).bind fun bt144 => (if bt144.2 = 0 then ((pack_Width.f k t139).bind fun t146 => ((pack_Put.f k t139 t146).bind fun bt147 => ((vint_Put.f (t138.length : Int)).bind fun t149 => (if t149.size + bt144.1.size ≤ 9223372036854775807 then (if (t149 ++ bt144.1).size + bt147.1.size ≤ 9223372036854775807 then (some ((t149 ++ bt144.1) ++ bt147.1, bt147.2)) else (none)) else (none))))) else (some ((⟨#[]⟩ : ByteArray), bt144.2)))) = some (r1, r2) := H
   have A5 := Aside0.mk A50
   clear A50
   replace H := Option.bind_eq_some_iff.mp H
   obtain ⟨⟨t144, t145⟩, A60, H⟩ := H
   replace H : (if t145 = 0 then ((pack_Width.f k t139).bind fun t146 => ((pack_Put.f k t139 t146).bind fun bt147 => ((vint_Put.f (t138.length : Int)).bind fun t149 => (if t149.size + t144.size ≤ 9223372036854775807 then (if (t149 ++ t144).size + bt147.1.size ≤ 9223372036854775807 then (some ((t149 ++ t144) ++ bt147.1, bt147.2)) else (none)) else (none))))) else (some ((⟨#[]⟩ : ByteArray), t145))) = some (r1, r2) := H
   have A6 := Aside0.mk A60
   clear A60
   by_cases c7 : t145 = 0
   ·rw [if_pos c7] at H
    have c7b0 : (t145 == 0) = true := beq_iff_eq.mpr c7
    have c7b1 : (t145 != 0) = false := bne_eq_false_iff_eq.mpr c7
    clear c7
    replace H := Option.bind_eq_some_iff.mp H
    obtain ⟨t146, A80, H⟩ := H
    replace H : ((pack_Put.f k t139 t146).bind fun bt147 => ((vint_Put.f (t138.length : Int)).bind fun t149 => (if t149.size + t144.size ≤ 9223372036854775807 then (if (t149 ++ t144).size + bt147.1.size ≤ 9223372036854775807 then (some ((t149 ++ t144) ++ bt147.1, bt147.2)) else (none)) else (none)))) = some (r1, r2) := H
    have A8 := Aside0.mk A80
    clear A80
    replace H := Option.bind_eq_some_iff.mp H
    obtain ⟨⟨t147, t148⟩, A90, H⟩ := H
    replace H : ((vint_Put.f (t138.length : Int)).bind fun t149 => (if t149.size + t144.size ≤ 9223372036854775807 then (if (t149 ++ t144).size + t147.size ≤ 9223372036854775807 then (some ((t149 ++ t144) ++ t147, t148)) else (none)) else (none))) = some (r1, r2) := H
    have A9 := Aside0.mk A90
    clear A90
    replace H := Option.bind_eq_some_iff.mp H
    obtain ⟨t149, A100, H⟩ := H
    replace H : (if t149.size + t144.size ≤ 9223372036854775807 then (if (t149 ++ t144).size + t147.size ≤ 9223372036854775807 then (some ((t149 ++ t144) ++ t147, t148)) else (none)) else (none)) = some (r1, r2) := H
    have A10 := Aside0.mk A100
    clear A100
    by_cases c11 : t149.size + t144.size ≤ 9223372036854775807
    ·rw [if_pos c11] at H
     have c11b0 := eq_true c11
     have c11b1 : decide (t149.size + t144.size ≤ 9223372036854775807) = true := decide_eq_true c11
     try have c11b2 : (9223372036854775807 < t149.size + t144.size) = False := eq_false (Nat.not_lt.2 c11)
     by_cases c12 : (t149 ++ t144).size + t147.size ≤ 9223372036854775807
     ·rw [if_pos c12] at H
      have c12b0 := eq_true c12
      have c12b1 : decide ((t149 ++ t144).size + t147.size ≤ 9223372036854775807) = true := decide_eq_true c12
      (try (have c12b1s := c12b1; simp only [ByteArray.size_append] at c12b1s))
      try have c12b2 : (9223372036854775807 < (t149 ++ t144).size + t147.size) = False := eq_false (Nat.not_lt.2 c12)
      (try (have c12b2s := c12b2; simp only [ByteArray.size_append] at c12b2s))
      simp only [Option.some.injEq, Prod.mk.injEq] at H
      obtain ⟨rfl, rfl⟩ := H
      go_enter Try.func37, Try.ntmps37
      go_wp2_with (first | ((with_reducible refine gate_callee (f := 8) rfl ?_); refine goesL_ (some 21) rfl rfl Try.func8 (by kernel_rfl) rfl #[.slice A0 l0.length c0] rfl (by (try simp only [List.map_toArray, List.map_cons, List.map_nil]); first | done | rfl) ?_; (with_reducible refine (dict_Of_string.calls k _ _ l0 t138 t139 _ ?side1 ?side2 A5.out).mono ?_); (case side1 => exact cx HR0.out); (case side2 => exact HC0.out); rintro e w13 ⟨v140, v142, rfl, ho0, ho1, hb⟩; refine ⟨_, rfl, ?_⟩; have HO141 := Aside0.mk (Kd.R_lower ho0 (below_size (bh HB.out))); have HO143 := Aside0.mk (Kd.R_lower ho1 (below_size (bh HB.out))); replace HB := bsa HB hb; (try clear hb); (try clear ho0); (try clear ho1); obtain ⟨Ao14, co14, eo14⟩ := Kd.R_slice HO141.out; subst eo14) | ((with_reducible refine gate_list ?_); refine gate_value rfl ?_; refine goesV_ (some 27) rfl rfl Try.func38 (by kernel_rfl) rfl #[.slice Ao14 t138.length co14] rfl (by first | rfl | simp) (by (try simp only [List.map_toArray, List.map_cons, List.map_nil]); first | done | rfl) ?_; (with_reducible refine (plain_PutTexts.calls k _ _ t138 t144 t145 _ ?side1 ?side2 A6.out).mono ?_); (case side1 => exact cx (Kd.R_reads' HO141.out).2.2); (case side2 => exact (Kd.R_reads' HO141.out).2.1); rintro e w15 ⟨rfl, hb⟩; refine ⟨_, rfl, ?_⟩; replace HO141 := rba HO141 hb; replace HO143 := rba HO143 hb; replace HB := bsa HB hb; (try clear hb); obtain ⟨Ao16, co16, eo16⟩ := Kd.R_slice HO143.out; subst eo16) | ((with_reducible refine gate_callee (f := 51) rfl ?_); refine goesL_ (some 36) rfl rfl Try.func51 (by kernel_rfl) rfl #[.slice Ao16 t139.length co16] rfl (by (try simp only [List.map_toArray, List.map_cons, List.map_nil]); first | done | rfl) ?_; (with_reducible refine (pack_Width.calls k _ _ t139 t146 _ ?side1 ?side2 A8.out).mono ?_); (case side1 => exact cx (Kd.R_reads' HO143.out).2.2); (case side2 => exact (Kd.R_reads' HO143.out).2.1); rintro e w' ⟨rfl, ⟨nd, rfl⟩⟩; refine ⟨_, rfl, ?_⟩) | ((with_reducible refine gate_callee (f := 50) rfl ?_); refine goesL_ (some 37) rfl rfl Try.func50 (by kernel_rfl) rfl #[.slice Ao16 t139.length co16, .int .i64 t146] rfl (by (try simp only [List.map_toArray, List.map_cons, List.map_nil]); first | done | rfl) ?_; (with_reducible refine (pack_Put.calls k _ _ t139 t146 t147 t148 _ ?side1 ?side2 A9.out).mono ?_); (case side1 => exact cx (Kd.R_reads' HO143.out).2.2); (case side2 => exact (Kd.R_reads' HO143.out).2.1); rintro e w17 ⟨rfl, hb⟩; refine ⟨_, rfl, ?_⟩; replace HO141 := rba HO141 hb; replace HO143 := rba HO143 hb; replace HB := bsa HB hb; (try clear hb)) | ((with_reducible refine gate_callee (f := 52) rfl ?_); refine goesL_ (some 42) rfl rfl Try.func52 (by kernel_rfl) rfl #[.int .i64 (t138.length : Int)] rfl (by (try simp only [List.map_toArray, List.map_cons, List.map_nil]); first | done | rfl) ?_; (with_reducible refine (vint_Put.calls (t138.length : Int) t149 _ A10.out).mono ?_); rintro e w18 ⟨rfl, hb⟩; refine ⟨_, rfl, ?_⟩; replace HO141 := rba HO141 hb; replace HO143 := rba HO143 hb; replace HB := bsa HB hb; (try clear hb)))
      go_ret2
      exact ⟨er, bh HB.out⟩
     ·rw [if_neg c12] at H
      exact absurd H (by simp)
    ·rw [if_neg c11] at H
     exact absurd H (by simp)
   ·rw [if_neg c7] at H
    have c7b0 : (t145 == 0) = false := beq_eq_false_iff_ne.mpr c7
    have c7b1 : (t145 != 0) = true := bne_iff_ne.mpr c7
    simp only [Option.some.injEq, Prod.mk.injEq] at H
    obtain ⟨rfl, rfl⟩ := H
    go_enter Try.func37, Try.ntmps37
    go_wp2_with (first | ((with_reducible refine gate_callee (f := 8) rfl ?_); refine goesL_ (some 21) rfl rfl Try.func8 (by kernel_rfl) rfl #[.slice A0 l0.length c0] rfl (by (try simp only [List.map_toArray, List.map_cons, List.map_nil]); first | done | rfl) ?_; (with_reducible refine (dict_Of_string.calls k _ _ l0 t138 t139 _ ?side1 ?side2 A5.out).mono ?_); (case side1 => exact cx HR0.out); (case side2 => exact HC0.out); rintro e w19 ⟨v140, v142, rfl, ho0, ho1, hb⟩; refine ⟨_, rfl, ?_⟩; have HO141 := Aside0.mk (Kd.R_lower ho0 (below_size (bh HB.out))); have HO143 := Aside0.mk (Kd.R_lower ho1 (below_size (bh HB.out))); replace HB := bsa HB hb; (try clear hb); (try clear ho0); (try clear ho1); obtain ⟨Ao20, co20, eo20⟩ := Kd.R_slice HO141.out; subst eo20) | ((with_reducible refine gate_list ?_); refine gate_value rfl ?_; refine goesV_ (some 27) rfl rfl Try.func38 (by kernel_rfl) rfl #[.slice Ao20 t138.length co20] rfl (by first | rfl | simp) (by (try simp only [List.map_toArray, List.map_cons, List.map_nil]); first | done | rfl) ?_; (with_reducible refine (plain_PutTexts.calls k _ _ t138 t144 t145 _ ?side1 ?side2 A6.out).mono ?_); (case side1 => exact cx (Kd.R_reads' HO141.out).2.2); (case side2 => exact (Kd.R_reads' HO141.out).2.1); rintro e w21 ⟨rfl, hb⟩; refine ⟨_, rfl, ?_⟩; replace HO141 := rba HO141 hb; replace HO143 := rba HO143 hb; replace HB := bsa HB hb; (try clear hb)))
    go_ret2
    exact ⟨er, bh HB.out⟩
/-! ### dict_PutTexts: function 16 -/
def dict_PutTexts.f (k : Nat) (l0 : List ByteArray) : Option (ByteArray × Int) := (dict_put_string_fn38.f k l0).bind fun bt150 => (some (bt150.1, bt150.2))
set_option maxHeartbeats 8000000 in
set_option maxRecDepth 100000 in
theorem dict_PutTexts.calls (k : Nat) (A0 : Option Addr) (c0 : Nat) (l0 : List ByteArray) (r1 : ByteArray) (r2 : Int) (w : World) (hr0 : Kd.C Kd.string w A0 l0.length l0) (hc0 : l0.length ≤ c0) (h : dict_PutTexts.f k l0 = some (r1, r2)) :
  Calls Try.prog 16 #[.slice A0 l0.length c0] w fun e w' => e = .returned (.tuple #[.string r1, .int .i64 r2]) ∧ Below w.heap.size w w' := by
 have HR0 := Aside0.mk hr0
 have HC0 := Aside0.mk hc0
 clear hr0 hc0
 have HB := Aside0.mk (Below.refl w.heap.size w)
 have H : ((dict_put_string_fn38.f k l0).bind fun bt150 => (some (bt150.1, bt150.2))) = some (r1, r2) := h
 clear h
 replace H := Option.bind_eq_some_iff.mp H
 obtain ⟨⟨t150, t151⟩, A20, H⟩ := H
 replace H : (some (t150, t151)) = some (r1, r2) := H
 have A2 := Aside0.mk A20
 clear A20
 simp only [Option.some.injEq, Prod.mk.injEq] at H
 obtain ⟨rfl, rfl⟩ := H
 go_enter Try.func16, Try.ntmps16
 go_wp2_with (first | ((with_reducible refine gate_callee (f := 37) rfl ?_); refine goesL_ (some 5) rfl rfl Try.func37 (by kernel_rfl) rfl #[.slice A0 l0.length c0, .func (.func 38) #[] #[]] rfl (by (try simp only [List.map_toArray, List.map_cons, List.map_nil]); first | done | rfl) ?_; (with_reducible refine (dict_put_string_fn38.calls k _ _ l0  t150 t151 _ ?side1 ?side2 A2.out).mono ?_); (case side1 => exact cx HR0.out); (case side2 => exact HC0.out); rintro e w3 ⟨rfl, hb⟩; refine ⟨_, rfl, ?_⟩; replace HB := bsa HB hb; (try clear hb)))
 go_ret2
 exact ⟨er, bh HB.out⟩
/-! ### bits_Zag: function 61 -/
def bits_Zag.f (a0 : Int) : Option (Int) := some (wrap64 (Go.bits .xor .u64 ((IntKind.u64.wrap (a0)) / 2) (IntKind.u64.wrap (-(Go.bits .and .u64 (IntKind.u64.wrap (a0)) 1)))))
set_option maxHeartbeats 8000000 in
set_option maxRecDepth 100000 in
theorem bits_Zag.calls (a0 : Int) (r : Int) (w : World) (h : bits_Zag.f a0 = some r) :
  Calls Try.prog 61 #[.int .i64 a0] w fun e w' => e = .returned (.int .i64 r) ∧ Drawn0 w w' := by
 have H : (some (wrap64 (Go.bits .xor .u64 ((IntKind.u64.wrap (a0)) / 2) (IntKind.u64.wrap (-(Go.bits .and .u64 (IntKind.u64.wrap (a0)) 1)))))) = some r := h
 clear h
 obtain rfl := Option.some.inj H
 go_enter Try.func61, Try.ntmps61
 go_wp2
 go_ret
 exact ⟨by first | rfl | (unfold wrap64; rfl) | (simp; done) | (simp [*]; done), by repeat (first | exact Drawn0.refl _ | apply Drawn0.step)⟩
/-! ### vint_Len: function 62 -/
def vint_Len.f (k : Nat) (a0 : Int) : Option (Int) := (bits_Zig.f a0).bind fun t152 => ((bits_Width.f k t152).bind fun t153 => (some (mx 1 (wrap64 (Int.tdiv (wrap64 ((wrap64 (t153 + 7)) - 1)) 7)))))
theorem vint_Len.mono : ∀ a0 k, LeO (vint_Len.f k a0) (vint_Len.f (k + 1) a0) := by
 intro a0 k
 unfold vint_Len.f
 repeat' first
   | (with_reducible exact bits_Width.mono _ _)
   | (with_reducible exact LeO.refl _)
   | (with_reducible exact LeO.none _)
   | (with_reducible refine LeO.ite ?_ ?_)
   | (with_reducible refine LeO.bind ?_ (fun _ => ?_))
   | exact bits_Width.mono _ _
   | exact LeO.none _
   | refine LeO.ite ?_ ?_
   | refine LeO.bind ?_ (fun _ => ?_)
set_option maxHeartbeats 8000000 in
set_option maxRecDepth 100000 in
theorem vint_Len.calls (k : Nat) (a0 : Int) (r : Int) (w : World) (h : vint_Len.f k a0 = some r) :
  Calls Try.prog 62 #[.int .i64 a0] w fun e w' => e = .returned (.int .i64 r) ∧ Below w.heap.size w w' := by
 have HB := Aside0.mk (Below.refl w.heap.size w)
 have H : ((bits_Zig.f a0).bind fun t152 => ((bits_Width.f k t152).bind fun t153 => (some (mx 1 (wrap64 (Int.tdiv (wrap64 ((wrap64 (t153 + 7)) - 1)) 7)))))) = some r := h
 clear h
 replace H := Option.bind_eq_some_iff.mp H
 obtain ⟨t152, A20, H⟩ := H
 replace H : ((bits_Width.f k t152).bind fun t153 => (some (mx 1 (wrap64 (Int.tdiv (wrap64 ((wrap64 (t153 + 7)) - 1)) 7))))) = some r := H
 have A2 := Aside0.mk A20
 clear A20
 replace H := Option.bind_eq_some_iff.mp H
 obtain ⟨t153, A30, H⟩ := H
 replace H : (some (mx 1 (wrap64 (Int.tdiv (wrap64 ((wrap64 (t153 + 7)) - 1)) 7)))) = some r := H
 have A3 := Aside0.mk A30
 clear A30
 obtain ⟨ji4, hji4⟩ : ∃ j_ : Int, (mx 1 (wrap64 (Int.tdiv (wrap64 ((wrap64 (t153 + 7)) - 1)) 7))) = j_ := ⟨_, rfl⟩
 replace H : (some ji4) = some r := by first | (rw [hji4] at H; exact H) | (simp only [hji4] at H ⊢; exact H)
 (try rw [hji4] at A2)
 (try rw [hji4] at A3)
 (try (have hji4l : 1 ≤ ji4 := by (rw [← hji4]; unfold mx; (repeat' split) <;> omega)))
 (try (have hji4m : 0 ≤ ji4 := by omega))
 have hji4_ : (if 1 < (wrap64 (Int.tdiv (wrap64 ((wrap64 (t153 + 7)) - 1)) 7)) then (wrap64 (Int.tdiv (wrap64 ((wrap64 (t153 + 7)) - 1)) 7)) else 1) = ji4 := hji4
 obtain rfl := Option.some.inj H
 go_enter Try.func62, Try.ntmps62
 go_wp2_with (first | ((with_reducible refine gate_callee (f := 87) rfl ?_); refine goesL_ (some 4) rfl rfl Try.func87 (by kernel_rfl) rfl #[.int .i64 a0] rfl (by (try simp only [List.map_toArray, List.map_cons, List.map_nil]); first | done | rfl) ?_; (with_reducible refine (bits_Zig.calls a0 t152 _ A2.out).mono ?_); rintro e w' ⟨rfl, ⟨nd, rfl⟩⟩; refine ⟨_, rfl, ?_⟩) | ((with_reducible refine gate_callee (f := 86) rfl ?_); refine goesL_ (some 5) rfl rfl Try.func86 (by kernel_rfl) rfl #[.int .i64 t152] rfl (by (try simp only [List.map_toArray, List.map_cons, List.map_nil]); first | done | rfl) ?_; (with_reducible refine (bits_Width.calls k t152 t153 _ A3.out).mono ?_); rintro e w' ⟨rfl, ⟨nd, rfl⟩⟩; refine ⟨_, rfl, ?_⟩))
 go_ret
 exact ⟨by first | rfl | (simp [errW_none, errW_some] <;> rfl) | (simp only [← hji4]; first | rfl | (simp [errW_none, errW_some] <;> rfl)) | (simp [*, errW_none, errW_some] <;> rfl), bh HB.out⟩
end Go.Proofs.Ytfohecpfenegkaa.Print
end
