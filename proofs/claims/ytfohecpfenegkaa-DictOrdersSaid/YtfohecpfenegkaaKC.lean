-- Functions and laws: texts of the session's own and of the kit's print program, joined; what nothing names is left out.
import Derived.Test.YtfohecpfenegkaaKA
import Derived.Test.YtfohecpfenegkaaKB
import Derived.Ground.NamesProg
import Derived.Lib.SortBridge
import Derived.Shelf.Slices.In.SortNone
import Derived.Shelf.Sort.Plain
import Derived.Sort.EveryDepth
import Derived.Sort.OwnSortedInts
section
namespace Go.Proofs.Ytfohecpfenegkaa.Print
open Go.RowKit Go.Proofs.YtfohecpfenegkaaW.PrintWords Go.Proofs.YtfohecpfenegkaaW.PrintLast Go.Proofs.YtfohecpfenegkaaW.PrintMore
attribute [local go_sem] max2_int min2_int max_two min_two max_three min_three max_four min_four   -- for this text's walks alone
set_option linter.unusedVariables false
set_option linter.unusedSimpArgs false
/-! ### peristylelaw11_DictOrders: function 3 -/
mutual
def peristylelaw11_DictOrders.l0 : Nat → List ByteArray → List ByteArray → List Int → List Bool → Int → Option (Bool)
 | 0, _, _, _, _, _ => none
 | k + 1, x0, x3, x4, x5, x6 => if x6 < (x0.length : Int) then (peristylelaw11_DictOrders.j1 k x0 x3 x4 x5 x6 (decide (x6 < (x4.length : Int)))) else (peristylelaw11_DictOrders.j1 k x0 x3 x4 x5 x6 false)
def peristylelaw11_DictOrders.j1 : Nat → List ByteArray → List ByteArray → List Int → List Bool → Int → Bool → Option (Bool)
 | 0, _, _, _, _, _, _ => none
 | k + 1, x0, x3, x4, x5, x6, x35 => if x35 = true then (if 0 ≤ x6 then (if x6 < (x4.length : Int) then (if (rd x4 x6) < 0 then (peristylelaw11_DictOrders.j2 k x0 x3 x4 x5 x6 true) else (if (rd x4 x6) ≥ (x3.length : Int) then (peristylelaw11_DictOrders.j2 k x0 x3 x4 x5 x6 true) else (if 0 ≤ (rd x4 x6) then (if (rd x4 x6) < (x3.length : Int) then (if x6 < (x0.length : Int) then (peristylelaw11_DictOrders.j2 k x0 x3 x4 x5 x6 ((rdOf ByteArray.empty x3 (rd x4 x6)).toList != (rdOf ByteArray.empty x0 x6).toList)) else (none)) else (none)) else (none)))) else (none)) else (none)) else (peristylelaw11_DictOrders.l2 k x5 0)
def peristylelaw11_DictOrders.j2 : Nat → List ByteArray → List ByteArray → List Int → List Bool → Int → Bool → Option (Bool)
 | 0, _, _, _, _, _, _ => none
 | k + 1, x0, x3, x4, x5, x6, x65 => if x65 = true then (some false) else (if 0 ≤ x6 then (if x6 < (x4.length : Int) then (if 0 ≤ (rd x4 x6) then (if (rd x4 x6) < (x5.length : Int) then (peristylelaw11_DictOrders.l1 k x0 x3 x4 (x5.set ((rd x4 x6) : Int).toNat true) x6 0) else (none)) else (none)) else (none)) else (none))
def peristylelaw11_DictOrders.l1 : Nat → List ByteArray → List ByteArray → List Int → List Bool → Int → Int → Option (Bool)
 | 0, _, _, _, _, _, _ => none
 | k + 1, x0, x3, x4, x5, x6, x7 => if x7 < x6 then (if 0 ≤ x7 then (if x7 < (x0.length : Int) then (if 0 ≤ x6 then (if x6 < (x0.length : Int) then (if x7 < (x4.length : Int) then (if x6 < (x4.length : Int) then (if ((Op.bytesLess ((rdOf ByteArray.empty x0 x7).toList) ((rdOf ByteArray.empty x0 x6).toList)) != (decide ((rd x4 x7) < (rd x4 x6)))) = true then (some false) else (if (((rdOf ByteArray.empty x0 x7).toList == (rdOf ByteArray.empty x0 x6).toList) != ((rd x4 x7) == (rd x4 x6))) = true then (some false) else (peristylelaw11_DictOrders.l1 k x0 x3 x4 x5 x6 (wrap64 (x7 + 1))))) else (none)) else (none)) else (none)) else (none)) else (none)) else (none)) else (peristylelaw11_DictOrders.l0 k x0 x3 x4 x5 (wrap64 (x6 + 1)))
def peristylelaw11_DictOrders.l2 : Nat → List Bool → Int → Option (Bool)
 | 0, _, _ => none
 | k + 1, x5, x8 => if x8 < (x5.length : Int) then (if 0 ≤ x8 then (if rdOf false x5 x8 = true then (peristylelaw11_DictOrders.l2 k x5 (wrap64 (x8 + 1))) else (some false)) else (none)) else ((peristylelaw11_awake.f k).bind fun t270 => (some t270))
end
def peristylelaw11_DictOrders.f (k : Nat) (l0 : List ByteArray) : Option (Bool) := (peristyleref07_Few.f k l0 60).bind fun t243 => (if t243 = true then ((dict_Of_string.f k l0).bind fun bt245 => (if (bt245.2.length : Int) = (l0.length : Int) then (if 0 ≤ (bt245.1.length : Int) then (if ((bt245.1.length : Int) : Int).toNat ≤ 281474976710656 then (peristylelaw11_DictOrders.l0 k l0 bt245.1 bt245.2 (List.replicate ((bt245.1.length : Int) : Int).toNat false) 0) else (none)) else (none)) else (some false))) else ((peristylelaw11_awake.f k).bind fun t244 => (some t244)))
theorem peristylelaw11_DictOrders.l0_succ (k : Nat) (x0 : List ByteArray) (x3 : List ByteArray) (x4 : List Int) (x5 : List Bool) (x6 : Int) : peristylelaw11_DictOrders.l0 (k + 1) x0 x3 x4 x5 x6 = (if x6 < (x0.length : Int) then (peristylelaw11_DictOrders.j1 k x0 x3 x4 x5 x6 (decide (x6 < (x4.length : Int)))) else (peristylelaw11_DictOrders.j1 k x0 x3 x4 x5 x6 false)) := by
 simp only [peristylelaw11_DictOrders.l0]
theorem peristylelaw11_DictOrders.j1_succ (k : Nat) (x0 : List ByteArray) (x3 : List ByteArray) (x4 : List Int) (x5 : List Bool) (x6 : Int) (x35 : Bool) : peristylelaw11_DictOrders.j1 (k + 1) x0 x3 x4 x5 x6 x35 = (if x35 = true then (if 0 ≤ x6 then (if x6 < (x4.length : Int) then (if (rd x4 x6) < 0 then (peristylelaw11_DictOrders.j2 k x0 x3 x4 x5 x6 true) else (if (rd x4 x6) ≥ (x3.length : Int) then (peristylelaw11_DictOrders.j2 k x0 x3 x4 x5 x6 true) else (if 0 ≤ (rd x4 x6) then (if (rd x4 x6) < (x3.length : Int) then (if x6 < (x0.length : Int) then (peristylelaw11_DictOrders.j2 k x0 x3 x4 x5 x6 ((rdOf ByteArray.empty x3 (rd x4 x6)).toList != (rdOf ByteArray.empty x0 x6).toList)) else (none)) else (none)) else (none)))) else (none)) else (none)) else (peristylelaw11_DictOrders.l2 k x5 0)) := by
 simp only [peristylelaw11_DictOrders.j1]
theorem peristylelaw11_DictOrders.j2_succ (k : Nat) (x0 : List ByteArray) (x3 : List ByteArray) (x4 : List Int) (x5 : List Bool) (x6 : Int) (x65 : Bool) : peristylelaw11_DictOrders.j2 (k + 1) x0 x3 x4 x5 x6 x65 = (if x65 = true then (some false) else (if 0 ≤ x6 then (if x6 < (x4.length : Int) then (if 0 ≤ (rd x4 x6) then (if (rd x4 x6) < (x5.length : Int) then (peristylelaw11_DictOrders.l1 k x0 x3 x4 (x5.set ((rd x4 x6) : Int).toNat true) x6 0) else (none)) else (none)) else (none)) else (none))) := by
 simp only [peristylelaw11_DictOrders.j2]
theorem peristylelaw11_DictOrders.l1_succ (k : Nat) (x0 : List ByteArray) (x3 : List ByteArray) (x4 : List Int) (x5 : List Bool) (x6 : Int) (x7 : Int) : peristylelaw11_DictOrders.l1 (k + 1) x0 x3 x4 x5 x6 x7 = (if x7 < x6 then (if 0 ≤ x7 then (if x7 < (x0.length : Int) then (if 0 ≤ x6 then (if x6 < (x0.length : Int) then (if x7 < (x4.length : Int) then (if x6 < (x4.length : Int) then (if ((Op.bytesLess ((rdOf ByteArray.empty x0 x7).toList) ((rdOf ByteArray.empty x0 x6).toList)) != (decide ((rd x4 x7) < (rd x4 x6)))) = true then (some false) else (if (((rdOf ByteArray.empty x0 x7).toList == (rdOf ByteArray.empty x0 x6).toList) != ((rd x4 x7) == (rd x4 x6))) = true then (some false) else (peristylelaw11_DictOrders.l1 k x0 x3 x4 x5 x6 (wrap64 (x7 + 1))))) else (none)) else (none)) else (none)) else (none)) else (none)) else (none)) else (peristylelaw11_DictOrders.l0 k x0 x3 x4 x5 (wrap64 (x6 + 1)))) := by
 simp only [peristylelaw11_DictOrders.l1]
theorem peristylelaw11_DictOrders.l2_succ (k : Nat) (x5 : List Bool) (x8 : Int) : peristylelaw11_DictOrders.l2 (k + 1) x5 x8 = (if x8 < (x5.length : Int) then (if 0 ≤ x8 then (if rdOf false x5 x8 = true then (peristylelaw11_DictOrders.l2 k x5 (wrap64 (x8 + 1))) else (some false)) else (none)) else ((peristylelaw11_awake.f k).bind fun t270 => (some t270))) := by
 simp only [peristylelaw11_DictOrders.l2]
set_option maxHeartbeats 8000000 in
set_option maxRecDepth 100000 in
theorem peristylelaw11_DictOrders.calls (k : Nat) (A0 : Option Addr) (c0 : Nat) (l0 : List ByteArray) (r : Bool) (w : World) (hr0 : Kd.C Kd.string w A0 l0.length l0) (hc0 : l0.length ≤ c0) (h : peristylelaw11_DictOrders.f k l0 = some r) :
  Calls Try.prog 3 #[.slice A0 l0.length c0] w fun e w' => e = .returned (.bool r) ∧ Below w.heap.size w w' := by
 have HR0 := Aside0.mk hr0
 have HC0 := Aside0.mk hc0
 clear hr0 hc0
 have HB := Aside0.mk (Below.refl w.heap.size w)
 have H : ((peristyleref07_Few.f k l0 60).bind fun t243 => (if t243 = true then ((dict_Of_string.f k l0).bind fun bt245 => (if (bt245.2.length : Int) = (l0.length : Int) then (if 0 ≤ (bt245.1.length : Int) then (if ((bt245.1.length : Int) : Int).toNat ≤ 281474976710656 then (peristylelaw11_DictOrders.l0 k l0 bt245.1 bt245.2 (List.replicate ((bt245.1.length : Int) : Int).toNat false) 0) else (none)) else (none)) else (some false))) else ((peristylelaw11_awake.f k).bind fun t244 => (some t244)))) = some r := h
 clear h
 replace H := Option.bind_eq_some_iff.mp H
 obtain ⟨t243, A20, H⟩ := H
 replace H : (if t243 = true then ((dict_Of_string.f k l0).bind fun bt245 => (if (bt245.2.length : Int) = (l0.length : Int) then (if 0 ≤ (bt245.1.length : Int) then (if ((bt245.1.length : Int) : Int).toNat ≤ 281474976710656 then (peristylelaw11_DictOrders.l0 k l0 bt245.1 bt245.2 (List.replicate ((bt245.1.length : Int) : Int).toNat false) 0) else (none)) else (none)) else (some false))) else ((peristylelaw11_awake.f k).bind fun t244 => (some t244))) = some r := H
 have A2 := Aside0.mk A20
 clear A20
 by_cases c3 : t243 = true
 ·subst c3
  have H1 : ((dict_Of_string.f k l0).bind fun bt245 => (if (bt245.2.length : Int) = (l0.length : Int) then (if 0 ≤ (bt245.1.length : Int) then (if ((bt245.1.length : Int) : Int).toNat ≤ 281474976710656 then (peristylelaw11_DictOrders.l0 k l0 bt245.1 bt245.2 (List.replicate ((bt245.1.length : Int) : Int).toNat false) 0) else (none)) else (none)) else (some false))) = some r := by rw [if_pos rfl] at H; exact H
  clear H
  have H := H1
  clear H1
  replace H := Option.bind_eq_some_iff.mp H
  obtain ⟨⟨t245, t246⟩, A40, H⟩ := H
  replace H : (if (t246.length : Int) = (l0.length : Int) then (if 0 ≤ (t245.length : Int) then (if ((t245.length : Int) : Int).toNat ≤ 281474976710656 then (peristylelaw11_DictOrders.l0 k l0 t245 t246 (List.replicate ((t245.length : Int) : Int).toNat false) 0) else (none)) else (none)) else (some false)) = some r := H
  have A4 := Aside0.mk A40
  clear A40
  by_cases c5 : (t246.length : Int) = (l0.length : Int)
  ·rw [if_pos c5] at H
   have c5b0 : ((t246.length : Int) == (l0.length : Int)) = true := beq_iff_eq.mpr c5
   have c5b1 : ((t246.length : Int) != (l0.length : Int)) = false := bne_eq_false_iff_eq.mpr c5
   have c5b2 : (t246.length == l0.length) = true := by first | simpa using c5 | (simp at c5 ⊢; omega)
   clear c5
   by_cases c6 : 0 ≤ (t245.length : Int)
   ·rw [if_pos c6] at H
    have c6b0 := eq_true c6
    have c6b1 : decide (0 ≤ (t245.length : Int)) = true := decide_eq_true c6
    clear c6
    by_cases c7 : ((t245.length : Int) : Int).toNat ≤ 281474976710656
    ·rw [if_pos c7] at H
     have c7b0 := eq_true c7
     have c7b1 : decide (((t245.length : Int) : Int).toNat ≤ 281474976710656) = true := decide_eq_true c7
     clear c7
     obtain ⟨y251, hy251⟩ : ∃ y_ : List Bool, y_ = (List.replicate ((t245.length : Int) : Int).toNat false) := ⟨_, rfl⟩
     replace H : (peristylelaw11_DictOrders.l0 k l0 t245 t246 y251 0) = some r := by first | (rw [hy251]; with_reducible exact H) | (have H2_ := (Option.bind_some _ _).symm.trans H; rw [hy251]; with_reducible exact H2_) | (have H2_ := (Option.bind_some _ _).symm.trans H; with_reducible exact H2_) | with_reducible exact H | (rw [hy251]; exact H) | exact H
     have Ny251 := Aside0.mk hy251
     clear hy251
     have H' := Aside0.mk H
     clear H
     go_enter Try.func3, Try.ntmps3
     go_wp2_with (first | (go_at_call 6; (with_reducible refine (peristyleref07_Few.calls k _ _ l0 60 true _ ?side1 ?side2 A2.out).mono ?_); (case side1 => exact cx HR0.out); (case side2 => exact HC0.out); rintro e w' ⟨rfl, ⟨nd, rfl⟩⟩; (try first | exact ⟨rfl, _, World.drewN_drewN _ _ _⟩ | exact ⟨rfl, _, Eq.trans (World.drewN_drewN _ _ _) (congrArg (World.drewN _) (Nat.add_assoc _ _ _))⟩)) | (go_at_call 8; (with_reducible refine (dict_Of_string.calls k _ _ l0 t245 t246 _ ?side1 ?side2 A4.out).mono ?_); (case side1 => exact cx HR0.out); (case side2 => exact HC0.out); rintro e w8 ⟨v247, v249, rfl, ho0, ho1, hb⟩; have HO248 := Aside0.mk (Kd.R_lower ho0 (below_size (bh HB.out))); have HO250 := Aside0.mk (Kd.R_lower ho1 (below_size (bh HB.out))); replace HB := bsa HB hb; (try clear hb); (try clear hk); (try clear ho0); (try clear ho1); obtain ⟨Ao9, co9, eo9⟩ := Kd.R_slice HO250.out; subst eo9; obtain ⟨Ao10, co10, eo10⟩ := Kd.R_slice HO248.out; subst eo10) | ((with_reducible refine gate_dst (N := 25) rfl ?_); (try (refine gate_guard (by rfl) ?_; dsimp only)); refine Kd.R_make Kd.bool _ 4 rfl (N := 25) rfl 28 _ _ rfl (t245.length : Int) rfl rfl Try.underlying28 (.bool false) 1 info4 rfl (by decide) (by omega) false (ok := fun _ => True) (okp := fun _ => True) rfl (fun _ hk => hk) trivial (of_decide_eq_true (by assumption)) (Nat.le_trans (Nat.mul_le_mul_right _ (of_decide_eq_true (by assumption) : (t245.length : Int).toNat ≤ 281474976710656)) (by omega)) (Below.refl _ _) (Nat.le_refl _) ?_; intro v252 w11 ho12 hb hg_ hnew_; clear hg_ hnew_; (first | rw [← Ny251.out] at ho12 | (simp only [Int.reduceToNat] at ho12; rw [← Ny251.out] at ho12)); replace HO248 := rba HO248 hb; replace HO250 := rba HO250 hb; have HO253 := Aside0.mk (Kd.R_lower ho12 (below_size (bh HB.out))); replace HB := bsa HB hb; clear hb ho12))
     repeat (go_quiet (first | (go_at_call 6; (with_reducible refine (peristyleref07_Few.calls k _ _ l0 60 true _ ?side1 ?side2 A2.out).mono ?_); (case side1 => exact cx HR0.out); (case side2 => exact HC0.out); rintro e w' ⟨rfl, ⟨nd, rfl⟩⟩; (try first | exact ⟨rfl, _, World.drewN_drewN _ _ _⟩ | exact ⟨rfl, _, Eq.trans (World.drewN_drewN _ _ _) (congrArg (World.drewN _) (Nat.add_assoc _ _ _))⟩)) | (go_at_call 8; (with_reducible refine (dict_Of_string.calls k _ _ l0 t245 t246 _ ?side1 ?side2 A4.out).mono ?_); (case side1 => exact cx HR0.out); (case side2 => exact HC0.out); rintro e w8 ⟨v247, v249, rfl, ho0, ho1, hb⟩; have HO248 := Aside0.mk (Kd.R_lower ho0 (below_size (bh HB.out))); have HO250 := Aside0.mk (Kd.R_lower ho1 (below_size (bh HB.out))); replace HB := bsa HB hb; (try clear hb); (try clear hk); (try clear ho0); (try clear ho1); obtain ⟨Ao9, co9, eo9⟩ := Kd.R_slice HO250.out; subst eo9; obtain ⟨Ao10, co10, eo10⟩ := Kd.R_slice HO248.out; subst eo10) | ((with_reducible refine gate_dst (N := 25) rfl ?_); (try (refine gate_guard (by rfl) ?_; dsimp only)); refine Kd.R_make Kd.bool _ 4 rfl (N := 25) rfl 28 _ _ rfl (t245.length : Int) rfl rfl Try.underlying28 (.bool false) 1 info4 rfl (by decide) (by omega) false (ok := fun _ => True) (okp := fun _ => True) rfl (fun _ hk => hk) trivial (of_decide_eq_true (by assumption)) (Nat.le_trans (Nat.mul_le_mul_right _ (of_decide_eq_true (by assumption) : (t245.length : Int).toNat ≤ 281474976710656)) (by omega)) (Below.refl _ _) (Nat.le_refl _) ?_; intro v252 w11 ho12 hb hg_ hnew_; clear hg_ hnew_; (first | rw [← Ny251.out] at ho12 | (simp only [Int.reduceToNat] at ho12; rw [← Ny251.out] at ho12)); replace HO248 := rba HO248 hb; replace HO250 := rba HO250 hb; have HO253 := Aside0.mk (Kd.R_lower ho12 (below_size (bh HB.out))); replace HB := bsa HB hb; clear hb ho12)); try go_wp2_with (first | (go_at_call 6; (with_reducible refine (peristyleref07_Few.calls k _ _ l0 60 true _ ?side1 ?side2 A2.out).mono ?_); (case side1 => exact cx HR0.out); (case side2 => exact HC0.out); rintro e w' ⟨rfl, ⟨nd, rfl⟩⟩; (try first | exact ⟨rfl, _, World.drewN_drewN _ _ _⟩ | exact ⟨rfl, _, Eq.trans (World.drewN_drewN _ _ _) (congrArg (World.drewN _) (Nat.add_assoc _ _ _))⟩)) | (go_at_call 8; (with_reducible refine (dict_Of_string.calls k _ _ l0 t245 t246 _ ?side1 ?side2 A4.out).mono ?_); (case side1 => exact cx HR0.out); (case side2 => exact HC0.out); rintro e w8 ⟨v247, v249, rfl, ho0, ho1, hb⟩; have HO248 := Aside0.mk (Kd.R_lower ho0 (below_size (bh HB.out))); have HO250 := Aside0.mk (Kd.R_lower ho1 (below_size (bh HB.out))); replace HB := bsa HB hb; (try clear hb); (try clear hk); (try clear ho0); (try clear ho1); obtain ⟨Ao9, co9, eo9⟩ := Kd.R_slice HO250.out; subst eo9; obtain ⟨Ao10, co10, eo10⟩ := Kd.R_slice HO248.out; subst eo10) | ((with_reducible refine gate_dst (N := 25) rfl ?_); (try (refine gate_guard (by rfl) ?_; dsimp only)); refine Kd.R_make Kd.bool _ 4 rfl (N := 25) rfl 28 _ _ rfl (t245.length : Int) rfl rfl Try.underlying28 (.bool false) 1 info4 rfl (by decide) (by omega) false (ok := fun _ => True) (okp := fun _ => True) rfl (fun _ hk => hk) trivial (of_decide_eq_true (by assumption)) (Nat.le_trans (Nat.mul_le_mul_right _ (of_decide_eq_true (by assumption) : (t245.length : Int).toNat ≤ 281474976710656)) (by omega)) (Below.refl _ _) (Nat.le_refl _) ?_; intro v252 w11 ho12 hb hg_ hnew_; clear hg_ hnew_; (first | rw [← Ny251.out] at ho12 | (simp only [Int.reduceToNat] at ho12; rw [← Ny251.out] at ho12)); replace HO248 := rba HO248 hb; replace HO250 := rba HO250 hb; have HO253 := Aside0.mk (Kd.R_lower ho12 (below_size (bh HB.out))); replace HB := bsa HB hb; clear hb ho12)))
     go_loopg [6] k (fun kq v6 w' => ∃ (x5_1 : List Bool) (x6_1 : Int), v6 = .int .i64 x6_1 ∧ Aside0 (peristylelaw11_DictOrders.l0 kq l0 t245 t246 x5_1 x6_1 = some r) ∧ Aside0 (kq ≤ k) ∧ Aside0 (Kd.R Kd.string 9 w' w.heap.size (fun _ => True) (.slice Ao10 t245.length co10) t245) ∧ Aside0 (Kd.R (Kd.int .i64) 3 w' w.heap.size (fun _ => True) (.slice Ao9 t246.length co9) t246) ∧ Aside0 (Kd.R Kd.bool 4 w' w.heap.size (fun _ => True) v252 x5_1) ∧ Aside0 (Below w.heap.size w w'))
     case atStart => exact ⟨(y251), (0), (by first | rfl | (simp; done) | (simp [*]; done)), H', ⟨Nat.le_refl _⟩, ⟨by (with_reducible repeat (first | apply Kd.R_alloc | apply Kd.R_drewN | apply Kd.R_drew)); exact HO248.out⟩, ⟨by (with_reducible repeat (first | apply Kd.R_alloc | apply Kd.R_drewN | apply Kd.R_drew)); exact HO250.out⟩, ⟨by (with_reducible repeat (first | apply Kd.R_alloc | apply Kd.R_drewN | apply Kd.R_drew)); exact HO253.out⟩, ⟨bh HB.out⟩⟩
     case round =>
      clear H'
      try clear c3
      try clear c5
      try clear c5b0
      try clear c5b1
      try clear c5b2
      try clear c6
      try clear c6b0
      try clear c6b1
      try clear c7
      try clear c7b0
      try clear c7b1
      obtain ⟨x5_1, x6_1, rfl, HA, HK1, HO_3, HO_4, HO_5, HB⟩ := hrel
      cases gk with
      | zero => exact absurd HA.out (by simp [peristylelaw11_DictOrders.l0])
      | succ k1 =>
       have H := HA.out
       clear HA
       simp only [peristylelaw11_DictOrders.l0] at H
       have HC13 := Aside0.mk H
       clear H
       go_upto_region 8 with (fail)
       repeat (go_quiet (fail); go_upto_region 8 with (fail))
       go_cut [35] (fun v35 wc => ∃ (kq : Nat) (x35_12 : Bool), v35 = .bool x35_12 ∧ Aside0 (peristylelaw11_DictOrders.j1 kq l0 t245 t246 x5_1 x6_1 x35_12 = some r) ∧ Aside0 (kq ≤ k1) ∧ Aside0 (Kd.R Kd.string 9 wc w.heap.size (fun _ => True) (.slice Ao10 t245.length co10) t245) ∧ Aside0 (Kd.R (Kd.int .i64) 3 wc w.heap.size (fun _ => True) (.slice Ao9 t246.length co9) t246) ∧ Aside0 (Kd.R Kd.bool 4 wc w.heap.size (fun _ => True) v252 x5_1) ∧ Aside0 (Below w.heap.size w wc))
       case first =>
        have H := HC13.out
        clear HC13
        by_cases c14 : x6_1 < (l0.length : Int)
        ·rw [if_pos c14] at H
         have c14b0 : decide (x6_1 < (l0.length : Int)) = true := decide_eq_true c14
         clear c14
         (first | rw [c14b0] | (simp only [i64_w, i32_w]; rw [c14b0]) | rw [c14b1] | skip)
         have H' := Aside0.mk H
         clear H
         go_wp2
         repeat (go_quiet (fail); try go_wp2)
         go_meet
         case rel => exact ⟨_, (decide (x6_1 < (t246.length : Int))), (by first | rfl | (simp; done) | (simp [*]; done)), H', ⟨by have := HK1.out; first | omega | exact Nat.le_refl _⟩, ⟨by (with_reducible repeat (first | apply Kd.R_alloc | apply Kd.R_drewN | apply Kd.R_drew)); exact HO_3.out⟩, ⟨by (with_reducible repeat (first | apply Kd.R_alloc | apply Kd.R_drewN | apply Kd.R_drew)); exact HO_4.out⟩, ⟨by (with_reducible repeat (first | apply Kd.R_alloc | apply Kd.R_drewN | apply Kd.R_drew)); exact HO_5.out⟩, ⟨bh HB.out⟩⟩
        ·rw [if_neg c14] at H
         have c14b0 : decide (x6_1 < (l0.length : Int)) = false := decide_eq_false c14
         clear c14
         (first | rw [c14b0] | (simp only [i64_w, i32_w]; rw [c14b0]) | rw [c14b1] | skip)
         have H' := Aside0.mk H
         clear H
         go_wp2
         repeat (go_quiet (fail); try go_wp2)
         go_meet
         case rel => exact ⟨_, (false), (by first | rfl | (simp; done) | (simp [*]; done)), H', ⟨by have := HK1.out; first | omega | exact Nat.le_refl _⟩, ⟨by (with_reducible repeat (first | apply Kd.R_alloc | apply Kd.R_drewN | apply Kd.R_drew)); exact HO_3.out⟩, ⟨by (with_reducible repeat (first | apply Kd.R_alloc | apply Kd.R_drewN | apply Kd.R_drew)); exact HO_4.out⟩, ⟨by (with_reducible repeat (first | apply Kd.R_alloc | apply Kd.R_drewN | apply Kd.R_drew)); exact HO_5.out⟩, ⟨bh HB.out⟩⟩
       case rest =>
        clear HC13
        try clear c3
        try clear c5
        try clear c5b0
        try clear c5b1
        try clear c5b2
        try clear c6
        try clear c6b0
        try clear c6b1
        try clear c7
        try clear c7b0
        try clear c7b1
        try clear c14
        try clear c14b0
        obtain ⟨kq, x35_12, rfl, HA, HJ12, HO_3, HO_4, HO_5, HB⟩ := hcut
        cases kq with
        | zero => exact absurd HA.out (by simp [peristylelaw11_DictOrders.j1])
        | succ kj12 =>
         have H := HA.out
         clear HA
         simp only [peristylelaw11_DictOrders.j1] at H
         by_cases c15 : x35_12 = true
         ·subst c15
          have H1 : (if 0 ≤ x6_1 then (if x6_1 < (t246.length : Int) then (if (rd t246 x6_1) < 0 then (peristylelaw11_DictOrders.j2 kj12 l0 t245 t246 x5_1 x6_1 true) else (if (rd t246 x6_1) ≥ (t245.length : Int) then (peristylelaw11_DictOrders.j2 kj12 l0 t245 t246 x5_1 x6_1 true) else (if 0 ≤ (rd t246 x6_1) then (if (rd t246 x6_1) < (t245.length : Int) then (if x6_1 < (l0.length : Int) then (peristylelaw11_DictOrders.j2 kj12 l0 t245 t246 x5_1 x6_1 ((rdOf ByteArray.empty t245 (rd t246 x6_1)).toList != (rdOf ByteArray.empty l0 x6_1).toList)) else (none)) else (none)) else (none)))) else (none)) else (none)) = some r := by rw [if_pos rfl] at H; exact H
          clear H
          have H := H1
          clear H1
          have HC16 := Aside0.mk H
          clear H
          go_upto_region 10 with (fail)
          repeat (go_quiet (fail); go_upto_region 10 with (fail))
          go_cut [65] (fun v65 wc => ∃ (kq : Nat) (x65_15 : Bool), v65 = .bool x65_15 ∧ Aside0 (peristylelaw11_DictOrders.j2 kq l0 t245 t246 x5_1 x6_1 x65_15 = some r) ∧ Aside0 (kq ≤ kj12) ∧ Aside0 (Kd.R Kd.string 9 wc w.heap.size (fun _ => True) (.slice Ao10 t245.length co10) t245) ∧ Aside0 (Kd.R (Kd.int .i64) 3 wc w.heap.size (fun _ => True) (.slice Ao9 t246.length co9) t246) ∧ Aside0 (Kd.R Kd.bool 4 wc w.heap.size (fun _ => True) v252 x5_1) ∧ Aside0 (Below w.heap.size w wc))
          case first =>
           have H := HC16.out
           clear HC16
           by_cases c17 : 0 ≤ x6_1
           ·rw [if_pos c17] at H
            have c17b0 : decide (0 ≤ x6_1) = true := decide_eq_true c17
            clear c17
            (first | rw [c17b0] | (simp only [i64_w, i32_w]; rw [c17b0]) | rw [c17b1] | skip)
            by_cases c18 : x6_1 < (t246.length : Int)
            ·rw [if_pos c18] at H
             have c18b0 : decide (x6_1 < (t246.length : Int)) = true := decide_eq_true c18
             clear c18
             by_cases c19 : (rd t246 x6_1) < 0
             ·rw [if_pos c19] at H
              have c19b0 : decide ((rd t246 x6_1) < 0) = true := decide_eq_true c19
              clear c19
              have H' := Aside0.mk H
              clear H
              have p254 : 0 ≤ (x6_1 : Int) := of_decide_eq_true (by assumption)
              have q254 : x6_1 < (t246.length : Int) := of_decide_eq_true (by assumption)
              obtain ⟨ad254, e254, hx254_0⟩ := Kd.at_int (Kd.R_reads' HO_4.out).2.2 x6_1 p254 q254
              cases e254
              replace p254 := eq_true p254
              replace q254 := eq_true q254
              go_wp2
              repeat (go_quiet (fail); try go_wp2)
              go_meet
              case rel => exact ⟨_, (true), (by first | rfl | (simp; done) | (simp [*]; done)), H', ⟨by have := HK1.out; have := HJ12.out; first | omega | exact Nat.le_refl _⟩, ⟨by (with_reducible repeat (first | apply Kd.R_alloc | apply Kd.R_drewN | apply Kd.R_drew)); exact HO_3.out⟩, ⟨by (with_reducible repeat (first | apply Kd.R_alloc | apply Kd.R_drewN | apply Kd.R_drew)); exact HO_4.out⟩, ⟨by (with_reducible repeat (first | apply Kd.R_alloc | apply Kd.R_drewN | apply Kd.R_drew)); exact HO_5.out⟩, ⟨bh HB.out⟩⟩
             ·rw [if_neg c19] at H
              have c19b0 : decide ((rd t246 x6_1) < 0) = false := decide_eq_false c19
              clear c19
              by_cases c20 : (rd t246 x6_1) ≥ (t245.length : Int)
              ·rw [if_pos c20] at H
               have c20b0 : decide ((t245.length : Int) ≤ (rd t246 x6_1)) = true := decide_eq_true c20
               clear c20
               have H' := Aside0.mk H
               clear H
               have p254 : 0 ≤ (x6_1 : Int) := of_decide_eq_true (by assumption)
               have q254 : x6_1 < (t246.length : Int) := of_decide_eq_true (by assumption)
               obtain ⟨ad254, e254, hx254_0⟩ := Kd.at_int (Kd.R_reads' HO_4.out).2.2 x6_1 p254 q254
               cases e254
               replace p254 := eq_true p254
               replace q254 := eq_true q254
               have p255 : 0 ≤ (x6_1 : Int) := of_decide_eq_true (by assumption)
               have q255 : x6_1 < (t246.length : Int) := of_decide_eq_true (by assumption)
               obtain ⟨ad255, e255, hx255_0⟩ := Kd.at_int (Kd.R_reads' HO_4.out).2.2 x6_1 p255 q255
               obtain rfl : ad254 = ad255 := (by injection e255)
               replace p255 := eq_true p255
               replace q255 := eq_true q255
               go_wp2
               repeat (go_quiet (fail); try go_wp2)
               go_meet
               case rel => exact ⟨_, (true), (by first | rfl | (simp; done) | (simp [*]; done)), H', ⟨by have := HK1.out; have := HJ12.out; first | omega | exact Nat.le_refl _⟩, ⟨by (with_reducible repeat (first | apply Kd.R_alloc | apply Kd.R_drewN | apply Kd.R_drew)); exact HO_3.out⟩, ⟨by (with_reducible repeat (first | apply Kd.R_alloc | apply Kd.R_drewN | apply Kd.R_drew)); exact HO_4.out⟩, ⟨by (with_reducible repeat (first | apply Kd.R_alloc | apply Kd.R_drewN | apply Kd.R_drew)); exact HO_5.out⟩, ⟨bh HB.out⟩⟩
              ·rw [if_neg c20] at H
               have c20b0 : decide ((t245.length : Int) ≤ (rd t246 x6_1)) = false := decide_eq_false c20
               clear c20
               by_cases c21 : 0 ≤ (rd t246 x6_1)
               ·rw [if_pos c21] at H
                have c21b0 : decide (0 ≤ (rd t246 x6_1)) = true := decide_eq_true c21
                clear c21
                by_cases c22 : (rd t246 x6_1) < (t245.length : Int)
                ·rw [if_pos c22] at H
                 have c22b0 : decide ((rd t246 x6_1) < (t245.length : Int)) = true := decide_eq_true c22
                 clear c22
                 by_cases c23 : x6_1 < (l0.length : Int)
                 ·rw [if_pos c23] at H
                  have c23b0 : decide (x6_1 < (l0.length : Int)) = true := decide_eq_true c23
                  clear c23
                  have H' := Aside0.mk H
                  clear H
                  have p254 : 0 ≤ (x6_1 : Int) := of_decide_eq_true (by assumption)
                  have q254 : x6_1 < (t246.length : Int) := of_decide_eq_true (by assumption)
                  obtain ⟨ad254, e254, hx254_0⟩ := Kd.at_int (Kd.R_reads' HO_4.out).2.2 x6_1 p254 q254
                  cases e254
                  replace p254 := eq_true p254
                  replace q254 := eq_true q254
                  have p255 : 0 ≤ (x6_1 : Int) := of_decide_eq_true (by assumption)
                  have q255 : x6_1 < (t246.length : Int) := of_decide_eq_true (by assumption)
                  obtain ⟨ad255, e255, hx255_0⟩ := Kd.at_int (Kd.R_reads' HO_4.out).2.2 x6_1 p255 q255
                  obtain rfl : ad254 = ad255 := (by injection e255)
                  replace p255 := eq_true p255
                  replace q255 := eq_true q255
                  have p256 : 0 ≤ (x6_1 : Int) := of_decide_eq_true (by assumption)
                  have q256 : x6_1 < (t246.length : Int) := of_decide_eq_true (by assumption)
                  obtain ⟨ad256, e256, hx256_0⟩ := Kd.at_int (Kd.R_reads' HO_4.out).2.2 x6_1 p256 q256
                  obtain rfl : ad254 = ad256 := (by injection e256)
                  replace p256 := eq_true p256
                  replace q256 := eq_true q256
                  have p257 : 0 ≤ ((rd t246 x6_1) : Int) := of_decide_eq_true (by assumption)
                  have q257 : (rd t246 x6_1) < (t245.length : Int) := of_decide_eq_true (by assumption)
                  obtain ⟨ad257, e257, hx257_0⟩ := Kd.at_string (Kd.R_reads' HO_3.out).2.2 (rd t246 x6_1) p257 q257
                  cases e257
                  replace p257 := eq_true p257
                  replace q257 := eq_true q257
                  have p258 : 0 ≤ (x6_1 : Int) := of_decide_eq_true (by assumption)
                  have q258 : x6_1 < (l0.length : Int) := of_decide_eq_true (by assumption)
                  obtain ⟨ad258, e258, hx258_0⟩ := Kd.at_string HR0.out x6_1 p258 q258
                  cases e258
                  replace hx258_0 := (HB.out.cell (World.block_lt_of_cell? w _ hx258_0)).trans hx258_0
                  replace p258 := eq_true p258
                  replace q258 := eq_true q258
                  go_wp2
                  repeat (go_quiet (fail); try go_wp2)
                  go_meet
                  case rel => exact ⟨_, (((rdOf ByteArray.empty t245 (rd t246 x6_1)).toList != (rdOf ByteArray.empty l0 x6_1).toList)), (by first | rfl | (simp; done) | (simp [*]; done)), H', ⟨by have := HK1.out; have := HJ12.out; first | omega | exact Nat.le_refl _⟩, ⟨by (with_reducible repeat (first | apply Kd.R_alloc | apply Kd.R_drewN | apply Kd.R_drew)); exact HO_3.out⟩, ⟨by (with_reducible repeat (first | apply Kd.R_alloc | apply Kd.R_drewN | apply Kd.R_drew)); exact HO_4.out⟩, ⟨by (with_reducible repeat (first | apply Kd.R_alloc | apply Kd.R_drewN | apply Kd.R_drew)); exact HO_5.out⟩, ⟨bh HB.out⟩⟩
                 ·rw [if_neg c23] at H
                  exact absurd H (by simp)
                ·rw [if_neg c22] at H
                 exact absurd H (by simp)
               ·rw [if_neg c21] at H
                exact absurd H (by simp)
            ·rw [if_neg c18] at H
             exact absurd H (by simp)
           ·rw [if_neg c17] at H
            exact absurd H (by simp)
          case rest =>
           clear HC16
           try clear c3
           try clear c5
           try clear c5b0
           try clear c5b1
           try clear c5b2
           try clear c6
           try clear c6b0
           try clear c6b1
           try clear c7
           try clear c7b0
           try clear c7b1
           try clear c14
           try clear c14b0
           try clear c15
           try clear c17
           try clear c17b0
           try clear c18
           try clear c18b0
           try clear c19
           try clear c19b0
           try clear c20
           try clear c20b0
           try clear c21
           try clear c21b0
           try clear c22
           try clear c22b0
           try clear c23
           try clear c23b0
           try clear hx254_0
           try clear hx255_0
           try clear hx256_0
           try clear hx257_0
           try clear hx258_0
           try clear p254
           try clear p255
           try clear p256
           try clear p257
           try clear p258
           try clear q254
           try clear q255
           try clear q256
           try clear q257
           try clear q258
           obtain ⟨kq, x65_15, rfl, HA, HJ15, HO_3, HO_4, HO_5, HB⟩ := hcut
           cases kq with
           | zero => exact absurd HA.out (by simp [peristylelaw11_DictOrders.j2])
           | succ kj15 =>
            have H := HA.out
            clear HA
            simp only [peristylelaw11_DictOrders.j2] at H
            by_cases c24 : x65_15 = true
            ·subst c24
             have H1 : (some false) = some r := by rw [if_pos rfl] at H; exact H
             clear H
             have H := H1
             clear H1
             obtain rfl := Option.some.inj H
             go_wp2
             repeat (go_quiet (fail); try go_wp2)
             go_ret
             exact ⟨er, bh HB.out⟩
            ·replace c24 := Bool.eq_false_iff.mpr c24
             subst c24
             have H1 : (if 0 ≤ x6_1 then (if x6_1 < (t246.length : Int) then (if 0 ≤ (rd t246 x6_1) then (if (rd t246 x6_1) < (x5_1.length : Int) then (peristylelaw11_DictOrders.l1 kj15 l0 t245 t246 (x5_1.set ((rd t246 x6_1) : Int).toNat true) x6_1 0) else (none)) else (none)) else (none)) else (none)) = some r := by rw [if_neg (show ¬ (false = true) by decide)] at H; exact H
             clear H
             have H := H1
             clear H1
             by_cases c25 : 0 ≤ x6_1
             ·rw [if_pos c25] at H
              have c25b0 : decide (0 ≤ x6_1) = true := decide_eq_true c25
              clear c25
              by_cases c26 : x6_1 < (t246.length : Int)
              ·rw [if_pos c26] at H
               have c26b0 : decide (x6_1 < (t246.length : Int)) = true := decide_eq_true c26
               clear c26
               by_cases c27 : 0 ≤ (rd t246 x6_1)
               ·rw [if_pos c27] at H
                have c27b0 : decide (0 ≤ (rd t246 x6_1)) = true := decide_eq_true c27
                clear c27
                by_cases c28 : (rd t246 x6_1) < (x5_1.length : Int)
                ·rw [if_pos c28] at H
                 have c28b0 : decide ((rd t246 x6_1) < (x5_1.length : Int)) = true := decide_eq_true c28
                 clear c28
                 obtain ⟨y260, hy260⟩ : ∃ y_ : List Bool, y_ = (x5_1.set ((rd t246 x6_1) : Int).toNat true) := ⟨_, rfl⟩
                 replace H : (peristylelaw11_DictOrders.l1 kj15 l0 t245 t246 y260 x6_1 0) = some r := by first | (rw [hy260]; with_reducible exact H) | (have H2_ := (Option.bind_some _ _).symm.trans H; rw [hy260]; with_reducible exact H2_) | (have H2_ := (Option.bind_some _ _).symm.trans H; with_reducible exact H2_) | with_reducible exact H | (rw [hy260]; exact H) | exact H
                 have Ny260 := Aside0.mk hy260
                 clear hy260
                 have H' := Aside0.mk H
                 clear H
                 have p259 : 0 ≤ (x6_1 : Int) := of_decide_eq_true (by assumption)
                 have q259 : x6_1 < (t246.length : Int) := of_decide_eq_true (by assumption)
                 obtain ⟨ad259, e259, hx259_0⟩ := Kd.at_int (Kd.R_reads' HO_4.out).2.2 x6_1 p259 q259
                 cases e259
                 replace p259 := eq_true p259
                 replace q259 := eq_true q259
                 have p29 : 0 ≤ ((rd t246 x6_1) : Int) := of_decide_eq_true (by assumption)
                 have q29 : ((rd t246 x6_1) : Int) < ((x5_1.length : Int) : Int) := of_decide_eq_true (by assumption)
                 obtain ⟨go29, co29, eo29, gb29, gl29, cl29, HG29⟩ := Kd.R_form HO_5.out (by omega)
                 (first | cases eo29 | (injection eo29 with ea_ en_ ec_; (first | subst ea_ | (injection ea_ with ea_; subst ea_)); subst ec_; clear en_))
                 have GB29 := Aside0.mk gb29
                 have GG29 := Aside0.mk HG29
                 clear gb29 gl29 HG29
                 obtain ⟨hx29_0, hf29_0⟩ := Kd.R_celln false HO_5.out ((rd t246 x6_1) : Int) p29 q29
                 replace p29 := eq_true p29
                 replace q29 := eq_true q29
                 have HP30 := Kd.R_putg HO_5.out ((rd t246 x6_1) : Int) true
                 go_wp2_with (first | ((with_reducible refine gate_store (t := 4) (p := 71) rfl ?_); (try (rw [drewN_self wc]; generalize hq_ : World.drewN wc _ = wc; have n0_ := Aside0.mk (Kd.R_at hq_ HO_3.out); have n1_ := Aside0.mk (Kd.R_at hq_ HO_4.out); have n2_ := Aside0.mk (Kd.R_at hq_ HO_5.out); have n3_ := Aside0.mk (below_at hq_ HB.out); clear hq_ HO_3 HO_4 HO_5 HB; have HO_3 := n0_; have HO_4 := n1_; have HO_5 := n2_; have HB := n3_; clear n0_ n1_ n2_ n3_; (try (have HP30 := Kd.R_putg HO_5.out ((rd t246 x6_1) : Int) true)))); refine store_event (t := 4) (p := 71) (v := ?vo_w31) (w1 := (wc.setCell ⟨go29, ((rd t246 x6_1) : Int).toNat, none⟩ (.bool true))) ?hg ?ho ?hn ?hr ?_; (case ho => rfl); (case hg => rfl); (case hn => rfl); (case hr => first | (go_simp; done) | (go_simp; rfl)); intro w31 hw; have hg : wc.grownBy w31 (some go29) := (by rw [hw]; exact HP30.2); have hp_ : Kd.R Kd.bool 4 w31 w.heap.size (fun _ => True) (.slice (some ⟨go29, 0, none⟩) x5_1.length co29) y260 := (by rw [hw, Ny260.out]; exact HP30.1); clear HP30; replace HO_3 := Aside0.mk (Kd.R_over' (v := (.slice (some ⟨go29, 0, none⟩) x5_1.length co29)) (rx HO_3.out) (Kd.R_typed HO_5.out) (by decide) hg); replace HO_4 := Aside0.mk (Kd.R_over' (v := (.slice (some ⟨go29, 0, none⟩) x5_1.length co29)) (rx HO_4.out) (Kd.R_typed HO_5.out) (by decide) hg); replace HO_5 := Aside0.mk (hp_); replace HB := Aside0.mk ((by rw [hw]; exact below_set (HB.out) GB29.out : Below w.heap.size w w31)); clear hg hw hp_))
                 repeat (go_quiet (first | ((with_reducible refine gate_store (t := 4) (p := 71) rfl ?_); (try (rw [drewN_self wc]; generalize hq_ : World.drewN wc _ = wc; have n0_ := Aside0.mk (Kd.R_at hq_ HO_3.out); have n1_ := Aside0.mk (Kd.R_at hq_ HO_4.out); have n2_ := Aside0.mk (Kd.R_at hq_ HO_5.out); have n3_ := Aside0.mk (below_at hq_ HB.out); clear hq_ HO_3 HO_4 HO_5 HB; have HO_3 := n0_; have HO_4 := n1_; have HO_5 := n2_; have HB := n3_; clear n0_ n1_ n2_ n3_; (try (have HP30 := Kd.R_putg HO_5.out ((rd t246 x6_1) : Int) true)))); refine store_event (t := 4) (p := 71) (v := ?vo_w31) (w1 := (wc.setCell ⟨go29, ((rd t246 x6_1) : Int).toNat, none⟩ (.bool true))) ?hg ?ho ?hn ?hr ?_; (case ho => rfl); (case hg => rfl); (case hn => rfl); (case hr => first | (go_simp; done) | (go_simp; rfl)); intro w31 hw; have hg : wc.grownBy w31 (some go29) := (by rw [hw]; exact HP30.2); have hp_ : Kd.R Kd.bool 4 w31 w.heap.size (fun _ => True) (.slice (some ⟨go29, 0, none⟩) x5_1.length co29) y260 := (by rw [hw, Ny260.out]; exact HP30.1); clear HP30; replace HO_3 := Aside0.mk (Kd.R_over' (v := (.slice (some ⟨go29, 0, none⟩) x5_1.length co29)) (rx HO_3.out) (Kd.R_typed HO_5.out) (by decide) hg); replace HO_4 := Aside0.mk (Kd.R_over' (v := (.slice (some ⟨go29, 0, none⟩) x5_1.length co29)) (rx HO_4.out) (Kd.R_typed HO_5.out) (by decide) hg); replace HO_5 := Aside0.mk (hp_); replace HB := Aside0.mk ((by rw [hw]; exact below_set (HB.out) GB29.out : Below w.heap.size w w31)); clear hg hw hp_)); try go_wp2_with (first | ((with_reducible refine gate_store (t := 4) (p := 71) rfl ?_); (try (rw [drewN_self wc]; generalize hq_ : World.drewN wc _ = wc; have n0_ := Aside0.mk (Kd.R_at hq_ HO_3.out); have n1_ := Aside0.mk (Kd.R_at hq_ HO_4.out); have n2_ := Aside0.mk (Kd.R_at hq_ HO_5.out); have n3_ := Aside0.mk (below_at hq_ HB.out); clear hq_ HO_3 HO_4 HO_5 HB; have HO_3 := n0_; have HO_4 := n1_; have HO_5 := n2_; have HB := n3_; clear n0_ n1_ n2_ n3_; (try (have HP30 := Kd.R_putg HO_5.out ((rd t246 x6_1) : Int) true)))); refine store_event (t := 4) (p := 71) (v := ?vo_w31) (w1 := (wc.setCell ⟨go29, ((rd t246 x6_1) : Int).toNat, none⟩ (.bool true))) ?hg ?ho ?hn ?hr ?_; (case ho => rfl); (case hg => rfl); (case hn => rfl); (case hr => first | (go_simp; done) | (go_simp; rfl)); intro w31 hw; have hg : wc.grownBy w31 (some go29) := (by rw [hw]; exact HP30.2); have hp_ : Kd.R Kd.bool 4 w31 w.heap.size (fun _ => True) (.slice (some ⟨go29, 0, none⟩) x5_1.length co29) y260 := (by rw [hw, Ny260.out]; exact HP30.1); clear HP30; replace HO_3 := Aside0.mk (Kd.R_over' (v := (.slice (some ⟨go29, 0, none⟩) x5_1.length co29)) (rx HO_3.out) (Kd.R_typed HO_5.out) (by decide) hg); replace HO_4 := Aside0.mk (Kd.R_over' (v := (.slice (some ⟨go29, 0, none⟩) x5_1.length co29)) (rx HO_4.out) (Kd.R_typed HO_5.out) (by decide) hg); replace HO_5 := Aside0.mk (hp_); replace HB := Aside0.mk ((by rw [hw]; exact below_set (HB.out) GB29.out : Below w.heap.size w w31)); clear hg hw hp_)))
                 go_loopg [7] kj15 (fun kq v7 w' => ∃ (x7_4 : Int), v7 = .int .i64 x7_4 ∧ Aside0 (peristylelaw11_DictOrders.l1 kq l0 t245 t246 y260 x6_1 x7_4 = some r) ∧ Aside0 (kq ≤ kj15) ∧ Aside0 (Kd.R Kd.string 9 w' w.heap.size (fun _ => True) (.slice Ao10 t245.length co10) t245) ∧ Aside0 (Kd.R (Kd.int .i64) 3 w' w.heap.size (fun _ => True) (.slice (some ad259) t246.length co9) t246) ∧ Aside0 (Kd.R Kd.bool 4 w' w.heap.size (fun _ => True) (.slice (some ⟨go29, 0, none⟩) x5_1.length co29) y260) ∧ Aside0 (Below w.heap.size w w'))
                 case atStart => exact ⟨(0), (by first | rfl | (simp; done) | (simp [*]; done)), H', ⟨Nat.le_refl _⟩, ⟨by (with_reducible repeat (first | apply Kd.R_alloc | apply Kd.R_drewN | apply Kd.R_drew)); exact HO_3.out⟩, ⟨by (with_reducible repeat (first | apply Kd.R_alloc | apply Kd.R_drewN | apply Kd.R_drew)); exact HO_4.out⟩, ⟨by (with_reducible repeat (first | apply Kd.R_alloc | apply Kd.R_drewN | apply Kd.R_drew)); exact HO_5.out⟩, ⟨bh HB.out⟩⟩
                 case round =>
                  clear H'
                  try clear c3
                  try clear c5
                  try clear c5b0
                  try clear c5b1
                  try clear c5b2
                  try clear c6
                  try clear c6b0
                  try clear c6b1
                  try clear c7
                  try clear c7b0
                  try clear c7b1
                  try clear c14
                  try clear c14b0
                  try clear c15
                  try clear c17
                  try clear c17b0
                  try clear c18
                  try clear c18b0
                  try clear c19
                  try clear c19b0
                  try clear c20
                  try clear c20b0
                  try clear c21
                  try clear c21b0
                  try clear c22
                  try clear c22b0
                  try clear c23
                  try clear c23b0
                  try clear c24
                  try clear c25
                  try clear c25b0
                  try clear c26
                  try clear c26b0
                  try clear c27
                  try clear c27b0
                  try clear c28
                  try clear c28b0
                  try clear p29
                  try clear q29
                  try clear hx254_0
                  try clear hx255_0
                  try clear hx256_0
                  try clear hx257_0
                  try clear hx258_0
                  try clear hx259_0
                  try clear hx29_0
                  try clear p254
                  try clear p255
                  try clear p256
                  try clear p257
                  try clear p258
                  try clear p259
                  try clear p29
                  try clear q254
                  try clear q255
                  try clear q256
                  try clear q257
                  try clear q258
                  try clear q259
                  try clear q29
                  obtain ⟨x7_4, rfl, HA, HK4, HO_3, HO_4, HO_5, HB⟩ := hrel
                  have hl5_4 := (Kd.R_reads' HO_5.out).1
                  rw [hl5_4] at HO_5
                  (try simp only [hl5_4])
                  (try simp only [hl5_4] at HO_3)
                  (try simp only [hl5_4] at HO_4)
                  cases gk with
                  | zero => exact absurd HA.out (by simp [peristylelaw11_DictOrders.l1])
                  | succ k4 =>
                   have H := HA.out
                   clear HA
                   simp only [peristylelaw11_DictOrders.l1] at H
                   by_cases c32 : x7_4 < x6_1
                   ·rw [if_pos c32] at H
                    have c32b0 : decide (x7_4 < x6_1) = true := decide_eq_true c32
                    clear c32
                    by_cases c33 : 0 ≤ x7_4
                    ·rw [if_pos c33] at H
                     have c33b0 : decide (0 ≤ x7_4) = true := decide_eq_true c33
                     clear c33
                     by_cases c34 : x7_4 < (l0.length : Int)
                     ·rw [if_pos c34] at H
                      have c34b0 : decide (x7_4 < (l0.length : Int)) = true := decide_eq_true c34
                      (try (have c34b0l := c34b0; simp only [hl5_4] at c34b0l))
                      clear c34
                      by_cases c35 : 0 ≤ x6_1
                      ·rw [if_pos c35] at H
                       have c35b0 : decide (0 ≤ x6_1) = true := decide_eq_true c35
                       clear c35
                       by_cases c36 : x6_1 < (l0.length : Int)
                       ·rw [if_pos c36] at H
                        have c36b0 : decide (x6_1 < (l0.length : Int)) = true := decide_eq_true c36
                        (try (have c36b0l := c36b0; simp only [hl5_4] at c36b0l))
                        clear c36
                        by_cases c37 : x7_4 < (t246.length : Int)
                        ·rw [if_pos c37] at H
                         have c37b0 : decide (x7_4 < (t246.length : Int)) = true := decide_eq_true c37
                         (try (have c37b0l := c37b0; simp only [hl5_4] at c37b0l))
                         clear c37
                         by_cases c38 : x6_1 < (t246.length : Int)
                         ·rw [if_pos c38] at H
                          have c38b0 : decide (x6_1 < (t246.length : Int)) = true := decide_eq_true c38
                          (try (have c38b0l := c38b0; simp only [hl5_4] at c38b0l))
                          clear c38
                          by_cases c39 : ((Op.bytesLess ((rdOf ByteArray.empty l0 x7_4).toList) ((rdOf ByteArray.empty l0 x6_1).toList)) != (decide ((rd t246 x7_4) < (rd t246 x6_1)))) = true
                          ·rw [if_pos c39] at H
                           have c39b0 : ((Op.bytesLess ((rdOf ByteArray.empty l0 x7_4).toList) ((rdOf ByteArray.empty l0 x6_1).toList)) != (decide ((rd t246 x7_4) < (rd t246 x6_1)))) = true := c39
                           (try (have c39b1 : decide ((Op.bytesLess ((rdOf ByteArray.empty l0 x7_4).toList) ((rdOf ByteArray.empty l0 x6_1).toList)) = (decide ((rd t246 x7_4) < (rd t246 x6_1)))) = false := by simpa using c39))
                           (try (have c39b2 : ((Op.bytesLess ((rdOf ByteArray.empty l0 x7_4).toList) ((rdOf ByteArray.empty l0 x6_1).toList)) == (decide ((rd t246 x7_4) < (rd t246 x6_1)))) = false := by simpa using c39))
                           (try (have c39b3 : ¬ ((Op.bytesLess ((rdOf ByteArray.empty l0 x7_4).toList) ((rdOf ByteArray.empty l0 x6_1).toList)) = (decide ((rd t246 x7_4) < (rd t246 x6_1)))) := by simpa using c39))
                           clear c39
                           obtain rfl := Option.some.inj H
                           have p261 : 0 ≤ (x7_4 : Int) := of_decide_eq_true (by assumption)
                           have q261 : x7_4 < (l0.length : Int) := of_decide_eq_true (by assumption)
                           obtain ⟨ad261, e261, hx261_0⟩ := Kd.at_string HR0.out x7_4 p261 q261
                           cases e261
                           replace hx261_0 := (HB.out.cell (World.block_lt_of_cell? w _ hx261_0)).trans hx261_0
                           replace p261 := eq_true p261
                           replace q261 := eq_true q261
                           have p262 : 0 ≤ (x6_1 : Int) := of_decide_eq_true (by assumption)
                           have q262 : x6_1 < (l0.length : Int) := of_decide_eq_true (by assumption)
                           obtain ⟨ad262, e262, hx262_0⟩ := Kd.at_string HR0.out x6_1 p262 q262
                           obtain rfl : ad261 = ad262 := (by injection e262)
                           replace hx262_0 := (HB.out.cell (World.block_lt_of_cell? w _ hx262_0)).trans hx262_0
                           replace p262 := eq_true p262
                           replace q262 := eq_true q262
                           have p263 : 0 ≤ (x7_4 : Int) := of_decide_eq_true (by assumption)
                           have q263 : x7_4 < (t246.length : Int) := of_decide_eq_true (by assumption)
                           obtain ⟨ad263, e263, hx263_0⟩ := Kd.at_int (Kd.R_reads' HO_4.out).2.2 x7_4 p263 q263
                           obtain rfl : ad259 = ad263 := (by injection e263)
                           replace p263 := eq_true p263
                           replace q263 := eq_true q263
                           have p264 : 0 ≤ (x6_1 : Int) := of_decide_eq_true (by assumption)
                           have q264 : x6_1 < (t246.length : Int) := of_decide_eq_true (by assumption)
                           obtain ⟨ad264, e264, hx264_0⟩ := Kd.at_int (Kd.R_reads' HO_4.out).2.2 x6_1 p264 q264
                           obtain rfl : ad259 = ad264 := (by injection e264)
                           replace p264 := eq_true p264
                           replace q264 := eq_true q264
                           go_wp2
                           repeat (go_quiet (fail); try go_wp2)
                           go_ret
                           exact ⟨er, bh HB.out⟩
                          ·rw [if_neg c39] at H
                           have c39b0 : ((Op.bytesLess ((rdOf ByteArray.empty l0 x7_4).toList) ((rdOf ByteArray.empty l0 x6_1).toList)) != (decide ((rd t246 x7_4) < (rd t246 x6_1)))) = false := by simpa using c39
                           (try (have c39b1 : decide ((Op.bytesLess ((rdOf ByteArray.empty l0 x7_4).toList) ((rdOf ByteArray.empty l0 x6_1).toList)) = (decide ((rd t246 x7_4) < (rd t246 x6_1)))) = true := by simpa using c39))
                           (try (have c39b2 : ((Op.bytesLess ((rdOf ByteArray.empty l0 x7_4).toList) ((rdOf ByteArray.empty l0 x6_1).toList)) == (decide ((rd t246 x7_4) < (rd t246 x6_1)))) = true := by simpa using c39))
                           clear c39
                           by_cases c40 : (((rdOf ByteArray.empty l0 x7_4).toList == (rdOf ByteArray.empty l0 x6_1).toList) != ((rd t246 x7_4) == (rd t246 x6_1))) = true
                           ·rw [if_pos c40] at H
                            have c40b0 : (((rdOf ByteArray.empty l0 x7_4).toList == (rdOf ByteArray.empty l0 x6_1).toList) != ((rd t246 x7_4) == (rd t246 x6_1))) = true := c40
                            (try (have c40b1 : decide (((rdOf ByteArray.empty l0 x7_4).toList == (rdOf ByteArray.empty l0 x6_1).toList) = ((rd t246 x7_4) == (rd t246 x6_1))) = false := by simpa using c40))
                            (try (have c40b2 : (((rdOf ByteArray.empty l0 x7_4).toList == (rdOf ByteArray.empty l0 x6_1).toList) == ((rd t246 x7_4) == (rd t246 x6_1))) = false := by simpa using c40))
                            (try (have c40b3 : ¬ (((rdOf ByteArray.empty l0 x7_4).toList == (rdOf ByteArray.empty l0 x6_1).toList) = ((rd t246 x7_4) == (rd t246 x6_1))) := by simpa using c40))
                            clear c40
                            obtain rfl := Option.some.inj H
                            have p261 : 0 ≤ (x7_4 : Int) := of_decide_eq_true (by assumption)
                            have q261 : x7_4 < (l0.length : Int) := of_decide_eq_true (by assumption)
                            obtain ⟨ad261, e261, hx261_0⟩ := Kd.at_string HR0.out x7_4 p261 q261
                            cases e261
                            replace hx261_0 := (HB.out.cell (World.block_lt_of_cell? w _ hx261_0)).trans hx261_0
                            replace p261 := eq_true p261
                            replace q261 := eq_true q261
                            have p262 : 0 ≤ (x6_1 : Int) := of_decide_eq_true (by assumption)
                            have q262 : x6_1 < (l0.length : Int) := of_decide_eq_true (by assumption)
                            obtain ⟨ad262, e262, hx262_0⟩ := Kd.at_string HR0.out x6_1 p262 q262
                            obtain rfl : ad261 = ad262 := (by injection e262)
                            replace hx262_0 := (HB.out.cell (World.block_lt_of_cell? w _ hx262_0)).trans hx262_0
                            replace p262 := eq_true p262
                            replace q262 := eq_true q262
                            have p263 : 0 ≤ (x7_4 : Int) := of_decide_eq_true (by assumption)
                            have q263 : x7_4 < (t246.length : Int) := of_decide_eq_true (by assumption)
                            obtain ⟨ad263, e263, hx263_0⟩ := Kd.at_int (Kd.R_reads' HO_4.out).2.2 x7_4 p263 q263
                            obtain rfl : ad259 = ad263 := (by injection e263)
                            replace p263 := eq_true p263
                            replace q263 := eq_true q263
                            have p264 : 0 ≤ (x6_1 : Int) := of_decide_eq_true (by assumption)
                            have q264 : x6_1 < (t246.length : Int) := of_decide_eq_true (by assumption)
                            obtain ⟨ad264, e264, hx264_0⟩ := Kd.at_int (Kd.R_reads' HO_4.out).2.2 x6_1 p264 q264
                            obtain rfl : ad259 = ad264 := (by injection e264)
                            replace p264 := eq_true p264
                            replace q264 := eq_true q264
                            have p265 : 0 ≤ (x7_4 : Int) := of_decide_eq_true (by assumption)
                            have q265 : x7_4 < (l0.length : Int) := of_decide_eq_true (by assumption)
                            obtain ⟨ad265, e265, hx265_0⟩ := Kd.at_string HR0.out x7_4 p265 q265
                            obtain rfl : ad261 = ad265 := (by injection e265)
                            replace hx265_0 := (HB.out.cell (World.block_lt_of_cell? w _ hx265_0)).trans hx265_0
                            replace p265 := eq_true p265
                            replace q265 := eq_true q265
                            have p266 : 0 ≤ (x6_1 : Int) := of_decide_eq_true (by assumption)
                            have q266 : x6_1 < (l0.length : Int) := of_decide_eq_true (by assumption)
                            obtain ⟨ad266, e266, hx266_0⟩ := Kd.at_string HR0.out x6_1 p266 q266
                            obtain rfl : ad261 = ad266 := (by injection e266)
                            replace hx266_0 := (HB.out.cell (World.block_lt_of_cell? w _ hx266_0)).trans hx266_0
                            replace p266 := eq_true p266
                            replace q266 := eq_true q266
                            have p267 : 0 ≤ (x7_4 : Int) := of_decide_eq_true (by assumption)
                            have q267 : x7_4 < (t246.length : Int) := of_decide_eq_true (by assumption)
                            obtain ⟨ad267, e267, hx267_0⟩ := Kd.at_int (Kd.R_reads' HO_4.out).2.2 x7_4 p267 q267
                            obtain rfl : ad259 = ad267 := (by injection e267)
                            replace p267 := eq_true p267
                            replace q267 := eq_true q267
                            have p268 : 0 ≤ (x6_1 : Int) := of_decide_eq_true (by assumption)
                            have q268 : x6_1 < (t246.length : Int) := of_decide_eq_true (by assumption)
                            obtain ⟨ad268, e268, hx268_0⟩ := Kd.at_int (Kd.R_reads' HO_4.out).2.2 x6_1 p268 q268
                            obtain rfl : ad259 = ad268 := (by injection e268)
                            replace p268 := eq_true p268
                            replace q268 := eq_true q268
                            go_wp2
                            repeat (go_quiet (fail); try go_wp2)
                            go_ret
                            exact ⟨er, bh HB.out⟩
                           ·rw [if_neg c40] at H
                            have c40b0 : (((rdOf ByteArray.empty l0 x7_4).toList == (rdOf ByteArray.empty l0 x6_1).toList) != ((rd t246 x7_4) == (rd t246 x6_1))) = false := by simpa using c40
                            (try (have c40b1 : decide (((rdOf ByteArray.empty l0 x7_4).toList == (rdOf ByteArray.empty l0 x6_1).toList) = ((rd t246 x7_4) == (rd t246 x6_1))) = true := by simpa using c40))
                            (try (have c40b2 : (((rdOf ByteArray.empty l0 x7_4).toList == (rdOf ByteArray.empty l0 x6_1).toList) == ((rd t246 x7_4) == (rd t246 x6_1))) = true := by simpa using c40))
                            clear c40
                            have H' := Aside0.mk H
                            clear H
                            have p261 : 0 ≤ (x7_4 : Int) := of_decide_eq_true (by assumption)
                            have q261 : x7_4 < (l0.length : Int) := of_decide_eq_true (by assumption)
                            obtain ⟨ad261, e261, hx261_0⟩ := Kd.at_string HR0.out x7_4 p261 q261
                            cases e261
                            replace hx261_0 := (HB.out.cell (World.block_lt_of_cell? w _ hx261_0)).trans hx261_0
                            replace p261 := eq_true p261
                            replace q261 := eq_true q261
                            have p262 : 0 ≤ (x6_1 : Int) := of_decide_eq_true (by assumption)
                            have q262 : x6_1 < (l0.length : Int) := of_decide_eq_true (by assumption)
                            obtain ⟨ad262, e262, hx262_0⟩ := Kd.at_string HR0.out x6_1 p262 q262
                            obtain rfl : ad261 = ad262 := (by injection e262)
                            replace hx262_0 := (HB.out.cell (World.block_lt_of_cell? w _ hx262_0)).trans hx262_0
                            replace p262 := eq_true p262
                            replace q262 := eq_true q262
                            have p263 : 0 ≤ (x7_4 : Int) := of_decide_eq_true (by assumption)
                            have q263 : x7_4 < (t246.length : Int) := of_decide_eq_true (by assumption)
                            obtain ⟨ad263, e263, hx263_0⟩ := Kd.at_int (Kd.R_reads' HO_4.out).2.2 x7_4 p263 q263
                            obtain rfl : ad259 = ad263 := (by injection e263)
                            replace p263 := eq_true p263
                            replace q263 := eq_true q263
                            have p264 : 0 ≤ (x6_1 : Int) := of_decide_eq_true (by assumption)
                            have q264 : x6_1 < (t246.length : Int) := of_decide_eq_true (by assumption)
                            obtain ⟨ad264, e264, hx264_0⟩ := Kd.at_int (Kd.R_reads' HO_4.out).2.2 x6_1 p264 q264
                            obtain rfl : ad259 = ad264 := (by injection e264)
                            replace p264 := eq_true p264
                            replace q264 := eq_true q264
                            have p265 : 0 ≤ (x7_4 : Int) := of_decide_eq_true (by assumption)
                            have q265 : x7_4 < (l0.length : Int) := of_decide_eq_true (by assumption)
                            obtain ⟨ad265, e265, hx265_0⟩ := Kd.at_string HR0.out x7_4 p265 q265
                            obtain rfl : ad261 = ad265 := (by injection e265)
                            replace hx265_0 := (HB.out.cell (World.block_lt_of_cell? w _ hx265_0)).trans hx265_0
                            replace p265 := eq_true p265
                            replace q265 := eq_true q265
                            have p266 : 0 ≤ (x6_1 : Int) := of_decide_eq_true (by assumption)
                            have q266 : x6_1 < (l0.length : Int) := of_decide_eq_true (by assumption)
                            obtain ⟨ad266, e266, hx266_0⟩ := Kd.at_string HR0.out x6_1 p266 q266
                            obtain rfl : ad261 = ad266 := (by injection e266)
                            replace hx266_0 := (HB.out.cell (World.block_lt_of_cell? w _ hx266_0)).trans hx266_0
                            replace p266 := eq_true p266
                            replace q266 := eq_true q266
                            have p267 : 0 ≤ (x7_4 : Int) := of_decide_eq_true (by assumption)
                            have q267 : x7_4 < (t246.length : Int) := of_decide_eq_true (by assumption)
                            obtain ⟨ad267, e267, hx267_0⟩ := Kd.at_int (Kd.R_reads' HO_4.out).2.2 x7_4 p267 q267
                            obtain rfl : ad259 = ad267 := (by injection e267)
                            replace p267 := eq_true p267
                            replace q267 := eq_true q267
                            have p268 : 0 ≤ (x6_1 : Int) := of_decide_eq_true (by assumption)
                            have q268 : x6_1 < (t246.length : Int) := of_decide_eq_true (by assumption)
                            obtain ⟨ad268, e268, hx268_0⟩ := Kd.at_int (Kd.R_reads' HO_4.out).2.2 x6_1 p268 q268
                            obtain rfl : ad259 = ad268 := (by injection e268)
                            replace p268 := eq_true p268
                            replace q268 := eq_true q268
                            go_wp2
                            repeat (go_quiet (fail); try go_wp2)
                            (try simp only [← hl5_4])
                            go_roundg k4
                            case measure => have := HK1.out; have := HJ12.out; have := HJ15.out; have := HK4.out; omega
                            case rel => exact ⟨(wrap64 (x7_4 + 1)), (by first | rfl | (simp; done) | (simp [*]; done)), H', ⟨by have := HK1.out; have := HJ12.out; have := HJ15.out; have := HK4.out; omega⟩, ⟨by (try simp only [hl5_4]); (with_reducible repeat (first | apply Kd.R_alloc | apply Kd.R_drewN | apply Kd.R_drew)); exact HO_3.out⟩, ⟨by (try simp only [hl5_4]); (with_reducible repeat (first | apply Kd.R_alloc | apply Kd.R_drewN | apply Kd.R_drew)); exact HO_4.out⟩, ⟨by (try simp only [hl5_4]); (with_reducible repeat (first | apply Kd.R_alloc | apply Kd.R_drewN | apply Kd.R_drew)); exact HO_5.out⟩, ⟨bh HB.out⟩⟩
                         ·rw [if_neg c38] at H
                          exact absurd H (by simp)
                        ·rw [if_neg c37] at H
                         exact absurd H (by simp)
                       ·rw [if_neg c36] at H
                        exact absurd H (by simp)
                      ·rw [if_neg c35] at H
                       exact absurd H (by simp)
                     ·rw [if_neg c34] at H
                      exact absurd H (by simp)
                    ·rw [if_neg c33] at H
                     exact absurd H (by simp)
                   ·rw [if_neg c32] at H
                    have c32b0 : decide (x7_4 < x6_1) = false := decide_eq_false c32
                    clear c32
                    have H' := Aside0.mk H
                    clear H
                    go_wp2
                    repeat (go_quiet (fail); try go_wp2)
                    (try simp only [← hl5_4])
                    go_roundg k4
                    case measure => have := HK1.out; have := HJ12.out; have := HJ15.out; have := HK4.out; omega
                    case rel => exact ⟨(y260), (wrap64 (x6_1 + 1)), (by first | rfl | (simp; done) | (simp [*]; done)), H', ⟨by have := HK1.out; have := HJ12.out; have := HJ15.out; have := HK4.out; omega⟩, ⟨by (try simp only [hl5_4]); (with_reducible repeat (first | apply Kd.R_alloc | apply Kd.R_drewN | apply Kd.R_drew)); exact HO_3.out⟩, ⟨by (try simp only [hl5_4]); (with_reducible repeat (first | apply Kd.R_alloc | apply Kd.R_drewN | apply Kd.R_drew)); exact HO_4.out⟩, ⟨by (try simp only [hl5_4]); (with_reducible repeat (first | apply Kd.R_alloc | apply Kd.R_drewN | apply Kd.R_drew)); exact HO_5.out⟩, ⟨bh HB.out⟩⟩
                ·rw [if_neg c28] at H
                 exact absurd H (by simp)
               ·rw [if_neg c27] at H
                exact absurd H (by simp)
              ·rw [if_neg c26] at H
               exact absurd H (by simp)
             ·rw [if_neg c25] at H
              exact absurd H (by simp)
         ·replace c15 := Bool.eq_false_iff.mpr c15
          subst c15
          have H1 : (peristylelaw11_DictOrders.l2 kj12 x5_1 0) = some r := by rw [if_neg (show ¬ (false = true) by decide)] at H; exact H
          clear H
          have H := H1
          clear H1
          have H' := Aside0.mk H
          clear H
          go_wp2
          repeat (go_quiet (fail); try go_wp2)
          go_loopg [8] kj12 (fun kq v8 w' => ∃ (x8_3 : Int), v8 = .int .i64 x8_3 ∧ Aside0 (peristylelaw11_DictOrders.l2 kq x5_1 x8_3 = some r) ∧ Aside0 (kq ≤ kj12) ∧ Aside0 (Kd.R Kd.bool 4 w' w.heap.size (fun _ => True) v252 x5_1) ∧ Aside0 (Below w.heap.size w w'))
          case atStart => exact ⟨(0), (by first | rfl | (simp; done) | (simp [*]; done)), H', ⟨Nat.le_refl _⟩, ⟨by (with_reducible repeat (first | apply Kd.R_alloc | apply Kd.R_drewN | apply Kd.R_drew)); exact HO_5.out⟩, ⟨bh HB.out⟩⟩
          case round =>
           clear H'
           try clear c3
           try clear c5
           try clear c5b0
           try clear c5b1
           try clear c5b2
           try clear c6
           try clear c6b0
           try clear c6b1
           try clear c7
           try clear c7b0
           try clear c7b1
           try clear c14
           try clear c14b0
           try clear c15
           try clear c17
           try clear c17b0
           try clear c18
           try clear c18b0
           try clear c19
           try clear c19b0
           try clear c20
           try clear c20b0
           try clear c21
           try clear c21b0
           try clear c22
           try clear c22b0
           try clear c23
           try clear c23b0
           try clear c24
           try clear c25
           try clear c25b0
           try clear c26
           try clear c26b0
           try clear c27
           try clear c27b0
           try clear c28
           try clear c28b0
           try clear p29
           try clear q29
           try clear c32
           try clear c32b0
           try clear c33
           try clear c33b0
           try clear c34
           try clear c34b0
           try clear c35
           try clear c35b0
           try clear c36
           try clear c36b0
           try clear c37
           try clear c37b0
           try clear c38
           try clear c38b0
           try clear c39
           try clear c39b0
           try clear c39b1
           try clear c39b2
           try clear c40
           try clear c40b0
           try clear c40b1
           try clear c40b2
           try clear hx254_0
           try clear hx255_0
           try clear hx256_0
           try clear hx257_0
           try clear hx258_0
           try clear hx259_0
           try clear hx261_0
           try clear hx262_0
           try clear hx263_0
           try clear hx264_0
           try clear hx265_0
           try clear hx266_0
           try clear hx267_0
           try clear hx268_0
           try clear hx29_0
           try clear p254
           try clear p255
           try clear p256
           try clear p257
           try clear p258
           try clear p259
           try clear p261
           try clear p262
           try clear p263
           try clear p264
           try clear p265
           try clear p266
           try clear p267
           try clear p268
           try clear p29
           try clear q254
           try clear q255
           try clear q256
           try clear q257
           try clear q258
           try clear q259
           try clear q261
           try clear q262
           try clear q263
           try clear q264
           try clear q265
           try clear q266
           try clear q267
           try clear q268
           try clear q29
           obtain ⟨x8_3, rfl, HA, HK3, HO_5, HB⟩ := hrel
           cases gk with
           | zero => exact absurd HA.out (by simp [peristylelaw11_DictOrders.l2])
           | succ k3 =>
            have H := HA.out
            clear HA
            simp only [peristylelaw11_DictOrders.l2] at H
            by_cases c41 : x8_3 < (x5_1.length : Int)
            ·rw [if_pos c41] at H
             have c41b0 : decide (x8_3 < (x5_1.length : Int)) = true := decide_eq_true c41
             clear c41
             by_cases c42 : 0 ≤ x8_3
             ·rw [if_pos c42] at H
              have c42b0 : decide (0 ≤ x8_3) = true := decide_eq_true c42
              clear c42
              obtain ⟨bq43, hbq43⟩ : ∃ b_ : Bool, b_ = (rdOf false x5_1 x8_3) := ⟨_, rfl⟩
              replace H : (if bq43 = true then (peristylelaw11_DictOrders.l2 k3 x5_1 (wrap64 (x8_3 + 1))) else (some false)) = some r := by rw [← hbq43] at H; exact H
              have Nbq43 := Aside0.mk hbq43
              clear hbq43
              by_cases c44 : bq43 = true
              ·subst c44
               have H1 : (peristylelaw11_DictOrders.l2 k3 x5_1 (wrap64 (x8_3 + 1))) = some r := by rw [if_pos rfl] at H; exact H
               clear H
               have H := H1
               clear H1
               have H' := Aside0.mk H
               clear H
               obtain ⟨Ao45, co45, eo45⟩ := Kd.R_slice HO_5.out
               subst eo45
               have p269 : 0 ≤ (x8_3 : Int) := of_decide_eq_true (by assumption)
               have q269 : x8_3 < (x5_1.length : Int) := of_decide_eq_true (by assumption)
               obtain ⟨ad269, e269, hx269_0⟩ := Kd.at_bool (Kd.R_reads' HO_5.out).2.2 x8_3 p269 q269
               (try rw [← Nbq43.out] at hx269_0)
               cases e269
               replace p269 := eq_true p269
               replace q269 := eq_true q269
               go_wp2
               repeat (go_quiet (fail); try go_wp2)
               go_roundg k3
               case measure => have := HK1.out; have := HJ12.out; have := HK3.out; omega
               case rel => exact ⟨(wrap64 (x8_3 + 1)), (by first | rfl | (simp; done) | (simp [*]; done)), H', ⟨by have := HK1.out; have := HJ12.out; have := HK3.out; omega⟩, ⟨by (with_reducible repeat (first | apply Kd.R_alloc | apply Kd.R_drewN | apply Kd.R_drew)); exact HO_5.out⟩, ⟨bh HB.out⟩⟩
              ·replace c44 := Bool.eq_false_iff.mpr c44
               subst c44
               have H1 : (some false) = some r := by rw [if_neg (show ¬ (false = true) by decide)] at H; exact H
               clear H
               have H := H1
               clear H1
               obtain rfl := Option.some.inj H
               obtain ⟨Ao46, co46, eo46⟩ := Kd.R_slice HO_5.out
               subst eo46
               have p269 : 0 ≤ (x8_3 : Int) := of_decide_eq_true (by assumption)
               have q269 : x8_3 < (x5_1.length : Int) := of_decide_eq_true (by assumption)
               obtain ⟨ad269, e269, hx269_0⟩ := Kd.at_bool (Kd.R_reads' HO_5.out).2.2 x8_3 p269 q269
               (try rw [← Nbq43.out] at hx269_0)
               cases e269
               replace p269 := eq_true p269
               replace q269 := eq_true q269
               go_wp2
               repeat (go_quiet (fail); try go_wp2)
               go_ret
               exact ⟨er, bh HB.out⟩
             ·rw [if_neg c42] at H
              exact absurd H (by simp)
            ·rw [if_neg c41] at H
             have c41b0 : decide (x8_3 < (x5_1.length : Int)) = false := decide_eq_false c41
             clear c41
             replace H := Option.bind_eq_some_iff.mp H
             obtain ⟨t270, A470, H⟩ := H
             replace H : (some t270) = some r := H
             have A47 := Aside0.mk A470
             clear A470
             obtain rfl := Option.some.inj H
             obtain ⟨Ao48, co48, eo48⟩ := Kd.R_slice HO_5.out
             subst eo48
             go_wp2_with (first | (go_at_call 7; (with_reducible refine (peristylelaw11_awake.calls k3  t270 _ A47.out).mono ?_); rintro e w49 ⟨rfl, hb⟩; replace HO_5 := rba HO_5 hb; replace HB := bsa HB hb; (try clear hb)))
             repeat (go_quiet (first | (go_at_call 7; (with_reducible refine (peristylelaw11_awake.calls k3  t270 _ A47.out).mono ?_); rintro e w49 ⟨rfl, hb⟩; replace HO_5 := rba HO_5 hb; replace HB := bsa HB hb; (try clear hb))); try go_wp2_with (first | (go_at_call 7; (with_reducible refine (peristylelaw11_awake.calls k3  t270 _ A47.out).mono ?_); rintro e w49 ⟨rfl, hb⟩; replace HO_5 := rba HO_5 hb; replace HB := bsa HB hb; (try clear hb))))
             go_ret
             exact ⟨er, bh HB.out⟩
    ·rw [if_neg c7] at H
     exact absurd H (by simp)
   ·rw [if_neg c6] at H
    exact absurd H (by simp)
  ·rw [if_neg c5] at H
   have c5b0 : ((t246.length : Int) == (l0.length : Int)) = false := beq_eq_false_iff_ne.mpr c5
   have c5b1 : ((t246.length : Int) != (l0.length : Int)) = true := bne_iff_ne.mpr c5
   have c5b2 : (t246.length == l0.length) = false := by first | simpa using c5 | (simp at c5 ⊢; omega)
   obtain rfl := Option.some.inj H
   go_enter Try.func3, Try.ntmps3
   go_wp2_with (first | (go_at_call 6; (with_reducible refine (peristyleref07_Few.calls k _ _ l0 60 true _ ?side1 ?side2 A2.out).mono ?_); (case side1 => exact cx HR0.out); (case side2 => exact HC0.out); rintro e w' ⟨rfl, ⟨nd, rfl⟩⟩; (try first | exact ⟨rfl, _, World.drewN_drewN _ _ _⟩ | exact ⟨rfl, _, Eq.trans (World.drewN_drewN _ _ _) (congrArg (World.drewN _) (Nat.add_assoc _ _ _))⟩)) | (go_at_call 8; (with_reducible refine (dict_Of_string.calls k _ _ l0 t245 t246 _ ?side1 ?side2 A4.out).mono ?_); (case side1 => exact cx HR0.out); (case side2 => exact HC0.out); rintro e w50 ⟨v247, v249, rfl, ho0, ho1, hb⟩; have HO248 := Aside0.mk (Kd.R_lower ho0 (below_size (bh HB.out))); have HO250 := Aside0.mk (Kd.R_lower ho1 (below_size (bh HB.out))); replace HB := bsa HB hb; (try clear hb); (try clear ho0); (try clear ho1); obtain ⟨Ao51, co51, eo51⟩ := Kd.R_slice HO250.out; subst eo51))
   repeat (go_quiet (first | (go_at_call 6; (with_reducible refine (peristyleref07_Few.calls k _ _ l0 60 true _ ?side1 ?side2 A2.out).mono ?_); (case side1 => exact cx HR0.out); (case side2 => exact HC0.out); rintro e w' ⟨rfl, ⟨nd, rfl⟩⟩; (try first | exact ⟨rfl, _, World.drewN_drewN _ _ _⟩ | exact ⟨rfl, _, Eq.trans (World.drewN_drewN _ _ _) (congrArg (World.drewN _) (Nat.add_assoc _ _ _))⟩)) | (go_at_call 8; (with_reducible refine (dict_Of_string.calls k _ _ l0 t245 t246 _ ?side1 ?side2 A4.out).mono ?_); (case side1 => exact cx HR0.out); (case side2 => exact HC0.out); rintro e w50 ⟨v247, v249, rfl, ho0, ho1, hb⟩; have HO248 := Aside0.mk (Kd.R_lower ho0 (below_size (bh HB.out))); have HO250 := Aside0.mk (Kd.R_lower ho1 (below_size (bh HB.out))); replace HB := bsa HB hb; (try clear hb); (try clear ho0); (try clear ho1); obtain ⟨Ao51, co51, eo51⟩ := Kd.R_slice HO250.out; subst eo51)); try go_wp2_with (first | (go_at_call 6; (with_reducible refine (peristyleref07_Few.calls k _ _ l0 60 true _ ?side1 ?side2 A2.out).mono ?_); (case side1 => exact cx HR0.out); (case side2 => exact HC0.out); rintro e w' ⟨rfl, ⟨nd, rfl⟩⟩; (try first | exact ⟨rfl, _, World.drewN_drewN _ _ _⟩ | exact ⟨rfl, _, Eq.trans (World.drewN_drewN _ _ _) (congrArg (World.drewN _) (Nat.add_assoc _ _ _))⟩)) | (go_at_call 8; (with_reducible refine (dict_Of_string.calls k _ _ l0 t245 t246 _ ?side1 ?side2 A4.out).mono ?_); (case side1 => exact cx HR0.out); (case side2 => exact HC0.out); rintro e w50 ⟨v247, v249, rfl, ho0, ho1, hb⟩; have HO248 := Aside0.mk (Kd.R_lower ho0 (below_size (bh HB.out))); have HO250 := Aside0.mk (Kd.R_lower ho1 (below_size (bh HB.out))); replace HB := bsa HB hb; (try clear hb); (try clear ho0); (try clear ho1); obtain ⟨Ao51, co51, eo51⟩ := Kd.R_slice HO250.out; subst eo51)))
   go_ret
   exact ⟨er, bh HB.out⟩
 ·replace c3 := Bool.eq_false_iff.mpr c3
  subst c3
  have H1 : ((peristylelaw11_awake.f k).bind fun t244 => (some t244)) = some r := by rw [if_neg (show ¬ (false = true) by decide)] at H; exact H
  clear H
  have H := H1
  clear H1
  replace H := Option.bind_eq_some_iff.mp H
  obtain ⟨t244, A520, H⟩ := H
  replace H : (some t244) = some r := H
  have A52 := Aside0.mk A520
  clear A520
  obtain rfl := Option.some.inj H
  go_enter Try.func3, Try.ntmps3
  go_wp2_with (first | (go_at_call 6; (with_reducible refine (peristyleref07_Few.calls k _ _ l0 60 false _ ?side1 ?side2 A2.out).mono ?_); (case side1 => exact cx HR0.out); (case side2 => exact HC0.out); rintro e w' ⟨rfl, ⟨nd, rfl⟩⟩; (try first | exact ⟨rfl, _, World.drewN_drewN _ _ _⟩ | exact ⟨rfl, _, Eq.trans (World.drewN_drewN _ _ _) (congrArg (World.drewN _) (Nat.add_assoc _ _ _))⟩)) | (go_at_call 7; (with_reducible refine (peristylelaw11_awake.calls k  t244 _ A52.out).mono ?_); rintro e w53 ⟨rfl, hb⟩; replace HB := bsa HB hb; (try clear hb)))
  repeat (go_quiet (first | (go_at_call 6; (with_reducible refine (peristyleref07_Few.calls k _ _ l0 60 false _ ?side1 ?side2 A2.out).mono ?_); (case side1 => exact cx HR0.out); (case side2 => exact HC0.out); rintro e w' ⟨rfl, ⟨nd, rfl⟩⟩; (try first | exact ⟨rfl, _, World.drewN_drewN _ _ _⟩ | exact ⟨rfl, _, Eq.trans (World.drewN_drewN _ _ _) (congrArg (World.drewN _) (Nat.add_assoc _ _ _))⟩)) | (go_at_call 7; (with_reducible refine (peristylelaw11_awake.calls k  t244 _ A52.out).mono ?_); rintro e w53 ⟨rfl, hb⟩; replace HB := bsa HB hb; (try clear hb))); try go_wp2_with (first | (go_at_call 6; (with_reducible refine (peristyleref07_Few.calls k _ _ l0 60 false _ ?side1 ?side2 A2.out).mono ?_); (case side1 => exact cx HR0.out); (case side2 => exact HC0.out); rintro e w' ⟨rfl, ⟨nd, rfl⟩⟩; (try first | exact ⟨rfl, _, World.drewN_drewN _ _ _⟩ | exact ⟨rfl, _, Eq.trans (World.drewN_drewN _ _ _) (congrArg (World.drewN _) (Nat.add_assoc _ _ _))⟩)) | (go_at_call 7; (with_reducible refine (peristylelaw11_awake.calls k  t244 _ A52.out).mono ?_); rintro e w53 ⟨rfl, hb⟩; replace HB := bsa HB hb; (try clear hb))))
  go_ret
  exact ⟨er, bh HB.out⟩
def peristylelaw11_DictOrders.Pure : Prop := ∀ (l0 : List ByteArray), (fun l : List ByteArray => l.length ≤ maxLen ∧ l.length * 16 ≤ 140737488351232 ∧ ∀ x ∈ l, (fun s : ByteArray => s.size ≤ 140737488351232) x) l0 → ∃ k, peristylelaw11_DictOrders.f k l0 = some true
theorem peristylelaw11_DictOrders.walk (P : peristylelaw11_DictOrders.Pure) (A0 : Option Addr) (c0 : Nat) (l0 : List ByteArray) (w : World) (hr0 : Kd.C Kd.string w A0 l0.length l0) (hc0 : l0.length ≤ c0) (w0 : (fun l : List ByteArray => l.length ≤ maxLen ∧ l.length * 16 ≤ 140737488351232 ∧ ∀ x ∈ l, (fun s : ByteArray => s.size ≤ 140737488351232) x) l0) :
  Calls Try.prog 3 #[.slice A0 l0.length c0] w fun e w' => e = .returned (.bool true) ∧ Below w.heap.size w w' := by
 obtain ⟨k, h⟩ := P l0 w0
 refine (peristylelaw11_DictOrders.calls k _ _ l0 true w hr0 hc0 h).mono ?_
 rintro e w' ⟨rfl, hd⟩
 exact ⟨rfl, hd⟩
end Go.Proofs.Ytfohecpfenegkaa.Print
end
section
namespace Go.Proofs.Ytfohecpfenegkaa.Print
open Go.RowKit Go.Proofs.YtfohecpfenegkaaW.PrintWords Go.Proofs.YtfohecpfenegkaaW.PrintLast Go.Proofs.YtfohecpfenegkaaW.PrintMore
attribute [local go_sem] max2_int min2_int max_two min_two max_three min_three max_four min_four   -- for this text's walks alone
set_option linter.unusedVariables false
set_option linter.unusedSimpArgs false
/-! ### slices_Clone_int_int: function 25 (a contract of the session's own) -/
def slices_Clone_int_int.f (l0 : List Int) : Option (List Int) := if l0.length ≤ 2000000000000 then some l0 else none
/-! ### slices_Sort_int_int: function 26 (a contract of the session's own) -/
def slices_Sort_int_int.f (l0 : List Int) : Option (List Int) := if l0.length ≤ 2000000000000 then some (l0.mergeSort fun x y => decide (x ≤ y)) else none
/-! ### slices_Compact_int_int: function 27 (a contract of the session's own) -/
abbrev slices_Compact_int_int.eq (a b : Int) : Prop := a = b
def slices_Compact_int_int.kp (l : List Int) : Nat → List Int
  | 0 => []
  | 1 => l.take 1
  | j + 2 => if slices_Compact_int_int.eq (rd l ((j + 1 : Nat) : Int)) (rd l (j : Int)) then slices_Compact_int_int.kp l (j + 1) else slices_Compact_int_int.kp l (j + 1) ++ [rd l ((j + 1 : Nat) : Int)]
def slices_Compact_int_int.f (l0 : List Int) : Option (List Int) := if l0.length ≤ 2000000000000 then some (slices_Compact_int_int.kp l0 l0.length) else none
def slices_Compact_int_int.St (l L : List Int) (i q : Nat) : Prop := L.length = l.length ∧ 1 ≤ i ∧ i < q ∧ q ≤ l.length ∧ L.take i = slices_Compact_int_int.kp l q ∧ L.drop (q - 1) = l.drop (q - 1)
/-! ### cmp_isNaN_int: function 83 -/
def cmp_isNaN_int.f (a0 : Int) : Option (Bool) := some (a0 != a0)
/-! ### cmp_Less_int: function 48 -/
def cmp_Less_int.f (a0 : Int) (a1 : Int) : Option (Bool) := (cmp_isNaN_int.f a0).bind fun t271 => (if t271 = true then ((cmp_isNaN_int.f a1).bind fun t272 => (if t272 = true then (some (decide (a0 < a1))) else (some true))) else (some (decide (a0 < a1))))
/-! ### slices_isNaN_int: function 49 -/
def slices_isNaN_int.f (a0 : Int) : Option (Bool) := some (a0 != a0)
/-! ### slices_BinarySearch_int_int: function 28 -/
def slices_BinarySearch_int_int.l0 : Nat → List Int → Int → Int → Int → Int → Option (Int × Bool)
 | 0, _, _, _, _, _ => none
 | k + 1, x0, x1, x6, x7, x8 => if x7 < x8 then (if 0 ≤ (wrap64 ((IntKind.u64.wrap (wrap64 (x7 + x8))) / 2)) then (if (wrap64 ((IntKind.u64.wrap (wrap64 (x7 + x8))) / 2)) < (x0.length : Int) then ((cmp_Less_int.f (rd x0 (wrap64 ((IntKind.u64.wrap (wrap64 (x7 + x8))) / 2))) x1).bind fun t274 => (if t274 = true then (slices_BinarySearch_int_int.l0 k x0 x1 x6 (wrap64 ((wrap64 ((IntKind.u64.wrap (wrap64 (x7 + x8))) / 2)) + 1)) x8) else (slices_BinarySearch_int_int.l0 k x0 x1 x6 x7 (wrap64 ((IntKind.u64.wrap (wrap64 (x7 + x8))) / 2))))) else (none)) else (none)) else (if x7 < x6 then (if 0 ≤ x7 then (if x7 < (x0.length : Int) then (if (rd x0 x7) = x1 then (some (x7, true)) else ((slices_isNaN_int.f (rd x0 x7)).bind fun t277 => (if t277 = true then ((slices_isNaN_int.f x1).bind fun t278 => (some (x7, t278))) else (some (x7, false))))) else (none)) else (none)) else (some (x7, false)))
def slices_BinarySearch_int_int.f (k : Nat) (l0 : List Int) (a1 : Int) : Option (Int × Bool) := slices_BinarySearch_int_int.l0 k l0 a1 (l0.length : Int) 0 (l0.length : Int)
/-! ### dict_Of_int: function 9 -/
def dict_Of_int.l0 : Nat → List Int → List Int → List Int → Int → Int → Option (List Int × List Int)
 | 0, _, _, _, _, _ => none
 | k + 1, x4, x5, x16, x17, x18 => if x18 < x17 then (if 0 ≤ x18 then (if x18 < (x16.length : Int) then ((slices_BinarySearch_int_int.f k x4 (rd x16 x18)).bind fun bt287 => (if x5.length < 17592186044416 then (dict_Of_int.l0 k x4 (x5 ++ [bt287.1]) x16 x17 (wrap64 (x18 + 1))) else (none))) else (none)) else (none)) else (some (x4, x5))
def dict_Of_int.f (k : Nat) (l0 : List Int) : Option (List Int × List Int) := (slices_Clone_int_int.f l0).bind fun t279 => ((slices_Sort_int_int.f t279).bind fun t282 => ((slices_Compact_int_int.f t282).bind fun t283 => (dict_Of_int.l0 k t283 ([] : List Int) l0 (l0.length : Int) 0)))
end Go.Proofs.Ytfohecpfenegkaa.Print
end
