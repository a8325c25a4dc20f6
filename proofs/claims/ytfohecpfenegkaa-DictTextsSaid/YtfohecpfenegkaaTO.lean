-- Functions and laws: texts of the session's own and of the kit's print program, joined; what nothing names is left out.
import Derived.Test.YtfohecpfenegkaaTW
import Derived.OpenShut
import Derived.Deep.Slices
import Derived.SizedLaws
section
namespace Go.Proofs.Ytfohecpfenegkaa.XO
open Go.RowKit Go.Proofs.YtfohecpfenegkaaW.PrintWords
set_option linter.unusedVariables false
variable {H : Type} {enc : TypeId × Value → H} {P : Program} {W : World} {α β : Type}
def Opens (enc : TypeId × Value → H) (P : Program) (W : World) (t : TypeId) (k : Kd α) (wf : α → Prop) : Prop :=
  ∀ fuel cs (x : DataW H × List MemPlace), DataW.trod enc P W 0 (fun _ => true) true fuel t cs = some x → (∀ n ∈ x.1.weights P t, n ≤ reachBytes) → ∃ a, k.K W a cs ∧ wf a
theorem Opens.string {t : TypeId} (ht : P.underlying t = some .string) : Opens enc P W t Kd.string (fun s => s.size ≤ 140737488351232) := by
  intro fuel cs x h hw
  obtain ⟨s, rfl, rfl, _⟩ := DataW.trod_string ht h
  refine ⟨s, rfl, ?_⟩
  have := hw s.data.toList.length (by simp [DataW.weights])
  simpa [reachBytes] using this
theorem mem_weightsAll {e : TypeId} : ∀ {ds : List (DataW H)} {i : Nat} {d : DataW H}, ds[i]? = some d → ∀ n ∈ d.weights P e, n ∈ DataW.weightsAll P e ds
  | d0 :: ds, 0, d, hd, n, hn => by
    simp only [List.getElem?_cons_zero, Option.some.injEq] at hd
    subst hd
    simp only [DataW.weightsAll, List.mem_append]
    exact .inl hn
  | d0 :: ds, i + 1, d, hd, n, hn => by
    simp only [List.getElem?_cons_succ] at hd
    simp only [DataW.weightsAll, List.mem_append]
    exact .inr (mem_weightsAll hd n hn)
  | [], _, _, hd, _, _ => by simp at hd
theorem cells?_get {b : Nat} {a : Addr} {n : Nat} {cs : List Value} (h : W.cells? b a n = some cs) : cs.length = n ∧ ∀ i u, cs[i]? = some u → W.cell? (a.add i) = some u := by
  have hl : cs.length = n := by
    unfold World.cells? at h
    split at h
    · simpa using Go.mapM_some_length h
    · simp at h
  refine ⟨hl, fun i u hu => ?_⟩
  unfold World.cells? at h
  split at h
  · have hi : i < n := by rw [← hl]; exact (List.getElem?_eq_some_iff.1 hu).1
    have := Go.mapM_some_get h i i (by simp [hi])
    rw [this]; exact hu
  · simp at h
theorem Opens.slice {t e : TypeId} {k : Kd α} {wf : α → Prop} (ht : P.underlying t = some (.slice e)) (b : Nat) (hb : P.bytesOf e = b) (hsz : P.cellsOf e = k.sz) (hO : Opens enc P W e k wf) :
    Opens enc P W t (Kd.slice e k) (fun l => l.length ≤ maxLen ∧ l.length * b ≤ 140737488351232 ∧ ∀ x ∈ l, wf x) := by
  intro fuel cs x h hw
  rcases DataW.trod_slice ht h with ⟨rfl, rfl⟩ | ⟨a, len, cap, elems, rest, n, rfl, rfl, rfl, _, hl, hm, hlen, hel, _, _⟩
  · exact ⟨[], ⟨none, 0, rfl, Nat.le_refl _, rfl, by simp, fun h => absurd h (Nat.lt_irrefl 0)⟩, by simp, by simp, by simp⟩
  have hW : ∀ n ∈ DataW.weights P t (.slice (elems.map (·.1)) (rest.map (·.1))), n ≤ reachBytes := hw
  have hA := hW ((elems.length + rest.length) * b) (by simp [DataW.weights, ht, hb])
  have each : ∀ i, i < len → ∃ a', ∃ cs', W.cells? 0 (a.add (i * P.cellsOf e)) (P.cellsOf e) = some cs' ∧ k.K W a' cs' ∧ wf a' := by
    intro i hi
    have hy := hel i hi
    rw [List.getElem?_eq_getElem (by omega)] at hy
    obtain ⟨cs', h1, h2⟩ := Option.bind_eq_some_iff.1 hy
    obtain ⟨a', h3, h4⟩ := hO n cs' _ h2 (fun m hm' => hW m (by
      simp only [DataW.weights, ht, List.mem_cons, List.mem_append]
      exact .inr (.inl (mem_weightsAll (i := i) (by rw [List.getElem?_map, List.getElem?_eq_getElem (show i < elems.length by omega)]; rfl) m hm'))))
    exact ⟨a', cs', h1, h3, h4⟩
  by_cases h0 : len = 0
  · subst h0
    exact ⟨[], ⟨some a, cap, rfl, Nat.zero_le _, rfl, by simp, fun h => absurd h (Nat.lt_irrefl 0)⟩, by simp, by simp, by simp⟩
  · obtain ⟨a0, _⟩ := each 0 (by omega)
    haveI : Inhabited α := ⟨a0⟩
    obtain ⟨F, hF⟩ := Go.Deep.choose_lt each
    have hrl : ((List.range len).map F).length = len := by simp
    refine ⟨(List.range len).map F, ⟨some a, cap, by rw [hrl], by rw [hrl]; exact hl, ?_⟩, ?_, ?_, ?_⟩
    · refine ⟨rfl, by rw [hrl]; have : maxLen ≤ 9223372036854775807 := by decide
                      omega, fun _ => ⟨a, rfl, ?_⟩⟩
      intro j p hp
      have hj : j < len := by have := (List.getElem?_eq_some_iff.1 hp).1; simpa using this
      obtain ⟨cs', h1, h2, h3⟩ := hF j hj
      have hp' : p = F j := by
        rw [List.getElem?_map, List.getElem?_range hj] at hp
        exact (Option.some.inj hp).symm
      subst hp'
      obtain ⟨hc1, hc2⟩ := cells?_get h1
      rw [hsz] at h1 hc1 hc2
      refine ⟨cs', hc1, h2, fun i u hu => ?_⟩
      have := hc2 i u hu
      rwa [Go.Deep.add_add] at this
    · rw [hrl]; omega
    · rw [hrl]
      have : (elems.length + rest.length) * b ≤ 140737488351232 := hA
      rw [hlen] at this
      exact Nat.le_trans (Nat.mul_le_mul_right b (Nat.le_add_right len _)) this
    · intro x hx
      obtain ⟨j, hj, rfl⟩ := List.mem_map.1 hx
      obtain ⟨_, _, _, h3⟩ := hF j (by simpa using hj)
      exact h3
def OpensF (enc : TypeId × Value → H) (P : Program) (W : World) (o : Nat) (fs : List (Nat × TypeId)) (k : Kd α) (wf : α → Prop) : Prop :=
  ∀ fuel (cs : List Value) (xs : List (DataW H × List MemPlace)), cs.length = o + k.sz → xs.length = fs.length →
    (∀ (i : Nat) (f : Nat × TypeId), fs[i]? = some f → DataW.trod enc P W 0 (fun _ => true) true fuel f.2 ((cs.drop f.1).take (P.cellsOf f.2)) = xs[i]?) →
    (∀ (i : Nat) (f : Nat × TypeId) (x : DataW H × List MemPlace), fs[i]? = some f → xs[i]? = some x → ∀ n ∈ x.1.weights P f.2, n ≤ reachBytes) → ∃ a, k.K W a (cs.drop o) ∧ wf a
theorem mem_weightsEach {ts : List TypeId} {ds : List (DataW H)} {j : Nat} {t : TypeId} {d : DataW H} (h1 : ts[j]? = some t) (h2 : ds[j]? = some d) : ∀ n ∈ d.weights P t, n ∈ DataW.weightsEach P ts ds := DataW.weights_mem_each h1 h2
theorem Opens.arg {t : TypeId} {k : Kd α} {wf : α → Prop} {v : Value} {d : DataW H} {p : List MemPlace} (h : Opens enc P W t k wf) (hd : DataW.Trod enc P W 0 (fun _ => true) true t v d p)
    {ts : List TypeId} {ds : List (DataW H)} (hsz : (DataW.weightsEach P ts ds).all (· ≤ reachBytes) = true) {j : Nat} (h1 : ts[j]? = some t) (h2 : ds[j]? = some d) : ∃ a, k.K W a v.cells.toList ∧ wf a := by
  obtain ⟨fuel, hf⟩ := hd
  refine h fuel _ _ hf fun n hn => ?_
  have := List.all_eq_true.1 hsz n (mem_weightsEach h1 h2 n hn)
  simpa using this
theorem Opens.argSlice {t e : TypeId} {k : Kd α} {wf : List α → Prop} {v : Value} {d : DataW H} {p : List MemPlace} (ht : P.underlying t = some (.slice e)) (h : Opens enc P W t (Kd.slice e k) wf)
    {r : Reach} {b0 : Nat} (hv : Value.okWide P W r b0 t v) (hd : DataW.Trod enc P W 0 (fun _ => true) true t v d p)
    {ts : List TypeId} {ds : List (DataW H)} (hsz : (DataW.weightsEach P ts ds).all (· ≤ reachBytes) = true) {j : Nat} (h1 : ts[j]? = some t) (h2 : ds[j]? = some d) :
    ∃ A c l, v = .slice A l.length c ∧ l.length ≤ c ∧ k.C W A l.length l ∧ wf l := by
  obtain ⟨l, ⟨A, c, he, hl, hC⟩, hw⟩ := h.arg hd hsz h1 h2
  obtain ⟨a, len, cap, rfl⟩ := Go.WideShapes.okWide_slice ht hv
  simp [Value.cells] at he
  obtain ⟨rfl, rfl, rfl⟩ := he
  exact ⟨a, cap, l, rfl, hl, hC, hw⟩
end Go.Proofs.Ytfohecpfenegkaa.XO
end
