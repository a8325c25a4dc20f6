-- XO: what a law's arguments are, opened kind by kind: a reading of a type (DataW.trod) tells a value of the print's kind (Kd), and that it is well made.
import Derived.Test.YtdchljjhajbehaaWWords
import Derived.OpenShut
import Derived.Deep.Slices
import Derived.SizedLaws
namespace Go.Proofs.Ytdchljjhajbehaa.XO
open Go.RowKit Go.Proofs.YtdchljjhajbehaaW.PrintWords
set_option linter.unusedVariables false
variable {H : Type} {enc : TypeId × Value → H} {P : Program} {W : World} {α β : Type}

/-- A reading of type t tells a value of the kind k that wf holds of. -/
def Opens (enc : TypeId × Value → H) (P : Program) (W : World) (t : TypeId) (k : Kd α) (wf : α → Prop) : Prop :=
  ∀ fuel cs (x : DataW H × List MemPlace), DataW.trod enc P W 0 (fun _ => true) true fuel t cs = some x → (∀ n ∈ x.1.weights P t, n ≤ reachBytes) → ∃ a, k.K W a cs ∧ wf a

theorem Opens.int {t : TypeId} {ik : IntKind} (ht : P.underlying t = some (.int ik)) : Opens enc P W t (Kd.int ik) (fun z => (Lit.int ik z).wf = true) := by
  intro fuel cs x h _
  obtain ⟨n, rfl, _, hw⟩ := DataW.trod_int ht h
  exact ⟨n, rfl, hw⟩

theorem Opens.bool {t : TypeId} (ht : P.underlying t = some .bool) : Opens enc P W t Kd.bool (fun _ => True) := by
  intro fuel cs x h _
  obtain ⟨n, rfl, _⟩ := DataW.trod_bool ht h
  exact ⟨n, rfl, trivial⟩

theorem Opens.string {t : TypeId} (ht : P.underlying t = some .string) : Opens enc P W t Kd.string (fun s => s.size ≤ 140737488351232) := by
  intro fuel cs x h hw
  obtain ⟨s, rfl, rfl, _⟩ := DataW.trod_string ht h
  refine ⟨s, rfl, ?_⟩
  have := hw s.data.toList.length (by simp [DataW.weights])
  simpa [reachBytes] using this

theorem mem_weightsAll {e : TypeId} : ∀ {ds : List (DataW H)} {i : Nat} {d : DataW H}, ds[i]? = some d → ∀ n ∈ d.weights P e, n ∈ DataW.weightsAll P e ds
  | d0 :: ds, 0, d, hd, n, hn => by
    simp only [List.getElem?_cons_zero, Option.some.injEq] at hd
    subst hd
    simp only [DataW.weightsAll, List.mem_append]
    exact .inl hn
  | d0 :: ds, i + 1, d, hd, n, hn => by
    simp only [List.getElem?_cons_succ] at hd
    simp only [DataW.weightsAll, List.mem_append]
    exact .inr (mem_weightsAll hd n hn)
  | [], _, _, hd, _, _ => by simp at hd

theorem cells?_get {b : Nat} {a : Addr} {n : Nat} {cs : List Value} (h : W.cells? b a n = some cs) : cs.length = n ∧ ∀ i u, cs[i]? = some u → W.cell? (a.add i) = some u := by
  have hl : cs.length = n := by
    unfold World.cells? at h
    split at h
    · simpa using Go.mapM_some_length h
    · simp at h
  refine ⟨hl, fun i u hu => ?_⟩
  unfold World.cells? at h
  split at h
  · have hi : i < n := by rw [← hl]; exact (List.getElem?_eq_some_iff.1 hu).1
    have := Go.mapM_some_get h i i (by simp [hi])
    rw [this]; exact hu
  · simp at h

theorem Opens.slice {t e : TypeId} {k : Kd α} {wf : α → Prop} (ht : P.underlying t = some (.slice e)) (b : Nat) (hb : P.bytesOf e = b) (hsz : P.cellsOf e = k.sz) (hO : Opens enc P W e k wf) :
    Opens enc P W t (Kd.slice e k) (fun l => l.length ≤ maxLen ∧ l.length * b ≤ 140737488351232 ∧ ∀ x ∈ l, wf x) := by
  intro fuel cs x h hw
  rcases DataW.trod_slice ht h with ⟨rfl, rfl⟩ | ⟨a, len, cap, elems, rest, n, rfl, rfl, rfl, _, hl, hm, hlen, hel, _, _⟩
  · exact ⟨[], ⟨none, 0, rfl, Nat.le_refl _, rfl, by simp, fun h => absurd h (Nat.lt_irrefl 0)⟩, by simp, by simp, by simp⟩
  have hW : ∀ n ∈ DataW.weights P t (.slice (elems.map (·.1)) (rest.map (·.1))), n ≤ reachBytes := hw
  have hA := hW ((elems.length + rest.length) * b) (by simp [DataW.weights, ht, hb])
  have each : ∀ i, i < len → ∃ a', ∃ cs', W.cells? 0 (a.add (i * P.cellsOf e)) (P.cellsOf e) = some cs' ∧ k.K W a' cs' ∧ wf a' := by
    intro i hi
    have hy := hel i hi
    rw [List.getElem?_eq_getElem (by omega)] at hy
    obtain ⟨cs', h1, h2⟩ := Option.bind_eq_some_iff.1 hy
    obtain ⟨a', h3, h4⟩ := hO n cs' _ h2 (fun m hm' => hW m (by
      simp only [DataW.weights, ht, List.mem_cons, List.mem_append]
      exact .inr (.inl (mem_weightsAll (i := i) (by rw [List.getElem?_map, List.getElem?_eq_getElem (show i < elems.length by omega)]; rfl) m hm'))))
    exact ⟨a', cs', h1, h3, h4⟩
  by_cases h0 : len = 0
  · subst h0
    exact ⟨[], ⟨some a, cap, rfl, Nat.zero_le _, rfl, by simp, fun h => absurd h (Nat.lt_irrefl 0)⟩, by simp, by simp, by simp⟩
  · obtain ⟨a0, _⟩ := each 0 (by omega)
    haveI : Inhabited α := ⟨a0⟩
    obtain ⟨F, hF⟩ := Go.Deep.choose_lt each
    have hrl : ((List.range len).map F).length = len := by simp
    refine ⟨(List.range len).map F, ⟨some a, cap, by rw [hrl], by rw [hrl]; exact hl, ?_⟩, ?_, ?_, ?_⟩
    · refine ⟨rfl, by rw [hrl]; have : maxLen ≤ 9223372036854775807 := by decide
                      omega, fun _ => ⟨a, rfl, ?_⟩⟩
      intro j p hp
      have hj : j < len := by have := (List.getElem?_eq_some_iff.1 hp).1; simpa using this
      obtain ⟨cs', h1, h2, h3⟩ := hF j hj
      have hp' : p = F j := by
        rw [List.getElem?_map, List.getElem?_range hj] at hp
        exact (Option.some.inj hp).symm
      subst hp'
      obtain ⟨hc1, hc2⟩ := cells?_get h1
      rw [hsz] at h1 hc1 hc2
      refine ⟨cs', hc1, h2, fun i u hu => ?_⟩
      have := hc2 i u hu
      rwa [Go.Deep.add_add] at this
    · rw [hrl]; omega
    · rw [hrl]
      have : (elems.length + rest.length) * b ≤ 140737488351232 := hA
      rw [hlen] at this
      exact Nat.le_trans (Nat.mul_le_mul_right b (Nat.le_add_right len _)) this
    · intro x hx
      obtain ⟨j, hj, rfl⟩ := List.mem_map.1 hx
      obtain ⟨_, _, _, h3⟩ := hF j (by simpa using hj)
      exact h3

/-- Parts in line, from an offset on. -/
def OpensF (enc : TypeId × Value → H) (P : Program) (W : World) (o : Nat) (fs : List (Nat × TypeId)) (k : Kd α) (wf : α → Prop) : Prop :=
  ∀ fuel (cs : List Value) (xs : List (DataW H × List MemPlace)), cs.length = o + k.sz → xs.length = fs.length →
    (∀ (i : Nat) (f : Nat × TypeId), fs[i]? = some f → DataW.trod enc P W 0 (fun _ => true) true fuel f.2 ((cs.drop f.1).take (P.cellsOf f.2)) = xs[i]?) →
    (∀ (i : Nat) (f : Nat × TypeId) (x : DataW H × List MemPlace), fs[i]? = some f → xs[i]? = some x → ∀ n ∈ x.1.weights P f.2, n ≤ reachBytes) → ∃ a, k.K W a (cs.drop o) ∧ wf a

theorem OpensF.one {o : Nat} {t : TypeId} {k : Kd α} {wf : α → Prop} (hsz : P.cellsOf t = k.sz) (h : Opens enc P W t k wf) : OpensF enc P W o [(o, t)] k wf := by
  intro fuel cs xs hl hx hr hw
  match xs, hx with
  | [x], _ =>
    have h1 := hr 0 (o, t) rfl
    have h2 : (cs.drop o).take (P.cellsOf t) = cs.drop o := by
      rw [hsz]; exact List.take_of_length_le (by rw [List.length_drop]; omega)
    simp only [h2] at h1
    exact h fuel _ x h1 (hw 0 (o, t) x rfl rfl)

theorem OpensF.cons {o o' : Nat} {t : TypeId} {fs : List (Nat × TypeId)} {k : Kd α} {k' : Kd β} {wf : α → Prop} {wf' : β → Prop} (hsz : P.cellsOf t = k.sz) (ho : o' = o + k.sz)
    (h : Opens enc P W t k wf) (h' : OpensF enc P W o' fs k' wf') : OpensF enc P W o ((o, t) :: fs) (Kd.pair k k') (fun p => wf p.1 ∧ wf' p.2) := by
  subst ho
  intro fuel cs xs hl hx hr hw
  match xs, hx with
  | x :: xs, hx =>
    have hl' : cs.length = o + k.sz + k'.sz := by rw [hl]; show o + (k.sz + k'.sz) = _; omega
    have h1 := hr 0 (o, t) rfl
    simp only [hsz] at h1
    obtain ⟨a, ka, wa⟩ := h fuel _ x h1 (hw 0 (o, t) x rfl rfl)
    obtain ⟨b, kb, wb⟩ := h' fuel cs xs hl' (by simpa using hx) (fun i f hf => by simpa using hr (i + 1) f (by simpa using hf)) (fun i f y hf hy => hw (i + 1) f y (by simpa using hf) (by simpa using hy))
    refine ⟨(a, b), ⟨_, _, ?_, ka, kb⟩, wa, wb⟩
    rw [← List.drop_drop, List.take_append_drop]

theorem mem_weightsEach {ts : List TypeId} {ds : List (DataW H)} {j : Nat} {t : TypeId} {d : DataW H} (h1 : ts[j]? = some t) (h2 : ds[j]? = some d) : ∀ n ∈ d.weights P t, n ∈ DataW.weightsEach P ts ds := DataW.weights_mem_each h1 h2

theorem Opens.struct {t : TypeId} {fs : Array Field} {fs' : List (Nat × TypeId)} {k : Kd α} {wf : α → Prop} (ht : P.underlying t = some (.struct fs)) (hf : fs.toList.map (fun f => (f.offset, f.type)) = fs') (hsz : P.cellsOf t = k.sz)
    (h : OpensF enc P W 0 fs' k wf) : Opens enc P W t k wf := by
  subst hf
  intro fuel cs x hx hw
  obtain ⟨xs, n, rfl, rfl, hl, hxl, hr⟩ := DataW.trod_struct ht hx
  have := h n cs xs (by rw [hl, hsz]; omega) (by simp [hxl]) (fun i f hf => by
      rw [List.getElem?_map] at hf
      obtain ⟨g, hg, rfl⟩ := Option.map_eq_some_iff.1 hf
      exact hr i g (by simpa using hg)) (fun i f y hf hy m hm => by
      rw [List.getElem?_map] at hf
      obtain ⟨g, hg, rfl⟩ := Option.map_eq_some_iff.1 hf
      refine hw m ?_
      simp only [DataW.weights, ht]
      exact mem_weightsEach (j := i) (by rw [List.getElem?_map, hg]; rfl) (by rw [List.getElem?_map, hy]; rfl) m hm)
  simpa using this

theorem Opens.array {t e : TypeId} {n : Nat} {fs' : List (Nat × TypeId)} {k : Kd α} {wf : α → Prop} (ht : P.underlying t = some (.array n e)) (hf : (List.range n).map (fun i => (i * P.cellsOf e, e)) = fs') (hsz : P.cellsOf t = k.sz)
    (h : OpensF enc P W 0 fs' k wf) : Opens enc P W t k wf := by
  subst hf
  intro fuel cs x hx hw
  obtain ⟨xs, m, rfl, rfl, hl, hxl, hr⟩ := DataW.trod_array ht hx
  have := h m cs xs (by rw [hl, hsz]; omega) (by simp [hxl]) (fun i f hf => by
      rw [List.getElem?_map] at hf
      obtain ⟨g, hg, rfl⟩ := Option.map_eq_some_iff.1 hf
      have hi : i < n := by have := (List.getElem?_eq_some_iff.1 hg).1; simpa using this
      rw [List.getElem?_range hi] at hg
      obtain rfl := Option.some.inj hg
      exact hr i hi) (fun i f y hf hy q hq => by
      rw [List.getElem?_map] at hf
      obtain ⟨g, hg, rfl⟩ := Option.map_eq_some_iff.1 hf
      refine hw q ?_
      simp only [DataW.weights, ht]
      exact mem_weightsAll (i := i) (by rw [List.getElem?_map, hy]; rfl) q hq)
  simpa using this

theorem Opens.iso {t : TypeId} {d : Kd α} {f : β → α} {wf : α → Prop} {wf' : β → Prop} (g : α → β) (hg : ∀ a, f (g a) = a) (hw : ∀ a, wf a → wf' (g a)) (h : Opens enc P W t d wf) : Opens enc P W t (Kd.iso d f) wf' := by
  intro fuel cs x hx hwt
  obtain ⟨a, ka, wa⟩ := h fuel cs x hx hwt
  refine ⟨g a, ?_, hw a wa⟩
  show d.K W (f (g a)) cs
  rw [hg]; exact ka

/-- An argument, opened: the value's cells by its kind; its weight comes out of the row's. -/
theorem Opens.arg {t : TypeId} {k : Kd α} {wf : α → Prop} {v : Value} {d : DataW H} {p : List MemPlace} (h : Opens enc P W t k wf) (hd : DataW.Trod enc P W 0 (fun _ => true) true t v d p)
    {ts : List TypeId} {ds : List (DataW H)} (hsz : (DataW.weightsEach P ts ds).all (· ≤ reachBytes) = true) {j : Nat} (h1 : ts[j]? = some t) (h2 : ds[j]? = some d) : ∃ a, k.K W a v.cells.toList ∧ wf a := by
  obtain ⟨fuel, hf⟩ := hd
  refine h fuel _ _ hf fun n hn => ?_
  have := List.all_eq_true.1 hsz n (mem_weightsEach h1 h2 n hn)
  simpa using this

theorem okWide_array {t e : TypeId} {n : Nat} {r : Reach} {b0 : Nat} {v : Value} (ht : P.underlying t = some (.array n e)) (h : Value.okWide P W r b0 t v) : ∃ cs, v = .agg cs ∧ cs.size = P.cellsOf t := by
  simp only [Value.okWide, ht] at h
  obtain ⟨cs, h1, h2, _⟩ := h
  exact ⟨cs, h1, h2⟩

/-- .. a slice. -/
theorem Opens.argSlice {t e : TypeId} {k : Kd α} {wf : List α → Prop} {v : Value} {d : DataW H} {p : List MemPlace} (ht : P.underlying t = some (.slice e)) (h : Opens enc P W t (Kd.slice e k) wf)
    {r : Reach} {b0 : Nat} (hv : Value.okWide P W r b0 t v) (hd : DataW.Trod enc P W 0 (fun _ => true) true t v d p)
    {ts : List TypeId} {ds : List (DataW H)} (hsz : (DataW.weightsEach P ts ds).all (· ≤ reachBytes) = true) {j : Nat} (h1 : ts[j]? = some t) (h2 : ds[j]? = some d) :
    ∃ A c l, v = .slice A l.length c ∧ l.length ≤ c ∧ k.C W A l.length l ∧ wf l := by
  obtain ⟨l, ⟨A, c, he, hl, hC⟩, hw⟩ := h.arg hd hsz h1 h2
  obtain ⟨a, len, cap, rfl⟩ := Go.WideShapes.okWide_slice ht hv
  simp [Value.cells] at he
  obtain ⟨rfl, rfl, rfl⟩ := he
  exact ⟨a, cap, l, rfl, hl, hC, hw⟩

end Go.Proofs.Ytdchljjhajbehaa.XO
