/-
  FROM AN ARGUMENT's READING TO WHAT THE MIRRORS TAKE, type by type.
-/
import Derived.Test.YtpihabofmnnbbaaDoorWrap
import Derived.Deep.Slices
namespace Go.Proofs.YtpihabofmnnbbaaDoor.Wrap
open Go Go.ChangeShapes Go.WideShapes Go.ChangeAt Go.RowKit Rt

/-- whatever reads at type T reads as r says, and what it reads as is right -/
def Opens (P : Program) (W : World) (T : TypeId) {α : Type} (r : Rp α) (ok : α → Prop) : Prop :=
  ∀ {H : Type} (enc : TypeId × Value → H) (fuel : Nat) (cs : List Value) (x : DataW H × List MemPlace), DataW.trod enc P W 0 (fun _ => true) true fuel T cs = some x → ∃ y, r.R (all W) cs y ∧ ok y

section
variable {P : Program} {W : World} {T : TypeId}
theorem opens_int {k : IntKind} (ht : P.underlying T = some (.int k)) : Opens P W T (Rp.int k) (fun z => k.min ≤ z ∧ z ≤ k.max) := by
  intro H enc fuel cs x h
  obtain ⟨n, rfl, _, hw⟩ := DataW.trod_int ht h
  exact ⟨n, rfl, by simpa [Lit.wf] using hw⟩
theorem opens_bool (ht : P.underlying T = some .bool) : Opens P W T Rp.bool (fun _ => True) := by
  intro H enc fuel cs x h
  obtain ⟨b, rfl, _⟩ := DataW.trod_bool ht h
  exact ⟨b, rfl, trivial⟩
theorem opens_str (ht : P.underlying T = some .string) : Opens P W T Rp.str (fun s => s.length ≤ maxLen) := by
  intro H enc fuel cs x h
  obtain ⟨s, rfl, _, hs⟩ := DataW.trod_string ht h
  exact ⟨s.data.toList, by rw [vs_of]; rfl, by simpa using hs⟩

theorem row_of {α : Type} {r : Rp α} {F : Frz} {k : Nat} (hk : r.k = k) : ∀ (n : Nat) (C : Nat → List Value) (X : Nat → α), (∀ i, i < n → r.R F (C i) (X i)) → RowR r F ((List.range n).flatMap C) ((List.range n).map X)
  | 0, _, _, _ => by simp [RowR]
  | n + 1, C, X, h => by
    rw [List.range_succ, List.flatMap_append, List.map_append]
    refine RowR.append ?_ (row_of hk n C X fun i hi => h i (by omega))
    simpa [RowR] using h n (by omega)

theorem flat_len {k : Nat} : ∀ (n : Nat) (C : Nat → List Value), (∀ i, i < n → (C i).length = k) → ((List.range n).flatMap C).length = n * k
  | 0, _, _ => by simp
  | n + 1, C, h => by
    rw [List.range_succ, List.flatMap_append, List.length_append, flat_len n C fun i hi => h i (by omega)]
    simp [h n (by omega), Nat.add_mul]
theorem flat_get {k : Nat} : ∀ (n : Nat) (C : Nat → List Value), (∀ i, i < n → (C i).length = k) → ∀ i j, i < n → j < k → ((List.range n).flatMap C)[i * k + j]? = (C i)[j]?
  | 0, _, _, _, _, hi, _ => by omega
  | n + 1, C, h, i, j, hi, hj => by
    have hl := flat_len n C fun i hi => h i (by omega)
    rw [List.range_succ, List.flatMap_append]
    by_cases e : i = n
    · subst e
      rw [List.getElem?_append_right (by omega), hl]
      simp
    · have h1 : i * k + j < n * k := by
        have h2 : (i + 1) * k ≤ n * k := Nat.mul_le_mul_right _ (by omega)
        rw [Nat.add_mul] at h2; omega
      rw [List.getElem?_append_left (by omega)]
      exact flat_get n C (fun i hi => h i (by omega)) i j (by omega) hj

/-- cells that are read one by one lie in one block -/
theorem fc_of {b o : Nat} {l : List Value} (h : ∀ i v, l[i]? = some v → W.cell? ⟨b, o + i, none⟩ = some v) (h0 : l ≠ []) : FC (all W) b o l := by
  have h1 := h 0 (l.head h0) (by rw [← List.head?_eq_getElem?, List.head?_eq_some_head h0])
  unfold World.cell? at h1
  cases hb : W.heap[b]? with
  | none => simp [hb] at h1
  | some ob =>
    cases ob with
    | cells cells t fz =>
      refine ⟨cells, t, fz, hb, ?_⟩
      rw [List.prefix_iff_getElem?]
      intro i hi
      have h2 := h i l[i] (by simp [hi])
      simp only [World.cell?, hb] at h2
      rw [List.getElem?_drop, Array.getElem?_toList]
      simpa using h2
    | _ => simp [hb] at h1

theorem add_add (a : Addr) (i j : Nat) : (a.add i).add j = a.add (i + j) := by
  unfold Addr.add
  by_cases hi : i = 0
  · subst hi; simp
  · by_cases hj : j = 0
    · subst hj; simp
    · simp [hi, hj, Nat.add_assoc]
theorem opens_slice {e : TypeId} {α : Type} {r : Rp α} {ok : α → Prop} (ht : P.underlying T = some (.slice e)) (hc : P.cellsOf e = r.k) (hp : 0 < r.k) (he : Opens P W e r ok) :
    Opens P W T (Rp.sl r) (fun l => l.length ≤ maxLen ∧ ∀ x ∈ l, ok x) := by
  intro H enc fuel cs x h
  rcases Go.Deep.open_slice ht h with ⟨rfl, _⟩ | ⟨a, len, cap, m, n, D, Pl, rfl, _, hl, hm, hmm, _, hx⟩
  · exact ⟨[], ⟨none, 0, 0, rfl, SlR.nil r _⟩, by simp [maxLen], by simp⟩
  simp only [if_true] at hmm
  have hx' : ∀ i, i < len → ∃ q : List Value × α, W.cells? 0 (a.add (i * P.cellsOf e)) (P.cellsOf e) = some q.1 ∧ r.R (all W) q.1 q.2 ∧ ok q.2 := by
    intro i hi
    obtain ⟨cs', h1, h2⟩ := hx i (by omega)
    obtain ⟨y, h3, h4⟩ := he enc _ _ _ h2
    exact ⟨(cs', y), h1, h3, h4⟩
  by_cases h0 : len = 0
  · subst h0
    exact ⟨[], ⟨some a, 0, cap, rfl, rfl, by simp, hm, .inl rfl⟩, by simp [maxLen], by simp⟩
  obtain ⟨d, _⟩ := hx' 0 (by omega)
  have hne : Nonempty (List Value × α) := ⟨d⟩
  obtain ⟨Q, hQ⟩ : ∃ Q : Nat → List Value × α, ∀ i, i < len → W.cells? 0 (a.add (i * P.cellsOf e)) (P.cellsOf e) = some (Q i).1 ∧ r.R (all W) (Q i).1 (Q i).2 ∧ ok (Q i).2 :=
    ⟨fun i => if hi : i < len then Classical.choose (hx' i hi) else d, fun i hi => by simp only [hi, dif_pos]; exact Classical.choose_spec (hx' i hi)⟩
  have hlen : ∀ i, i < len → (Q i).1.length = r.k := fun i hi => r.len (hQ i hi).2.1
  have hrow := row_of (r := r) rfl len (fun i => (Q i).1) (fun i => (Q i).2) fun i hi => (hQ i hi).2.1
  have hcell : ∀ i j, i < len → j < r.k → W.cell? (a.add (i * r.k + j)) = (Q i).1[j]? := by
    intro i j hi hj
    have h1 := (World.cells?_some (hQ i hi).1).2.2 j (by rw [hc]; exact hj)
    rw [hc] at h1
    rwa [add_add] at h1
  have hspot : a.spot = none := by
    have h1 := hcell 0 0 (by omega) hp
    have h2 := hlen 0 (by omega)
    rw [List.getElem?_eq_getElem (by omega)] at h1
    have e0 : a.add (0 * r.k + 0) = a := by simp [Addr.add]
    rw [e0] at h1
    exact World.cell?_spot h1
  obtain ⟨b, o, spot⟩ := a
  simp only at hspot
  subst hspot
  have hflen := flat_len len (fun i => (Q i).1) hlen
  refine ⟨(List.range len).map fun i => (Q i).2, ⟨some ⟨b, o, none⟩, len, cap, by simp, by simp, by simpa using hl, hm, .inr ⟨b, o, _, rfl, fc_of ?_ ?_, hrow⟩⟩, by simpa using Nat.le_trans hl hm, ?_⟩
  · intro i v hv
    have hi : i < len * r.k := by rw [← hflen]; exact (List.getElem?_eq_some_iff.1 hv).1
    have h1 : i / r.k < len := Nat.div_lt_of_lt_mul (by rw [Nat.mul_comm]; exact hi)
    have h2 : i % r.k < r.k := Nat.mod_lt _ hp
    have h3 : i / r.k * r.k + i % r.k = i := Nat.div_add_mod' i r.k
    have h4 := hcell _ _ h1 h2
    have h5 := flat_get len (fun i => (Q i).1) hlen _ _ h1 h2
    rw [h3] at h4 h5
    rw [h5] at hv
    rw [hv, Go.WideShapes.add_plain] at h4
    exact h4
  · intro e0
    have := congrArg List.length e0
    rw [hflen] at this
    have : 0 < len * r.k := Nat.mul_pos (by omega) hp
    simp only [List.length_nil] at *
    omega
  · intro x hx
    obtain ⟨i, hi, rfl⟩ := List.mem_map.1 hx
    exact (hQ i (List.mem_range.1 hi)).2.2

/-- one field of a struct that is read: its cells, and what they read as -/
theorem field_of {fs : Array Field} {H : Type} {enc : TypeId × Value → H} {n : Nat} {cs : List Value} {xs : List (DataW H × List MemPlace)} (hl : xs.length = fs.size)
    (h : ∀ (i : Nat) (f : Field), fs[i]? = some f → DataW.trod enc P W 0 (fun _ => true) true n f.type ((cs.drop f.offset).take (P.cellsOf f.type)) = xs[i]?)
    {i : Nat} {f : Field} (hf : fs[i]? = some f) {α : Type} {r : Rp α} {ok : α → Prop} (ho : Opens P W f.type r ok) : ∃ y, r.R (all W) ((cs.drop f.offset).take (P.cellsOf f.type)) y ∧ ok y := by
  have h1 := h i f hf
  have h2 : i < xs.length := by rw [hl]; exact (Array.getElem?_eq_some_iff.1 hf).1
  rw [List.getElem?_eq_getElem h2] at h1
  exact ho enc _ _ _ h1
theorem cut_step (cs : List Value) (o k : Nat) : cs.drop o = (cs.drop o).take k ++ cs.drop (o + k) := by
  rw [← List.drop_drop, List.take_append_drop]

theorem open_arg {α : Type} {r : Rp α} {ok : α → Prop} (ho : Opens P W T r ok) {H : Type} {enc : TypeId × Value → H} {v : Value} {d : DataW H} {ps : List MemPlace} (h : DataW.Trod enc P W 0 (fun _ => true) true T v d ps) : ∃ y, r.R (all W) v.cells.toList y ∧ ok y := by
  obtain ⟨fuel, hf⟩ := h
  exact ho enc _ _ _ hf
/-- a slice among the arguments -/
theorem open_sl {e : TypeId} {α : Type} {r : Rp α} {ok : List α → Prop} (ht : P.underlying T = some (.slice e)) (ho : Opens P W T (Rp.sl r) ok) {b0 : Nat} {re : Reach} {H : Type} {enc : TypeId × Value → H} {v : Value} {d : DataW H} {ps : List MemPlace}
    (hval : Value.okWide P W re b0 T v) (h : DataW.Trod enc P W 0 (fun _ => true) true T v d ps) : ∃ a n c l, v = .slice a n c ∧ SlR r (all W) a n c l ∧ ok l := by
  obtain ⟨a0, n0, c0, rfl⟩ := okWide_slice ht hval
  obtain ⟨y, ⟨a, m, c, h1, h2⟩, h3⟩ := open_arg ho h
  simp only [Value.cells, List.cons.injEq, and_true] at h1
  exact ⟨a, m, c, y, h1, h2, h3⟩
end
end Go.Proofs.YtpihabofmnnbbaaDoor.Wrap
