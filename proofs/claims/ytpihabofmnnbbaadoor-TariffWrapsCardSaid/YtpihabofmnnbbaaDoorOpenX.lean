/-
  A SLICE THAT IS READ, with the fuel's count: for types that lead back to themselves.
-/
import Derived.Test.YtpihabofmnnbbaaDoorOpen
namespace Go.Proofs.YtpihabofmnnbbaaDoor.Wrap
open Go Go.ChangeShapes Go.WideShapes Go.ChangeAt Go.RowKit Rt

section
variable {P : Program} {W : World} {T : TypeId}
theorem slice_at {e : TypeId} {α : Type} {r : Rp α} {ok : α → Prop} {H : Type} {enc : TypeId × Value → H} {fuel : Nat} {cs : List Value} {x : DataW H × List MemPlace} (ht : P.underlying T = some (.slice e)) (hc : P.cellsOf e = r.k) (hp : 0 < r.k)
    (h : DataW.trod enc P W 0 (fun _ => true) true fuel T cs = some x) (he : ∀ (n : Nat) (cs' : List Value) (x' : DataW H × List MemPlace), fuel = n + 1 → DataW.trod enc P W 0 (fun _ => true) true n e cs' = some x' → ∃ y, r.R (all W) cs' y ∧ ok y) :
    ∃ l, (Rp.sl r).R (all W) cs l ∧ (l.length ≤ maxLen ∧ ∀ x ∈ l, ok x) := by
  rcases DataW.trod_slice ht h with ⟨rfl, _⟩ | ⟨a, len, cap, elems, rest, n, hfu, rfl, _, _, hl, hm, hlen0, hel, _, _⟩
  · exact ⟨[], ⟨none, 0, 0, rfl, SlR.nil r _⟩, by simp [maxLen], by simp⟩
  have hx' : ∀ i, i < len → ∃ q : List Value × α, W.cells? 0 (a.add (i * P.cellsOf e)) (P.cellsOf e) = some q.1 ∧ r.R (all W) q.1 q.2 ∧ ok q.2 := by
    intro i hi
    have h1 := hel i hi
    have h2 : i < elems.length := by omega
    rw [List.getElem?_eq_getElem h2, Option.bind_eq_some_iff] at h1
    obtain ⟨cs', h3, h4⟩ := h1
    obtain ⟨y, h5, h6⟩ := he n cs' _ hfu h4
    exact ⟨(cs', y), h3, h5, h6⟩
  by_cases h0 : len = 0
  · subst h0
    exact ⟨[], ⟨some a, 0, cap, rfl, rfl, by simp, hm, .inl rfl⟩, by simp [maxLen], by simp⟩
  obtain ⟨d, _⟩ := hx' 0 (by omega)
  have hne : Nonempty (List Value × α) := ⟨d⟩
  obtain ⟨Q, hQ⟩ : ∃ Q : Nat → List Value × α, ∀ i, i < len → W.cells? 0 (a.add (i * P.cellsOf e)) (P.cellsOf e) = some (Q i).1 ∧ r.R (all W) (Q i).1 (Q i).2 ∧ ok (Q i).2 :=
    ⟨fun i => if hi : i < len then Classical.choose (hx' i hi) else d, fun i hi => by simp only [hi, dif_pos]; exact Classical.choose_spec (hx' i hi)⟩
  have hlen : ∀ i, i < len → (Q i).1.length = r.k := fun i hi => r.len (hQ i hi).2.1
  have hrow := row_of (r := r) rfl len (fun i => (Q i).1) (fun i => (Q i).2) fun i hi => (hQ i hi).2.1
  have hcell : ∀ i j, i < len → j < r.k → W.cell? (a.add (i * r.k + j)) = (Q i).1[j]? := by
    intro i j hi hj
    have h1 := (World.cells?_some (hQ i hi).1).2.2 j (by rw [hc]; exact hj)
    rw [hc] at h1
    rwa [add_add] at h1
  have hspot : a.spot = none := by
    have h1 := hcell 0 0 (by omega) hp
    have h2 := hlen 0 (by omega)
    rw [List.getElem?_eq_getElem (by omega)] at h1
    have e0 : a.add (0 * r.k + 0) = a := by simp [Addr.add]
    rw [e0] at h1
    exact World.cell?_spot h1
  obtain ⟨b, o, spot⟩ := a
  simp only at hspot
  subst hspot
  have hflen := flat_len len (fun i => (Q i).1) hlen
  refine ⟨(List.range len).map fun i => (Q i).2, ⟨some ⟨b, o, none⟩, len, cap, by simp, by simp, by simpa using hl, hm, .inr ⟨b, o, _, rfl, fc_of ?_ ?_, hrow⟩⟩, by simpa using Nat.le_trans hl hm, ?_⟩
  · intro i v hv
    have hi : i < len * r.k := by rw [← hflen]; exact (List.getElem?_eq_some_iff.1 hv).1
    have h1 : i / r.k < len := Nat.div_lt_of_lt_mul (by rw [Nat.mul_comm]; exact hi)
    have h2 : i % r.k < r.k := Nat.mod_lt _ hp
    have h3 : i / r.k * r.k + i % r.k = i := Nat.div_add_mod' i r.k
    have h4 := hcell _ _ h1 h2
    have h5 := flat_get len (fun i => (Q i).1) hlen _ _ h1 h2
    rw [h3] at h4 h5
    rw [h5] at hv
    rw [hv, Go.WideShapes.add_plain] at h4
    exact h4
  · intro e0
    have := congrArg List.length e0
    rw [hflen] at this
    have : 0 < len * r.k := Nat.mul_pos (by omega) hp
    simp only [List.length_nil] at *
    omega
  · intro x hx
    obtain ⟨i, hi, rfl⟩ := List.mem_map.1 hx
    exact (hQ i (List.mem_range.1 hi)).2.2
end
end Go.Proofs.YtpihabofmnnbbaaDoor.Wrap
